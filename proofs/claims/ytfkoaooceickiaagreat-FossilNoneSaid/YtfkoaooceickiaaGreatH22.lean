/- Parts of the proof: Ok Oq Or Ec. -/
import Derived.Test.YtfkoaooceickiaaGreatRows
import Derived.Deep.Slices
import Derived.ProofKit
import Derived.SizedLaws
import Derived.Laws.Cover2
import Derived.Carry
import Derived.Test.YtfkoaooceickiaaGreatH02
import Derived.Test.YtfkoaooceickiaaGreatH03
set_option linter.all false
set_option maxRecDepth 100000
namespace Go.Proofs.YtfkoaooceickiaaGreat
section
open Go.ChangeShapes Go.WideShapes Go.ChangeAt Go.RowKit Go.Deep
theorem own : ownKnob Tryz.prog.godebug = none := by kernel_rfl
theorem laid : laidOutB Tryz.prog = true := by kernel_rfl
section
variable {H : Type} {enc : TypeId × Value → H}
theorem trodAll_below {P : Program} {W W' : World} (hl : laidOutB P = true) (hb : Below W.heap.size W W') : ∀ {ts : List TypeId} {vs : List Value} {ds : List (DataW H)} {ps : List MemPlace},
  DataW.TrodAll enc P W 0 (fun _ => true) true ts vs ds ps → (∀ t ∈ ts, P.readableRec t = true ∧ t < P.types.size) →
  DataW.TrodAll enc P W' 0 (fun b => decide (b < W.heap.size)) true ts vs ds ps
 | [], [], [], _, h, _ => h
 | t :: ts, v :: vs, d :: ds, _, h, ht => by
  obtain ⟨p, q, h1, h2, rfl⟩ := h
  obtain ⟨a, b⟩ := ht t (by simp)
  refine ⟨p, q, Below.trod hl a b h1 hb ?_, trodAll_below hl hb h2 (fun t ht' => ht t (by simp [ht'])), rfl⟩
  obtain ⟨fuel, hf⟩ := h1
  exact DataW.trod_lt _ _ _ _ hf
 | [], [], _ :: _, _, h, _ => h.elim
 | [], _ :: _, _, _, h, _ => h.elim
 | _ :: _, [], _, _, h, _ => h.elim
 | _ :: _, _ :: _, [], _, h, _ => h.elim
end
end
section
open Go.ChangeShapes Go.WideShapes Go.ChangeAt Go.RowKit Go.Deep
section
variable {H : Type} {enc : TypeId × Value → H} {P : Program} {w : World} {base : Nat} {spare : Nat → Bool} {held : Bool}
theorem mapM_some {α β : Type} (f : α → Option β) : ∀ (l : List α) (ys : List β), l.mapM f = some ys → ∀ a ∈ l, ∃ b, f a = some b := by
 intro l
 induction l with
 | nil => intro ys _ a ha; cases ha
 | cons x l ih =>
  intro ys h a ha
  rw [List.mapM_cons] at h
  cases hx : f x with
  | none => rw [hx] at h; cases h
  | some b =>
   cases hl : l.mapM f with
   | none => rw [hx, hl] at h; cases h
   | some bs =>
    cases ha with
    | head => exact ⟨b, hx⟩
    | tail _ ha => exact ih bs hl a ha
theorem trod_fields {t : TypeId} {fs : Array Field} {n : Nat} {cs : List Value} {x : DataW H × List MemPlace} (hu : P.underlying t = some (.struct fs)) (h : DataW.trod enc P w base spare held (n + 1) t cs = some x) :
  cs.length = P.cellsOf t ∧ ∀ f ∈ fs.toList, ∃ y, DataW.trod enc P w base spare held n f.type ((cs.drop f.offset).take (P.cellsOf f.type)) = some y := by
 simp only [DataW.trod, hu] at h
 split at h
 ·rename_i hl
  refine ⟨hl, ?_⟩
  cases hm : fs.toList.mapM fun f => DataW.trod enc P w base spare held n f.type ((cs.drop f.offset).take (P.cellsOf f.type)) with
  | none => rw [hm] at h; cases h
  | some ys => exact mapM_some _ _ ys hm
 ·cases h
theorem leaf_int {t : TypeId} {k : IntKind} {n : Nat} {c : Value} {x : DataW H × List MemPlace} (hu : P.underlying t = some (.int k)) (h : DataW.trod enc P w base spare held n t [c] = some x) : ∃ z, c = .int k z ∧ (Lit.int k z).wf = true := by
 cases n with
 | zero => cases h
 | succ n =>
  cases c <;> simp [DataW.trod, hu] at h
  rename_i k' z
  obtain ⟨⟨rfl, hw⟩, _⟩ := h
  exact ⟨z, rfl, hw⟩
theorem leaf_float {t : TypeId} {k : FloatKind} {n : Nat} {c : Value} {x : DataW H × List MemPlace} (hu : P.underlying t = some (.float k)) (h : DataW.trod enc P w base spare held n t [c] = some x) : ∃ z, c = .float k z ∧ (Lit.float k z).wf = true := by
 cases n with
 | zero => cases h
 | succ n =>
  cases c <;> simp [DataW.trod, hu] at h
  rename_i k' z
  obtain ⟨⟨rfl, hw⟩, _⟩ := h
  exact ⟨z, rfl, hw⟩
theorem wf_float {b : Nat} (h : (Lit.float .f64 b).wf = true) : b < 18446744073709551616 := by
 simpa [Lit.wf, FloatKind.has] using h
theorem wf_int {z : Int} (h : (Lit.int .i64 z).wf = true) : -9223372036854775808 ≤ z ∧ z < 9223372036854775808 := by
 have := h
 simp [Lit.wf, IntKind.has, IntKind.min, IntKind.max, IntKind.signed, IntKind.bits] at this
 omega
end
theorem cellsInt : Tryz.prog.cellsOf 3 = 1 := by kernel_rfl
theorem cellsFloat : Tryz.prog.cellsOf 22 = 1 := by kernel_rfl
end
section
open Go.ChangeShapes Go.WideShapes Go.ChangeAt Go.RowKit Go.Deep
section
variable {H : Type} {enc : TypeId × Value → H} {w : World} {spare : Nat → Bool} {held : Bool}
theorem open_rows {α : Type} (d0 : α) {k : Nat} {encA : α → List Value} {R : α → Prop} {t e : TypeId} (ht : Tryz.prog.underlying t = some (.slice e)) (hc : Tryz.prog.cellsOf e = k) (hk0 : 0 < k) (hk : ∀ x, (encA x).length = k)
  (ho : ∀ (fuel : Nat) (cs : List Value) (x : DataW H × List MemPlace), DataW.trod enc Tryz.prog w 0 spare held fuel e cs = some x → ∃ y, cs = encA y ∧ R y) {fuel : Nat} {v : Value} {x : DataW H × List MemPlace} (h : DataW.trod enc Tryz.prog w 0 spare held fuel t [v] = some x) :
  ∃ (p : Option Addr) (n c : Nat) (l : List α), v = .slice p n c ∧ n = l.length ∧ Vw k encA w (.slice p n c) l ∧ ∀ y ∈ l, R y := by
 rcases open_slice ht h with ⟨hcs, _⟩ | ⟨a, len, cap, m, n, D, Pl, hcs, _, hl, hm, hmm, _, hel⟩
 ·simp at hcs
  subst hcs
  exact ⟨none, 0, 0, [], rfl, rfl, Vw.nil _ _ _ _ _, by simp⟩
 ·simp at hcs
  subst hcs
  have hlm : len ≤ m := by rw [hmm]; split <;> omega
  have h1 : ∀ i, ∃ y : α, i < len → (R y ∧ ∃ cs', w.cells? 0 (a.add (i * k)) k = some cs' ∧ cs' = encA y) := by
   intro i
   by_cases hi : i < len
   ·obtain ⟨cs', h1, h2⟩ := hel i (by omega)
    rw [hc] at h1
    obtain ⟨y, hy, hr⟩ := ho _ _ _ h2
    exact ⟨y, fun _ => ⟨hr, cs', h1, hy⟩⟩
   ·exact ⟨d0, fun h => absurd h hi⟩
  obtain ⟨F, hF⟩ := Classical.axiomOfChoice h1
  have hg : ∀ i y, ((List.range len).map F)[i]? = some y → i < len ∧ y = F i := fun i y hy => by
   have hi : i < len := by
    have := (List.getElem?_eq_some_iff.1 hy).1
    simpa using this
   refine ⟨hi, ?_⟩
   simp [hi] at hy
   exact hy.symm
  refine ⟨some a, len, cap, (List.range len).map F, rfl, by simp, ⟨some a, cap, by simp, by simpa using hl, ?_⟩, ?_⟩
  ·by_cases h0 : len = 0
   ·left; simp [h0]
   ·right
    obtain ⟨b, off, spot⟩ := a
    have hcell : ∀ i j, i < len → j < k → w.cell? ((⟨b, off, spot⟩ : Addr).add (i * k + j)) = (encA (F i))[j]? := by
     intro i j hi hj
     obtain ⟨_, cs', h1, h2⟩ := hF i hi
     rw [h2] at h1
     have h3 := World.cells?_some h1
     rw [← add_add]
     exact h3.2.2 j hj
    have hsome : ∀ j, j < k → ∃ u, (encA (F 0))[j]? = some u := fun j hj => ⟨_, List.getElem?_eq_getElem (by rw [hk]; exact hj)⟩
    have hspot : spot = none := by
     obtain ⟨u, hu⟩ := hsome 0 hk0
     have := (hcell 0 0 (by omega) hk0).trans hu
     simpa [Addr.add] using World.cell?_spot this
    subst hspot
    have hcell' : ∀ i j, i < len → j < k → w.cell? ⟨b, off + i * k + j, none⟩ = (encA (F i))[j]? := by
     intro i j hi hj
     have := hcell i j hi hj
     rw [add_plain] at this
     rw [← this]
     congr 2
     omega
    refine ⟨b, off, rfl, ?_, fun i y hy q u hu => ?_⟩
    ·obtain ⟨u, hu⟩ := hsome 0 hk0
     exact World.block_lt_of_cell? w _ ((hcell' 0 0 (by omega) hk0).trans hu)
    ·obtain ⟨hi, rfl⟩ := hg i y hy
     have hq : q < k := by
      have := (List.getElem?_eq_some_iff.1 hu).1
      rwa [hk] at this
     exact (hcell' i q hi hq).trans hu
  ·intro y hy
   rw [List.mem_map] at hy
   obtain ⟨i, hi, rfl⟩ := hy
   exact (hF i (by simpa using hi)).1
end
end
section
open Go.ChangeShapes Go.WideShapes Go.ChangeAt Go.RowKit Go.Deep
theorem cellsIns : Tryz.prog.cellsOf 192 = 4 := by kernel_rfl
theorem cellsProg : Tryz.prog.cellsOf 113 = 1 := by kernel_rfl
theorem cellsLP : Tryz.prog.cellsOf 115 = 2 := by kernel_rfl
theorem cellsIntsM : Tryz.prog.cellsOf 32 = 1 := by kernel_rfl
theorem cellsInit : Tryz.prog.cellsOf 152 = 3 := by kernel_rfl
theorem cellsFloats : Tryz.prog.cellsOf 23 = 1 := by kernel_rfl
theorem cellsProgs : Tryz.prog.cellsOf 24 = 1 := by kernel_rfl
theorem cellsLPs : Tryz.prog.cellsOf 25 = 1 := by kernel_rfl
theorem cellsInits : Tryz.prog.cellsOf 26 = 1 := by kernel_rfl
theorem cellsModel : Tryz.prog.cellsOf 28 = 6 := by kernel_rfl
section
variable {H : Type} {enc : TypeId × Value → H} {w : World} {spare : Nat → Bool} {held : Bool} {fuel : Nat} {cs : List Value} {x : DataW H × List MemPlace}
theorem open_rows_cs {α : Type} (d0 : α) {k : Nat} {encA : α → List Value} {R : α → Prop} {t e : TypeId} (ht : Tryz.prog.underlying t = some (.slice e)) (hc : Tryz.prog.cellsOf e = k) (hk0 : 0 < k) (hk : ∀ x, (encA x).length = k)
  (ho : ∀ (fuel : Nat) (cs : List Value) (x : DataW H × List MemPlace), DataW.trod enc Tryz.prog w 0 spare held fuel e cs = some x → ∃ y, cs = encA y ∧ R y) (h : DataW.trod enc Tryz.prog w 0 spare held fuel t cs = some x) :
  ∃ (p : Option Addr) (n c : Nat) (l : List α), cs = [.slice p n c] ∧ n = l.length ∧ Vw k encA w (.slice p n c) l ∧ ∀ y ∈ l, R y := by
 have h1 : ∃ v, cs = [v] := by
  rcases open_slice ht h with ⟨hcs, _⟩ | ⟨a, len, cap, m, n, D, Pl, hcs, _⟩
  ·exact ⟨_, hcs⟩
  ·exact ⟨_, hcs⟩
 obtain ⟨v, rfl⟩ := h1
 obtain ⟨p, n, c, l, rfl, h2, h3, h4⟩ := open_rows d0 ht hc hk0 hk ho h
 exact ⟨p, n, c, l, rfl, h2, h3, h4⟩
theorem open_ins (h : DataW.trod enc Tryz.prog w 0 spare held fuel 192 cs = some x) : ∃ y : In, cs = inC y ∧ y.ok := by
 cases fuel with
 | zero => cases h
 | succ n =>
  obtain ⟨hl, hf⟩ := trod_fields Tryz.underlying192 h
  rw [cellsIns] at hl
  match cs, hl with
  | [c0, c1, c2, c3], _ =>
   simp [cellsInt] at hf
   obtain ⟨⟨_, _, h0⟩, ⟨_, _, h1⟩, ⟨_, _, h2⟩, ⟨_, _, h3⟩⟩ := hf
   obtain ⟨z0, rfl, w0⟩ := leaf_int Tryz.underlying3 h0
   obtain ⟨z1, rfl, w1⟩ := leaf_int Tryz.underlying3 h1
   obtain ⟨z2, rfl, w2⟩ := leaf_int Tryz.underlying3 h2
   obtain ⟨z3, rfl, w3⟩ := leaf_int Tryz.underlying3 h3
   exact ⟨⟨z0, z1, z2, z3⟩, rfl, wf_int w0, wf_int w1, wf_int w2, wf_int w3⟩
theorem open_prg (h : DataW.trod enc Tryz.prog w 0 spare held fuel 113 cs = some x) : ∃ q : Prg, cs = prC q ∧ q.n = q.l.length ∧ Vw 4 inC w (.slice q.p q.n q.c) q.l ∧ ∀ y ∈ q.l, y.ok := by
 obtain ⟨p, n, c, l, h1, h2, h3, h4⟩ := open_rows_cs (R := fun y : In => y.ok) ⟨0, 0, 0, 0⟩ Tryz.underlying113 cellsIns (by decide) inC_len (fun _ _ _ h => open_ins h) h
 exact ⟨⟨p, n, c, l⟩, h1, h2, h3, h4⟩
theorem len1 {t : TypeId} (hu : Tryz.prog.underlying t = some (.int .i64)) (h : DataW.trod enc Tryz.prog w 0 spare held fuel t cs = some x) : ∃ c, cs = [c] := by
 cases fuel with
 | zero => cases h
 | succ n =>
  rcases cs with _ | ⟨c, _ | ⟨c2, t⟩⟩
  ·simp [DataW.trod, hu] at h
  ·exact ⟨c, rfl⟩
  ·cases c <;> simp [DataW.trod, hu] at h
theorem lenF {t : TypeId} (hu : Tryz.prog.underlying t = some (.float .f64)) (h : DataW.trod enc Tryz.prog w 0 spare held fuel t cs = some x) : ∃ c, cs = [c] := by
 cases fuel with
 | zero => cases h
 | succ n =>
  rcases cs with _ | ⟨c, _ | ⟨c2, t⟩⟩
  ·simp [DataW.trod, hu] at h
  ·exact ⟨c, rfl⟩
  ·cases c <;> simp [DataW.trod, hu] at h
theorem open_int1 (h : DataW.trod enc Tryz.prog w 0 spare held fuel 3 cs = some x) : ∃ z : Int, cs = wdC z ∧ okZ z := by
 obtain ⟨c, rfl⟩ := len1 Tryz.underlying3 h
 obtain ⟨z0, rfl, w0⟩ := leaf_int Tryz.underlying3 h
 exact ⟨z0, rfl, wf_int w0⟩
theorem open_flt1 (h : DataW.trod enc Tryz.prog w 0 spare held fuel 22 cs = some x) : ∃ z : Nat, cs = flC z ∧ z < 18446744073709551616 := by
 obtain ⟨c, rfl⟩ := lenF Tryz.underlying22 h
 obtain ⟨z0, rfl, w0⟩ := leaf_float Tryz.underlying22 h
 exact ⟨z0, rfl, wf_float w0⟩
theorem open_lp (h : DataW.trod enc Tryz.prog w 0 spare held fuel 115 cs = some x) : ∃ q : LpR, cs = lpC q ∧ okZ q.k ∧ q.n = q.l.length ∧ Vw 1 wdC w (.slice q.p q.n q.c) q.l ∧ ∀ y ∈ q.l, okZ y := by
 cases fuel with
 | zero => cases h
 | succ n =>
  obtain ⟨hl, hf⟩ := trod_fields Tryz.underlying115 h
  rw [cellsLP] at hl
  match cs, hl with
  | [c0, c1], _ =>
   simp [cellsInt, cellsIntsM] at hf
   obtain ⟨⟨_, _, h0⟩, ⟨_, _, h1⟩⟩ := hf
   obtain ⟨z0, rfl, w0⟩ := leaf_int Tryz.underlying3 h0
   obtain ⟨p, n, c, l, e, h2, h3, h4⟩ := open_rows_cs (R := okZ) 0 Tryz.underlying32 cellsInt (by decide) wdC_len (fun _ _ _ h => open_int1 h) h1
   injection e with e _
   subst e
   exact ⟨⟨z0, p, n, c, l⟩, rfl, wf_int w0, h2, h3, h4⟩
def Ini.ok (y : Ini) : Prop := y.t < 18446744073709551616 ∧ okZ y.dst ∧ okZ y.pay
theorem open_ini (h : DataW.trod enc Tryz.prog w 0 spare held fuel 152 cs = some x) : ∃ y : Ini, cs = iniC y ∧ y.ok := by
 cases fuel with
 | zero => cases h
 | succ n =>
  obtain ⟨hl, hf⟩ := trod_fields Tryz.underlying152 h
  rw [cellsInit] at hl
  match cs, hl with
  | [c0, c1, c2], _ =>
   simp [cellsInt, cellsFloat] at hf
   obtain ⟨⟨_, _, h0⟩, ⟨_, _, h1⟩, ⟨_, _, h2⟩⟩ := hf
   obtain ⟨z0, rfl, w0⟩ := leaf_float Tryz.underlying22 h0
   obtain ⟨z1, rfl, w1⟩ := leaf_int Tryz.underlying3 h1
   obtain ⟨z2, rfl, w2⟩ := leaf_int Tryz.underlying3 h2
   exact ⟨⟨z0, z1, z2⟩, rfl, wf_float w0, wf_int w1, wf_int w2⟩
structure MdV.ok (x : MdV) : Prop where
 seed : okZ x.seed
 en : x.en < 18446744073709551616
 dl : ∀ d ∈ x.dl, d < 18446744073709551616
 ps : ∀ q ∈ x.ps, ∀ y ∈ q.l, y.ok
 ls : ∀ q ∈ x.ls, okZ q.k ∧ ∀ y ∈ q.l, okZ y
 is : ∀ y ∈ x.is, y.ok
theorem open_model (h : DataW.trod enc Tryz.prog w 0 spare held fuel 28 cs = some x) : ∃ m : MdV, cs = mdC m ∧ MdAt w m ∧ m.ok := by
 cases fuel with
 | zero => cases h
 | succ n =>
  obtain ⟨hl, hf⟩ := trod_fields Tryz.underlying28 h
  rw [cellsModel] at hl
  match cs, hl with
  | [c0, c1, c2, c3, c4, c5], _ =>
   simp [cellsInt, cellsFloat, cellsFloats, cellsProgs, cellsLPs, cellsInits] at hf
   obtain ⟨⟨_, _, h0⟩, ⟨_, _, h1⟩, ⟨_, _, h2⟩, ⟨_, _, h3⟩, ⟨_, _, h4⟩, ⟨_, _, h5⟩⟩ := hf
   obtain ⟨z0, rfl, w0⟩ := leaf_int Tryz.underlying3 h0
   obtain ⟨z1, rfl, w1⟩ := leaf_float Tryz.underlying22 h1
   obtain ⟨p2, n2, k2, l2, e2, a2, b2, d2⟩ := open_rows_cs (R := fun z => z < 18446744073709551616) 0 Tryz.underlying23 cellsFloat (by decide) flC_len (fun _ _ _ h => open_flt1 h) h2
   obtain ⟨p3, n3, k3, l3, e3, a3, b3, d3⟩ := open_rows_cs (R := fun q : Prg => q.n = q.l.length ∧ Vw 4 inC w (.slice q.p q.n q.c) q.l ∧ ∀ y ∈ q.l, y.ok) ⟨none, 0, 0, []⟩ Tryz.underlying24 cellsProg (by decide) prC_len (fun _ _ _ h => open_prg h) h3
   obtain ⟨p4, n4, k4, l4, e4, a4, b4, d4⟩ := open_rows_cs (R := fun q : LpR => okZ q.k ∧ q.n = q.l.length ∧ Vw 1 wdC w (.slice q.p q.n q.c) q.l ∧ ∀ y ∈ q.l, okZ y) ⟨0, none, 0, 0, []⟩ Tryz.underlying25 cellsLP (by decide) lpC_len (fun _ _ _ h => open_lp h) h4
   obtain ⟨p5, n5, k5, l5, e5, a5, b5, d5⟩ := open_rows_cs (R := Ini.ok) ⟨0, 0, 0⟩ Tryz.underlying26 cellsInit (by decide) iniC_len (fun _ _ _ h => open_ini h) h5
   injection e2 with e2 _
   injection e3 with e3 _
   injection e4 with e4 _
   injection e5 with e5 _
   subst e2 e3 e4 e5
   exact ⟨⟨z0, z1, p2, n2, k2, l2, p3, n3, k3, l3, p4, n4, k4, l4, p5, n5, k5, l5⟩, rfl, ⟨b2, a2, b3, a3, fun q hq => ⟨(d3 q hq).1, (d3 q hq).2.1⟩, b4, a4, fun q hq => ⟨(d4 q hq).2.1, (d4 q hq).2.2.1⟩, b5, a5⟩, ⟨wf_int w0, wf_float w1, d2, fun q hq => (d3 q hq).2.2, fun q hq => ⟨(d4 q hq).1, (d4 q hq).2.2.2⟩, d5⟩⟩
end
end
end Go.Proofs.YtfkoaooceickiaaGreat
