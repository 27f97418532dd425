/- Parts of the proof: Oq Ve Or Zc Zd Ze Rb. -/
import Derived.Test.YtnnghcooidjlhaaGreatRows
import Derived.Deep.Slices
import Derived.ProofKit
import Derived.SizedLaws
import Derived.Laws.Cover2
import Derived.Carry
import Derived.Deep.AppendSrc
import Derived.Deep.RegionHeld3
import Derived.Test.YtnnghcooidjlhaaGreatA01
import Derived.Test.YtnnghcooidjlhaaGreatA02
import Derived.Test.YtnnghcooidjlhaaGreatA03
import Derived.Test.YtnnghcooidjlhaaGreatA20
import Derived.Test.YtnnghcooidjlhaaGreatA21
import Derived.Test.YtnnghcooidjlhaaGreatA22
set_option linter.all false
section
set_option linter.unusedSimpArgs false
set_option maxRecDepth 100000
namespace Go.Proofs.YtnnghcooidjlhaaGreat
open Go.ChangeShapes Go.WideShapes Go.ChangeAt Go.RowKit Go.Deep
theorem own : ownKnob Tryz.prog.godebug = none := by kernel_rfl
theorem laid : laidOutB Tryz.prog = true := by kernel_rfl
section
variable {H : Type} {enc : TypeId × Value → H} {P : Program} {w : World} {base : Nat} {spare : Nat → Bool} {held : Bool}
theorem mapM_some {α β : Type} (f : α → Option β) : ∀ (l : List α) (ys : List β), l.mapM f = some ys → ∀ a ∈ l, ∃ b, f a = some b := by
  intro l
  induction l with
  | nil => intro ys _ a ha; cases ha
  | cons x l ih =>
    intro ys h a ha
    rw [List.mapM_cons] at h
    cases hx : f x with
    | none => rw [hx] at h; cases h
    | some b =>
      cases hl : l.mapM f with
      | none => rw [hx, hl] at h; cases h
      | some bs =>
        cases ha with
        | head => exact ⟨b, hx⟩
        | tail _ ha => exact ih bs hl a ha
theorem trod_fields {t : TypeId} {fs : Array Field} {n : Nat} {cs : List Value} {x : DataW H × List MemPlace} (hu : P.underlying t = some (.struct fs)) (h : DataW.trod enc P w base spare held (n + 1) t cs = some x) :
    cs.length = P.cellsOf t ∧ ∀ f ∈ fs.toList, ∃ y, DataW.trod enc P w base spare held n f.type ((cs.drop f.offset).take (P.cellsOf f.type)) = some y := by
  simp only [DataW.trod, hu] at h
  split at h
  · rename_i hl
    refine ⟨hl, ?_⟩
    cases hm : fs.toList.mapM fun f => DataW.trod enc P w base spare held n f.type ((cs.drop f.offset).take (P.cellsOf f.type)) with
    | none => rw [hm] at h; cases h
    | some ys => exact mapM_some _ _ ys hm
  · cases h
theorem leaf_int {t : TypeId} {k : IntKind} {n : Nat} {c : Value} {x : DataW H × List MemPlace} (hu : P.underlying t = some (.int k)) (h : DataW.trod enc P w base spare held n t [c] = some x) : ∃ z, c = .int k z ∧ (Lit.int k z).wf = true := by
  cases n with
  | zero => cases h
  | succ n =>
    cases c <;> simp [DataW.trod, hu] at h
    rename_i k' z
    obtain ⟨⟨rfl, hw⟩, _⟩ := h
    exact ⟨z, rfl, hw⟩
theorem leaf_float {t : TypeId} {k : FloatKind} {n : Nat} {c : Value} {x : DataW H × List MemPlace} (hu : P.underlying t = some (.float k)) (h : DataW.trod enc P w base spare held n t [c] = some x) : ∃ z, c = .float k z ∧ (Lit.float k z).wf = true := by
  cases n with
  | zero => cases h
  | succ n =>
    cases c <;> simp [DataW.trod, hu] at h
    rename_i k' z
    obtain ⟨⟨rfl, hw⟩, _⟩ := h
    exact ⟨z, rfl, hw⟩
theorem wf_float {b : Nat} (h : (Lit.float .f64 b).wf = true) : b < 18446744073709551616 := by
  simpa [Lit.wf, FloatKind.has] using h
theorem wf_int {z : Int} (h : (Lit.int .i64 z).wf = true) : -9223372036854775808 ≤ z ∧ z < 9223372036854775808 := by
  have := h
  simp [Lit.wf, IntKind.has, IntKind.min, IntKind.max, IntKind.signed, IntKind.bits] at this
  omega
theorem leaf_bool {t : TypeId} {n : Nat} {c : Value} {x : DataW H × List MemPlace} (hu : P.underlying t = some .bool) (h : DataW.trod enc P w base spare held n t [c] = some x) : ∃ z, c = .bool z := by
  cases n with
  | zero => cases h
  | succ n =>
    cases c <;> simp [DataW.trod, hu] at h
    exact ⟨_, rfl⟩
end
theorem cellsEvent : Tryz.prog.cellsOf 67 = 5 := by kernel_rfl
theorem cellsStamp : Tryz.prog.cellsOf 65 = 3 := by kernel_rfl
theorem cellsInt : Tryz.prog.cellsOf 3 = 1 := by kernel_rfl
theorem cellsBool : Tryz.prog.cellsOf 4 = 1 := by kernel_rfl
theorem cellsFloat : Tryz.prog.cellsOf 63 = 1 := by kernel_rfl
theorem cellsMsg22 : Tryz.prog.cellsOf 116 = 6 := by kernel_rfl
theorem cellsAct22 : Tryz.prog.cellsOf 118 = 8 := by kernel_rfl
section
variable {H : Type} {enc : TypeId × Value → H} {w : World} {base : Nat} {spare : Nat → Bool} {held : Bool}
theorem open_event {fuel : Nat} {cs : List Value} {x : DataW H × List MemPlace} (h : DataW.trod enc Tryz.prog w base spare held fuel 67 cs = some x) :
    ∃ e : Ev, cs = evC e ∧ e.ok := by
  cases fuel with
  | zero => cases h
  | succ n =>
    obtain ⟨hl, hf⟩ := trod_fields Tryz.underlying67 h
    rw [cellsEvent] at hl
    match cs, hl with
    | [c0, c1, c2, c3, c4], _ =>
      simp [cellsStamp, cellsInt] at hf
      obtain ⟨⟨_, _, hs⟩, ⟨_, _, h3⟩, ⟨_, _, h4⟩⟩ := hf
      obtain ⟨z3, rfl, w3⟩ := leaf_int Tryz.underlying3 h3
      obtain ⟨z4, rfl, w4⟩ := leaf_int Tryz.underlying3 h4
      cases n with
      | zero => cases hs
      | succ n =>
        obtain ⟨_, hf⟩ := trod_fields Tryz.underlying65 hs
        simp [cellsFloat, cellsInt] at hf
        obtain ⟨⟨_, _, h0⟩, ⟨_, _, h1⟩, ⟨_, _, h2⟩⟩ := hf
        obtain ⟨z0, rfl, w0⟩ := leaf_float Tryz.underlying63 h0
        obtain ⟨z1, rfl, w1⟩ := leaf_int Tryz.underlying3 h1
        obtain ⟨z2, rfl, w2⟩ := leaf_int Tryz.underlying3 h2
        exact ⟨⟨z0, z1, z2, z3, z4⟩, rfl, wf_float w0, wf_int w1, wf_int w2, wf_int w3, wf_int w4⟩
theorem open_msg22 {fuel : Nat} {cs : List Value} {x : DataW H × List MemPlace} (h : DataW.trod enc Tryz.prog w base spare held fuel 116 cs = some x) :
    ∃ (e : Ev) (a : Bool), cs = evC e ++ [.bool a] ∧ e.ok := by
  cases fuel with
  | zero => cases h
  | succ n =>
    obtain ⟨hl, hf⟩ := trod_fields Tryz.underlying116 h
    rw [cellsMsg22] at hl
    match cs, hl with
    | [c0, c1, c2, c3, c4, c5], _ =>
      simp [cellsEvent, cellsBool] at hf
      obtain ⟨⟨_, _, he⟩, ⟨_, _, h5⟩⟩ := hf
      obtain ⟨a, rfl⟩ := leaf_bool Tryz.underlying4 h5
      obtain ⟨e, he, hok⟩ := open_event he
      exact ⟨e, a, by rw [← he]; rfl, hok⟩
theorem open_act22 {fuel : Nat} {cs : List Value} {x : DataW H × List MemPlace} (h : DataW.trod enc Tryz.prog w base spare held fuel 118 cs = some x) :
    ∃ (k i : Int) (e : Ev) (a : Bool), cs = [.int .i64 k, .int .i64 i] ++ (evC e ++ [.bool a]) ∧ e.ok ∧ (-9223372036854775808 ≤ k ∧ k < 9223372036854775808) ∧ (-9223372036854775808 ≤ i ∧ i < 9223372036854775808) := by
  cases fuel with
  | zero => cases h
  | succ n =>
    obtain ⟨hl, hf⟩ := trod_fields Tryz.underlying118 h
    rw [cellsAct22] at hl
    match cs, hl with
    | [c0, c1, c2, c3, c4, c5, c6, c7], _ =>
      simp [cellsMsg22, cellsInt] at hf
      obtain ⟨⟨_, _, h0⟩, ⟨_, _, h1⟩, ⟨_, _, h2⟩⟩ := hf
      obtain ⟨k, rfl, wk⟩ := leaf_int Tryz.underlying3 h0
      obtain ⟨i, rfl, wi⟩ := leaf_int Tryz.underlying3 h1
      obtain ⟨e, a, he, hok⟩ := open_msg22 h2
      exact ⟨k, i, e, a, by rw [← he]; rfl, hok, wf_int wk, wf_int wi⟩
theorem trodAll_below {P : Program} {W W' : World} (hl : laidOutB P = true) (hb : Below W.heap.size W W') : ∀ {ts : List TypeId} {vs : List Value} {ds : List (DataW H)} {ps : List MemPlace},
    DataW.TrodAll enc P W 0 (fun _ => true) true ts vs ds ps → (∀ t ∈ ts, P.readableRec t = true ∧ t < P.types.size) →
    DataW.TrodAll enc P W' 0 (fun b => decide (b < W.heap.size)) true ts vs ds ps
  | [], [], [], _, h, _ => h
  | t :: ts, v :: vs, d :: ds, _, h, ht => by
    obtain ⟨p, q, h1, h2, rfl⟩ := h
    obtain ⟨a, b⟩ := ht t (by simp)
    refine ⟨p, q, Below.trod hl a b h1 hb ?_, trodAll_below hl hb h2 (fun t ht' => ht t (by simp [ht'])), rfl⟩
    obtain ⟨fuel, hf⟩ := h1
    exact DataW.trod_lt _ _ _ _ hf
  | [], [], _ :: _, _, h, _ => h.elim
  | [], _ :: _, _, _, h, _ => h.elim
  | _ :: _, [], _, _, h, _ => h.elim
  | _ :: _, _ :: _, [], _, h, _ => h.elim
end
end Go.Proofs.YtnnghcooidjlhaaGreat
end
section
set_option linter.unusedSimpArgs false
set_option linter.unusedVariables false
set_option maxRecDepth 100000
namespace Go.Proofs.YtnnghcooidjlhaaGreat
open Go.RowKit Go.Lib
section
variable {α : Type} {k : Nat} {enc : α → List Value} {w w' : World} {v : Value} {l : List α}
structure Vw (k : Nat) (enc : α → List Value) (w : World) (v : Value) (l : List α) : Prop where
  form : ∃ p c, v = .slice p l.length c ∧ l.length ≤ c ∧ (l = [] ∨ ∃ b off, p = some ⟨b, off, none⟩ ∧ b < w.heap.size ∧ ∀ i x, l[i]? = some x → ∀ q u, (enc x)[q]? = some u → w.cell? ⟨b, off + i * k + q, none⟩ = some u)
theorem Vw.of_block (h : Vw k enc w v l) (e : ∀ b, b < w.heap.size → v.ownBlock = some b → w'.heap[b]? = w.heap[b]?) (hs : w.heap.size ≤ w'.heap.size) : Vw k enc w' v l := by
  obtain ⟨p, c, rfl, hc, g⟩ := h.form
  refine ⟨p, c, rfl, hc, ?_⟩
  rcases g with g | ⟨b, off, rfl, hb, hx⟩
  · exact .inl g
  · exact .inr ⟨b, off, rfl, Nat.lt_of_lt_of_le hb hs, fun i x hi q u hu => (World.cell?_of_block (e b hb rfl)).trans (hx i x hi q u hu)⟩
theorem Vw.below (h : Vw k enc w v l) (hb : Below w.heap.size w w') : Vw k enc w' v l := h.of_block (fun b hlt _ => hb.block b hlt) hb.size
theorem Vw.nil (k : Nat) (enc : α → List Value) (w : World) (p : Option Addr) (c : Nat) : Vw k enc w (.slice p 0 c) [] := ⟨p, c, rfl, Nat.zero_le _, .inl rfl⟩
theorem Vw.slice (h : Vw k enc w v l) : ∃ p c, v = .slice p l.length c ∧ l.length ≤ c := by
  obtain ⟨p, c, h1, h2, _⟩ := h.form
  exact ⟨p, c, h1, h2⟩
theorem Vw.ex (h : Vw k enc w v l) (hn : l ≠ []) : ∃ b off c, v = .slice (some ⟨b, off, none⟩) l.length c ∧ l.length ≤ c ∧ b < w.heap.size ∧ ∀ i x, l[i]? = some x → ∀ q u, (enc x)[q]? = some u → w.cell? ⟨b, off + i * k + q, none⟩ = some u := by
  obtain ⟨p, c, h1, h2, g⟩ := h.form
  obtain ⟨b, off, rfl, g1, g2⟩ := g.resolve_left hn
  exact ⟨b, off, c, h1, h2, g1, g2⟩
theorem Vw.of_own {B n : Nat} {T : TypeId} (hk : ∀ x, (enc x).length = k) (h : w.ownsRow B T k v n (rowV enc l)) (hn : n = l.length) : Vw k enc w v l := by
  subst hn
  by_cases h0 : l = []
  · obtain ⟨p, c, rfl⟩ := own_slice2 h
    exact ⟨p, c, rfl, by rw [h0]; exact Nat.zero_le _, .inl h0⟩
  · obtain ⟨g, c, rfl, hg1, hg2, hg3⟩ := own_form h (List.length_pos_iff.2 h0)
    refine ⟨_, c, rfl, hg3, .inr ⟨g, 0, rfl, hg2, fun i x hx q u hu => ?_⟩⟩
    have hq : q < k := by
      have := (List.getElem?_eq_some_iff.1 hu).1
      rwa [hk] at this
    rw [Nat.zero_add]
    exact own_at h rfl (j := i * k + q) ((rowV_get hk l i x hx q hq).trans hu)
theorem Vw.one {T : TypeId} {x : α} {b c : Nat} (h : Blk w b T (enc x).toArray) (hc : 1 ≤ c) : Vw k enc w (.slice (some ⟨b, 0, none⟩) 1 c) [x] := by
  refine ⟨_, c, rfl, hc, .inr ⟨b, 0, rfl, h.lt, fun i y hy q u hu => ?_⟩⟩
  rcases i with _ | i
  · simp at hy
    subst hy
    rw [Nat.zero_mul, Nat.add_zero, Nat.zero_add, h.cell]
    simpa using hu
  · simp at hy
theorem Vw.take {b off c : Nat} (h : Vw k enc w (.slice (some ⟨b, off, none⟩) l.length c) l) (i : Nat) (hi : i ≤ l.length) : Vw k enc w (.slice (some ⟨b, off, none⟩) i c) (l.take i) := by
  obtain ⟨p, c', e, hc, g⟩ := h.form
  injection e with e1 _ e3
  subst e1 e3
  refine ⟨_, c, by rw [List.length_take, Nat.min_eq_left hi], by rw [List.length_take]; omega, ?_⟩
  by_cases h0 : l = []
  · exact .inl (by rw [h0]; simp)
  · obtain ⟨b', off', e, hb, hx⟩ := g.resolve_left h0
    injection e with e
    injection e with e1 e2 _
    subst e1 e2
    refine .inr ⟨b, off, rfl, hb, fun j x hj q u hu => hx j x ?_ q u hu⟩
    rw [List.getElem?_take] at hj
    split at hj
    · exact hj
    · cases hj
theorem Vw.drop {b off c : Nat} (h : Vw k enc w (.slice (some ⟨b, off, none⟩) l.length c) l) (i : Nat) (hi : i ≤ l.length) : Vw k enc w (.slice (some ⟨b, off + i * k, none⟩) (l.length - i) (c - i)) (l.drop i) := by
  obtain ⟨p, c', e, hc, g⟩ := h.form
  injection e with e1 _ e3
  subst e1 e3
  refine ⟨_, c - i, by rw [List.length_drop], by rw [List.length_drop]; omega, ?_⟩
  by_cases h0 : l = []
  · exact .inl (by rw [h0]; simp)
  · obtain ⟨b', off', e, hb, hx⟩ := g.resolve_left h0
    injection e with e
    injection e with e1 e2 _
    subst e1 e2
    refine .inr ⟨b, off + i * k, rfl, hb, fun j x hj q u hu => ?_⟩
    rw [List.getElem?_drop] at hj
    rw [show off + i * k + j * k + q = off + (i + j) * k + q by rw [Nat.add_mul]; omega]
    exact hx (i + j) x hj q u hu
theorem Vw.cells (hk : ∀ x, (enc x).length = k) {b off c : Nat} (h : Vw k enc w (.slice (some ⟨b, off, none⟩) l.length c) l) : ∀ j u, (rowV enc l)[j]? = some u → w.cell? ⟨b, off + j, none⟩ = some u := by
  intro j u hj
  have hlt : j < (rowV enc l).length := (List.getElem?_eq_some_iff.1 hj).1
  rw [rowV_length hk] at hlt
  have hk0 : 0 < k := Nat.pos_of_ne_zero (by rintro rfl; simp at hlt)
  have hd := Nat.div_add_mod j k
  have hm := Nat.mod_lt j hk0
  have hjl : j / k < l.length := (Nat.div_lt_iff_lt_mul hk0).2 hlt
  obtain ⟨p, c', e, hc, g⟩ := h.form
  have h0 : l ≠ [] := by rintro rfl; simp at hjl
  obtain ⟨b', off', rfl, hb, hx⟩ := g.resolve_left h0
  injection e with e _ _
  injection e with e
  injection e with e1 e2 _
  subst e1 e2
  obtain ⟨x, hxx⟩ : ∃ x, l[j / k]? = some x := ⟨_, List.getElem?_eq_getElem hjl⟩
  have hr := rowV_get hk l (j / k) x hxx (j % k) hm
  rw [show j / k * k + j % k = j by rw [Nat.mul_comm]; exact hd] at hr
  have := hx (j / k) x hxx (j % k) u (by rw [← hr]; exact hj)
  rw [show off + j / k * k + j % k = off + j by rw [Nat.mul_comm]; omega] at this
  exact this
end
theorem run_app_all (t ty : TypeId) {α : Type} (enc : α → List Value) {e : TypeId} {z : Value} {size bytes : Nat} (hi : Inf e z size bytes) (ht : Tryz.prog.underlying t = some (.slice e))
    (hzs : z.cells.size = size) (hsz : 0 < size) (hby : bytes ≤ 1000) (hk : ∀ x, (enc x).length = size) (hone : ∀ x, ∀ u ∈ enc x, u.oneCell' = true) {B : Nat} {W : World} {v xv : Value} {l l2 : List α} {n : Nat} (hown : W.ownsRow B e size v n (rowV enc l)) (hv2 : Vw size enc W xv l2) (hn : n + l2.length ≤ 100000) (hB : B ≤ W.heap.size) :
    ∃ v' w', (Builtin.append_ #[t, t] ty #[v, xv]).run Tryz.prog W = .ok v' w' ∧ w'.ownsRow B e size v' (n + l2.length) (rowV enc (l ++ l2)) ∧ Kp v.ownBlock.toList W w' := by
  obtain ⟨i0, hi0, hz0, hz1, hz2⟩ := info_parts hi
  by_cases h0 : l2 = []
  · subst h0
    obtain ⟨p, c, rfl, hc⟩ := hv2.slice
    have hsrc : Src Tryz.prog i0.size t (.slice p 0 c) 0 [] W := by
      cases p with
      | none => exact Src.ofNil W ht c
      | some ad => exact Src.ofSlice W ht ad 0 c [] (by simp) (by simp) (by simp)
    have hvf : ∃ base sLen sCap, v = .slice base sLen sCap ∧ sLen ≤ sCap := by
      rcases hown.2 with ⟨rfl, _⟩ | ⟨g, cap, cur, rfl, _, _, hnc, _⟩
      · exact ⟨_, _, _, rfl, Nat.le_refl _⟩
      · exact ⟨_, _, _, rfl, hnc⟩
    obtain ⟨base, sLen, sCap, rfl, hle⟩ := hvf
    refine ⟨_, W, ?_, by simpa using hown, Kp.refl _ _⟩
    have hlen := hsrc.len
    have hcells := hsrc.cells
    rw [show ([] : List α).length = 0 from rfl]
    cases base <;> simp [Builtin.append_, run_underlying ht, sizeOf, typeInfo, hi0, hlen, hle, hcells, storeCells]
  · obtain ⟨b, off, c, rfl, hc, hb, hxx⟩ := hv2.ex h0
    obtain ⟨v', w', hr, h2, h3, _⟩ := run_append_own (P := Tryz.prog) W B t ty e i0 z size bytes ht hi0 hz0 hz1 hz2 hzs hsz v n _ hown ⟨b, off, none⟩ l2.length c (rowV enc l2) (rowV_length hk l2) (fun j u hj => by rw [Addr.add_lit]; exact hv2.cells hk j u hj) (rowV_one hone l2) (by unfold maxLen; omega)
      (by
        have : (n + l2.length) * bytes ≤ 100000 * 1000 := Nat.mul_le_mul (by omega) hby
        omega) hB
    exact ⟨v', w', hr, by rw [rowV_append]; exact h2, (Kp.refl _ W).grown h3 (fun g hg => .inl (Option.mem_toList.2 hg))⟩
section
variable {ops : Array Oper} {o : Oper} {a : Act} {Q : Exit → Act → World → Prop} {α : Type} {e : TypeId} {z : Value} {size bytes : Nat} {B : Nat} {W : World} {v xv : Value} {l l2 : List α} {n : Nat}
theorem app_all {rest : List Oper} (hgd : o.guard = none) (s x : Operand) (t : TypeId)
    (ho : o.op = .call { callee := .builtin .append, args := #[s, x], argTypes := #[t, t] }) (enc : α → List Value) (hi : Inf e z size bytes) (ht : Tryz.prog.underlying t = some (.slice e))
    (hzs : z.cells.size = size) (hsz : 0 < size) (hby : bytes ≤ 1000) (hk : ∀ x, (enc x).length = size) (hone : ∀ x, ∀ u ∈ enc x, u.oneCell' = true) (hown : W.ownsRow B e size v n (rowV enc l)) (hv2 : Vw size enc W xv l2) (hn : n + l2.length ≤ 100000) (hB : B ≤ W.heap.size)
    (hs : a.eval s = v) (hx : a.eval x = xv)
    (h : ∀ v' w', w'.ownsRow B e size v' (n + l2.length) (rowV enc (l ++ l2)) → Kp v.ownBlock.toList W w' → wpList Tryz.prog ops Q rest (a.put o.dst v') w') : wpList Tryz.prog ops Q (o :: rest) a W := by
  refine wpList_plain hgd fun K hK => ?_
  obtain ⟨v', w', hr, h2, h3⟩ := run_app_all t o.type enc hi ht hzs hsz hby hk hone hown hv2 hn hB
  unfold Oper.wp execOp
  simp only [ho, resolve, invoke, builtin, Sem.run_bind, Sem.run_pure, Result.andThen_ok, List.map_toArray, List.map_cons, List.map_nil, hs, hx, hr]
  exact hK _ _ (h v' w' h2 h3)
theorem step_app_all {K : Act → World → Prop} {E : Prop} (hgd : o.guard = none) (s x : Operand) (t : TypeId)
    (ho : o.op = .call { callee := .builtin .append, args := #[s, x], argTypes := #[t, t] }) (enc : α → List Value) (hi : Inf e z size bytes) (ht : Tryz.prog.underlying t = some (.slice e))
    (hzs : z.cells.size = size) (hsz : 0 < size) (hby : bytes ≤ 1000) (hk : ∀ x, (enc x).length = size) (hone : ∀ x, ∀ u ∈ enc x, u.oneCell' = true) (hown : W.ownsRow B e size v n (rowV enc l)) (hv2 : Vw size enc W xv l2) (hn : n + l2.length ≤ 100000) (hB : B ≤ W.heap.size)
    (hs : a.eval s = v) (hx : a.eval x = xv)
    (h : ∀ v' w', w'.ownsRow B e size v' (n + l2.length) (rowV enc (l ++ l2)) → Kp v.ownBlock.toList W w' → K (a.put o.dst v') w') :
    if Region.wanted o (yielded ops a.tmps) = true then Oper.wp Tryz.prog o a W K Q else E := by
  rw [if_pos (by unfold Region.wanted; rw [hgd])]
  obtain ⟨v', w', hr, h2, h3⟩ := run_app_all t o.type enc hi ht hzs hsz hby hk hone hown hv2 hn hB
  unfold Oper.wp execOp
  simp only [ho, resolve, invoke, builtin, Sem.run_bind, Sem.run_pure, Result.andThen_ok, List.map_toArray, List.map_cons, List.map_nil, hs, hx, hr]
  exact h v' w' h2 h3
end
end Go.Proofs.YtnnghcooidjlhaaGreat
end
section
set_option linter.unusedSimpArgs false
set_option maxRecDepth 100000
namespace Go.Proofs.YtnnghcooidjlhaaGreat
open Go.ChangeShapes Go.WideShapes Go.ChangeAt Go.RowKit Go.Deep
section
variable {H : Type} {enc : TypeId × Value → H} {w : World} {spare : Nat → Bool} {held : Bool}
theorem open_rows {α : Type} (d0 : α) {k : Nat} {encA : α → List Value} {R : α → Prop} {t e : TypeId} (ht : Tryz.prog.underlying t = some (.slice e)) (hc : Tryz.prog.cellsOf e = k) (hk0 : 0 < k) (hk : ∀ x, (encA x).length = k)
    (ho : ∀ (fuel : Nat) (cs : List Value) (x : DataW H × List MemPlace), DataW.trod enc Tryz.prog w 0 spare held fuel e cs = some x → ∃ y, cs = encA y ∧ R y) {fuel : Nat} {v : Value} {x : DataW H × List MemPlace} (h : DataW.trod enc Tryz.prog w 0 spare held fuel t [v] = some x) :
    ∃ (p : Option Addr) (n c : Nat) (l : List α), v = .slice p n c ∧ n = l.length ∧ Vw k encA w (.slice p n c) l ∧ ∀ y ∈ l, R y := by
  rcases open_slice ht h with ⟨hcs, _⟩ | ⟨a, len, cap, m, n, D, Pl, hcs, _, hl, hm, hmm, _, hel⟩
  · simp at hcs
    subst hcs
    exact ⟨none, 0, 0, [], rfl, rfl, Vw.nil _ _ _ _ _, by simp⟩
  · simp at hcs
    subst hcs
    have hlm : len ≤ m := by rw [hmm]; split <;> omega
    have h1 : ∀ i, ∃ y : α, i < len → (R y ∧ ∃ cs', w.cells? 0 (a.add (i * k)) k = some cs' ∧ cs' = encA y) := by
      intro i
      by_cases hi : i < len
      · obtain ⟨cs', h1, h2⟩ := hel i (by omega)
        rw [hc] at h1
        obtain ⟨y, hy, hr⟩ := ho _ _ _ h2
        exact ⟨y, fun _ => ⟨hr, cs', h1, hy⟩⟩
      · exact ⟨d0, fun h => absurd h hi⟩
    obtain ⟨F, hF⟩ := Classical.axiomOfChoice h1
    have hg : ∀ i y, ((List.range len).map F)[i]? = some y → i < len ∧ y = F i := fun i y hy => by
      have hi : i < len := by
        have := (List.getElem?_eq_some_iff.1 hy).1
        simpa using this
      refine ⟨hi, ?_⟩
      simp [hi] at hy
      exact hy.symm
    refine ⟨some a, len, cap, (List.range len).map F, rfl, by simp, ⟨some a, cap, by simp, by simpa using hl, ?_⟩, ?_⟩
    · by_cases h0 : len = 0
      · left; simp [h0]
      · right
        obtain ⟨b, off, spot⟩ := a
        have hcell : ∀ i j, i < len → j < k → w.cell? ((⟨b, off, spot⟩ : Addr).add (i * k + j)) = (encA (F i))[j]? := by
          intro i j hi hj
          obtain ⟨_, cs', h1, h2⟩ := hF i hi
          rw [h2] at h1
          have h3 := World.cells?_some h1
          rw [← add_add]
          exact h3.2.2 j hj
        have hsome : ∀ j, j < k → ∃ u, (encA (F 0))[j]? = some u := fun j hj => ⟨_, List.getElem?_eq_getElem (by rw [hk]; exact hj)⟩
        have hspot : spot = none := by
          obtain ⟨u, hu⟩ := hsome 0 hk0
          have := (hcell 0 0 (by omega) hk0).trans hu
          simpa [Addr.add] using World.cell?_spot this
        subst hspot
        have hcell' : ∀ i j, i < len → j < k → w.cell? ⟨b, off + i * k + j, none⟩ = (encA (F i))[j]? := by
          intro i j hi hj
          have := hcell i j hi hj
          rw [add_plain] at this
          rw [← this]
          congr 2
          omega
        refine ⟨b, off, rfl, ?_, fun i y hy q u hu => ?_⟩
        · obtain ⟨u, hu⟩ := hsome 0 hk0
          exact World.block_lt_of_cell? w _ ((hcell' 0 0 (by omega) hk0).trans hu)
        · obtain ⟨hi, rfl⟩ := hg i y hy
          have hq : q < k := by
            have := (List.getElem?_eq_some_iff.1 hu).1
            rwa [hk] at this
          exact (hcell' i q hi hq).trans hu
    · intro y hy
      rw [List.mem_map] at hy
      obtain ⟨i, hi, rfl⟩ := hy
      exact (hF i (by simpa using hi)).1
end
end Go.Proofs.YtnnghcooidjlhaaGreat
end
section
set_option linter.unusedSimpArgs false
set_option linter.unusedVariables false
namespace Go.Proofs.YtnnghcooidjlhaaGreat
structure It where
  c : Bs
  k : Int
  e : Ev
def It.key (x : It) : Bs := x.c ++ oneB x.k
def It.fit (x : It) : Prop := x.c.length = 25 ∧ 0 ≤ x.k ∧ x.k ≤ 255
def It.right (x : It) : Prop := x.fit ∧ x.e.right
def It.nrm (x : It) : It := { x with e := x.e.nrm }
def It.lt (x y : It) : Prop := x.c < y.c ∨ (x.c = y.c ∧ x.k < y.k)
instance (x : It) : Decidable x.fit := by unfold It.fit; infer_instance
instance (x : It) : Decidable x.right := by unfold It.right; infer_instance
instance (x y : It) : Decidable (x.lt y) := by unfold It.lt; infer_instance
theorem It.key_len {x : It} (h : x.fit) : x.key.length = 26 := by simp [It.key, h.1]
theorem app1_lt : ∀ {a b : Bs} {x y : UInt8}, a.length = b.length → (a ++ [x] < b ++ [y] ↔ a < b ∨ (a = b ∧ x < y))
  | [], [], x, y, _ => by simp [List.cons_lt_cons_iff]
  | u :: a, v :: b, x, y, h => by
    have ih := app1_lt (a := a) (b := b) (x := x) (y := y) (by simpa using h)
    rw [List.cons_append, List.cons_append, List.cons_lt_cons_iff, List.cons_lt_cons_iff, ih]
    constructor
    · rintro (g | ⟨rfl, g | ⟨rfl, g⟩⟩)
      · exact .inl (.inl g)
      · exact .inl (.inr ⟨rfl, g⟩)
      · exact .inr ⟨rfl, g⟩
    · rintro ((g | ⟨rfl, g⟩) | ⟨g, h2⟩)
      · exact .inl g
      · exact .inr ⟨rfl, .inl g⟩
      · injection g with h1 h3
        subst h1 h3
        exact .inr ⟨rfl, .inr ⟨rfl, h2⟩⟩
theorem oneB_lt {a b : Int} (ha : 0 ≤ a ∧ a ≤ 255) (hb : 0 ≤ b ∧ b ≤ 255) : UInt8.ofNat a.toNat < UInt8.ofNat b.toNat ↔ a < b := by
  rw [UInt8.lt_iff_toNat_lt]
  have e1 : (UInt8.ofNat a.toNat).toNat = a.toNat := by simp; omega
  have e2 : (UInt8.ofNat b.toNat).toNat = b.toNat := by simp; omega
  rw [e1, e2]; omega
theorem oneB_inj {a b : Int} (ha : 0 ≤ a ∧ a ≤ 255) (hb : 0 ≤ b ∧ b ≤ 255) (h : oneB a = oneB b) : a = b := by
  unfold oneB at h
  injection h with h _
  have h := congrArg UInt8.toNat h
  have e1 : (UInt8.ofNat a.toNat).toNat = a.toNat := by simp; omega
  have e2 : (UInt8.ofNat b.toNat).toNat = b.toNat := by simp; omega
  rw [e1, e2] at h; omega
theorem It.key_lt {x y : It} (hx : x.fit) (hy : y.fit) : x.key < y.key ↔ x.lt y := by
  unfold It.key It.lt oneB
  rw [app1_lt (by rw [hx.1, hy.1]), oneB_lt hx.2 hy.2]
theorem It.key_eq {x y : It} (hx : x.fit) (hy : y.fit) : x.key = y.key ↔ x.c = y.c ∧ x.k = y.k := by
  constructor
  · intro h
    obtain ⟨h1, h2⟩ := List.append_inj h (by rw [hx.1, hy.1])
    exact ⟨h1, oneB_inj hx.2 hy.2 h2⟩
  · rintro ⟨h1, h2⟩
    unfold It.key
    rw [h1, h2]
def itP (l : List It) : List KV := l.map fun x => (x.key, evB x.e)
structure OxM (M : List KV) (sp lp : Int) (l : List It) : Prop where
  part : partM M (hdP sp lp) = itP l
  ok : ∀ x ∈ l, x.right ∧ x.e.ok ∧ x.e.nrm = x.e
def setO (l : List It) (x : It) : List It := l.filter (fun y => decide (y.key < x.key)) ++ x :: l.filter (fun y => decide (x.key < y.key))
def delO (l : List It) (k : Bs) : List It := l.filter fun y => decide (y.key ≠ k)
def insideO (l : List It) (fr to : Bs) : List It := l.filter fun y => inR fr to y.key
def outO (l : List It) (fr to : Bs) : List It := l.filter fun y => !inR fr to y.key
theorem itP_set (l : List It) (x : It) : itP (setO l x) = setM (itP l) x.key (evB x.e) := by
  unfold itP setO setM
  rw [List.map_append, List.map_cons, List.filter_map, List.filter_map]
  rfl
theorem itP_del (l : List It) (k : Bs) : itP (delO l k) = delM (itP l) k := by
  unfold itP delO delM
  rw [List.filter_map]
  rfl
theorem mem_setO {l : List It} {x y : It} (h : y ∈ setO l x) : y = x ∨ y ∈ l := by
  unfold setO at h
  rcases List.mem_append.1 h with h | h
  · exact .inr ((List.mem_filter.1 h).1)
  · rcases List.mem_cons.1 h with h | h
    · exact .inl h
    · exact .inr ((List.mem_filter.1 h).1)
section
variable {M : List KV} {sp sq lp : Int} {l : List It}
theorem OxM.nil (sp lp : Int) : OxM [] sp lp [] := ⟨rfl, by simp⟩
theorem OxM.asc (h : OxM M sp lp l) (hM : AscM M) : l.Pairwise fun a b => a.key < b.key := by
  have := partM_asc hM (hdP sp lp)
  rw [h.part] at this
  unfold AscM itP at this
  rw [List.pairwise_map] at this
  exact this
theorem OxM.set (h : OxM M sp lp l) (hM : AscM M) {x : It} (hx : x.right) (ho : x.e.ok) : OxM (setM M (hdP sp lp ++ x.key) (evB x.e)) sp lp (setO l x.nrm) := by
  refine ⟨?_, fun y hy => ?_⟩
  · rw [setM_part (hdP_len sp lp) hM, h.part, itP_set]
    show _ = setM _ x.key (evB x.e.nrm)
    rw [evB_nrm]
  · rcases mem_setO hy with rfl | hy
    · exact ⟨⟨hx.1, Ev.nrm_right hx.2⟩, Ev.nrm_ok ho, Ev.nrm_nrm _⟩
    · exact h.ok y hy
theorem OxM.del (h : OxM M sp lp l) (k : Bs) : OxM (delM M (hdP sp lp ++ k)) sp lp (delO l k) :=
  ⟨by rw [delM_part (hdP_len sp lp), h.part, itP_del], fun y hy => h.ok y (List.mem_filter.1 hy).1⟩
theorem OxM.set_other (h : OxM M sp lp l) (hM : AscM M) (hn : hdP sp lp ≠ hdP sq lp) (k v : Bs) : OxM (setM M (hdP sq lp ++ k) v) sp lp l :=
  ⟨by rw [setM_other (hdP_len sq lp) hM (hdP_len sp lp) hn, h.part], h.ok⟩
theorem OxM.del_other (h : OxM M sp lp l) (hn : hdP sp lp ≠ hdP sq lp) (k : Bs) : OxM (delM M (hdP sq lp ++ k)) sp lp l :=
  ⟨by rw [delM_other (hdP_len sq lp) hn, h.part], h.ok⟩
theorem OxM.clear (h : OxM M sp lp l) (hlp : 0 ≤ lp ∧ lp ≤ 5) (fr to : Bs) : OxM (M.filter fun a => !inR (hdP sp lp ++ fr) (toK (hdP sp lp) to) a.1) sp lp (outO l fr to) := by
  obtain ⟨x, y, e, hy⟩ := hdP_byte (sp := sp) hlp
  refine ⟨?_, fun x hx => h.ok x (List.mem_filter.1 hx).1⟩
  rw [e, clear_part hy, ← e, h.part]
  unfold itP outO
  rw [List.filter_map]
  rfl
theorem OxM.clear_other (h : OxM M sp lp l) (hlp : 0 ≤ lp ∧ lp ≤ 5) (hn : hdP sp lp ≠ hdP sq lp) (fr to : Bs) : OxM (M.filter fun a => !inR (hdP sq lp ++ fr) (toK (hdP sq lp) to) a.1) sp lp l := by
  obtain ⟨x, y, e, hy⟩ := hdP_byte (sp := sq) hlp
  refine ⟨?_, h.ok⟩
  rw [e] at hn ⊢
  have := Go.Proofs.YtnnghcooidjlhaaGreat.clear_other (M := M) hy hn fr to
  rw [this, h.part]
theorem OxM.count (h : OxM M sp lp l) (fr to : Bs) : ((partM M (hdP sp lp)).filter fun a => inR fr to a.1).length = (insideO l fr to).length := by
  rw [h.part]
  unfold itP insideO
  rw [List.filter_map, List.length_map]
  rfl
theorem OxM.scan (h : OxM M sp lp l) (fr to : Bs) (hl : l.length ≤ 1000) : scanM (partM M (hdP sp lp)) fr to 1099511627776 = itP (insideO l fr to) := by
  unfold scanM
  rw [h.part]
  have e : (itP l).filter (fun a => inR fr to a.1) = itP (insideO l fr to) := by
    unfold itP insideO
    rw [List.filter_map]
    rfl
  rw [e, List.take_of_length_le]
  have : (insideO l fr to).length ≤ l.length := List.length_filter_le _ _
  simp [itP]
  omega
theorem OxM.len (h : OxM M sp lp l) : l.length ≤ M.length := by
  have := partM_length_le M (hdP sp lp)
  rw [h.part] at this
  simpa [itP] using this
theorem OxM.has (h : OxM M sp lp l) (hM : AscM M) (k : Bs) : (∃ v, getM M (hdP sp lp ++ k) = some v) ↔ ∃ x ∈ l, x.key = k := by
  rw [getM_part (hdP_len sp lp) hM, h.part]
  constructor
  · rintro ⟨v, hv⟩
    have := getM_mem hv
    unfold itP at this
    obtain ⟨x, hx, e⟩ := List.mem_map.1 this
    injection e with e1 e2
    exact ⟨x, hx, e1⟩
  · rintro ⟨x, hx, rfl⟩
    cases e : getM (itP l) x.key with
    | some v => exact ⟨v, rfl⟩
    | none => exact absurd rfl (getM_none_iff.1 e (x.key, evB x.e) (List.mem_map.2 ⟨x, hx, rfl⟩))
end
theorem delO_none {l : List It} {k : Bs} (h : ¬ ∃ x ∈ l, x.key = k) : delO l k = l := List.filter_eq_self.2 fun y hy => by
  simp only [ne_eq, decide_not, Bool.not_eq_true', decide_eq_false_iff_not]
  exact fun e => h ⟨y, hy, e⟩
theorem delO_some {l : List It} {k : Bs} (h : ∃ x ∈ l, x.key = k) : (delO l k).length < l.length := by
  obtain ⟨x, hx, e⟩ := h
  refine Nat.lt_of_le_of_ne (List.length_filter_le _ _) fun hh => ?_
  have := List.length_filter_eq_length_iff.1 hh x hx
  simp [e] at this
end Go.Proofs.YtnnghcooidjlhaaGreat
end
section
set_option linter.unusedSimpArgs false
set_option linter.unusedVariables false
namespace Go.Proofs.YtnnghcooidjlhaaGreat
def AscO (l : List It) : Prop := l.Pairwise fun a b => a.key < b.key
theorem ascO_ext {M M' : List It} (h : AscO M) (h' : AscO M') (e : ∀ a, a ∈ M ↔ a ∈ M') : M = M' := by
  induction M generalizing M' with
  | nil =>
    cases M' with
    | nil => rfl
    | cons y t => exact absurd ((e y).2 (by simp)) (by simp)
  | cons x t ih =>
    cases M' with
    | nil => exact absurd ((e x).1 (by simp)) (by simp)
    | cons y t' =>
      have hx := List.pairwise_cons.1 h
      have hy := List.pairwise_cons.1 h'
      have hxy : x = y := by
        rcases List.mem_cons.1 ((e x).1 (by simp)) with h1 | h1
        · exact h1
        · rcases List.mem_cons.1 ((e y).2 (by simp)) with h2 | h2
          · exact h2.symm
          · exact absurd (hx.1 y h2) (blt_asymm (hy.1 x h1))
      subst hxy
      rw [ih hx.2 hy.2 (fun a => ?_)]
      constructor
      · intro ha
        rcases List.mem_cons.1 ((e a).1 (by simp [ha])) with h1 | h1
        · subst h1; exact absurd (hx.1 _ ha) (blt_irrefl _)
        · exact h1
      · intro ha
        rcases List.mem_cons.1 ((e a).2 (by simp [ha])) with h1 | h1
        · subst h1; exact absurd (hy.1 _ ha) (blt_irrefl _)
        · exact h1
theorem mem_setO_iff {l : List It} {x y : It} : y ∈ setO l x ↔ y = x ∨ (y ∈ l ∧ y.key ≠ x.key) := by
  unfold setO
  rw [List.mem_append, List.mem_cons, List.mem_filter, List.mem_filter]
  simp only [decide_eq_true_eq]
  constructor
  · rintro (⟨h1, h2⟩ | h | ⟨h1, h2⟩)
    · exact .inr ⟨h1, fun e => by rw [e] at h2; exact blt_irrefl _ h2⟩
    · exact .inl h
    · exact .inr ⟨h1, fun e => by rw [e] at h2; exact blt_irrefl _ h2⟩
  · rintro (h | ⟨h1, h2⟩)
    · exact .inr (.inl h)
    · rcases blt_tri y.key x.key with h | h | h
      · exact .inl ⟨h1, h⟩
      · exact absurd h h2
      · exact .inr (.inr ⟨h1, h⟩)
theorem setO_asc {l : List It} (h : AscO l) (x : It) : AscO (setO l x) := by
  unfold AscO setO
  rw [List.pairwise_append, List.pairwise_cons]
  refine ⟨h.filter _, ⟨fun y hy => by simpa using (List.mem_filter.1 hy).2, h.filter _⟩, fun y hy z hz => ?_⟩
  have h1 : y.key < x.key := by simpa using (List.mem_filter.1 hy).2
  rcases List.mem_cons.1 hz with rfl | hz
  · exact h1
  · exact blt_trans h1 (by simpa using (List.mem_filter.1 hz).2)
theorem setO_length (l : List It) (x : It) : (setO l x).length ≤ l.length + 1 := by
  unfold setO
  rw [List.length_append, List.length_cons]
  have : ∀ l : List It, (l.filter (fun y => decide (y.key < x.key))).length + (l.filter (fun y => decide (x.key < y.key))).length ≤ l.length := fun l => by
    induction l with
    | nil => simp
    | cons y t ih =>
      rw [List.filter_cons, List.filter_cons]
      by_cases h1 : y.key < x.key
      · have h2 : ¬ x.key < y.key := blt_asymm h1
        simp only [h1, h2, decide_true, decide_false, if_true, List.length_cons, Bool.false_eq_true, if_false]
        omega
      · by_cases h2 : x.key < y.key
        · simp only [h1, h2, decide_true, decide_false, if_true, List.length_cons, Bool.false_eq_true, if_false]
          omega
        · simp only [h1, h2, decide_false, List.length_cons, Bool.false_eq_true, if_false]
          omega
  have := this l
  omega
def dif (x y : It) : Bool := decide (¬ (y.c = x.c ∧ y.k = x.k))
def del24 (l : List It) (x : It) : List It := l.filter (dif x)
def cut24 (l : List It) (x : It) : Nat := (l.takeWhile fun y => decide (y.lt x)).length
def put24 (l : List It) (x : It) : List It := (del24 l x).take (cut24 (del24 l x) x) ++ x :: (del24 l x).drop (cut24 (del24 l x) x)
theorem cut24_le (l : List It) (x : It) : cut24 l x ≤ l.length := (List.takeWhile_prefix _).length_le
theorem tw_filter {p : It → Bool} : ∀ {l : List It}, AscO l → (∀ a b : It, a ∈ l → b ∈ l → a.key < b.key → p b = true → p a = true) → l.take (l.takeWhile p).length = l.filter p ∧ l.drop (l.takeWhile p).length = l.filter fun y => !p y
  | [], _, _ => by simp
  | y :: t, h, hp => by
    have h' := List.pairwise_cons.1 h
    have ih := tw_filter (p := p) h'.2 (fun a b ha hb => hp a b (by simp [ha]) (by simp [hb]))
    cases e : p y with
    | true =>
      rw [List.takeWhile_cons_of_pos e, List.filter_cons_of_pos e, List.filter_cons_of_neg (by simp [e])]
      simp only [List.length_cons, List.take_succ_cons, List.drop_succ_cons]
      exact ⟨by rw [ih.1], ih.2⟩
    | false =>
      have ht : ∀ z ∈ t, p z = false := fun z hz => by
        cases e2 : p z with
        | false => rfl
        | true => rw [hp y z (by simp) (by simp [hz]) (h'.1 z hz) e2] at e; exact absurd e (by simp)
      rw [List.takeWhile_cons_of_neg (by simp [e]), List.filter_cons_of_neg (by simp [e]), List.filter_cons_of_pos (by simp [e])]
      refine ⟨?_, ?_⟩
      · rw [List.filter_eq_nil_iff.2 (fun z hz => by simp [ht z hz])]; rfl
      · rw [List.filter_eq_self.2 (fun z hz => by simp [ht z hz])]; rfl
theorem del24_eq {l : List It} (hl : ∀ y ∈ l, y.fit) {x : It} (hx : x.fit) : del24 l x = delO l x.key := by
  unfold del24 delO
  refine List.filter_congr fun y hy => ?_
  unfold dif
  exact decide_eq_decide.2 (not_congr (It.key_eq (hl y hy) hx).symm)
theorem put24_eq {l : List It} (h : AscO l) (hl : ∀ y ∈ l, y.fit) {x : It} (hx : x.fit) : put24 l x = setO l x := by
  unfold put24 cut24
  rw [del24_eq hl hx]
  have hd : AscO (delO l x.key) := h.filter _
  have hlt : ∀ y ∈ delO l x.key, decide (y.lt x) = decide (y.key < x.key) := fun y hy => decide_eq_decide.2 (It.key_lt (hl y (List.mem_filter.1 hy).1) hx).symm
  obtain ⟨e1, e2⟩ := tw_filter (p := fun y => decide (y.lt x)) hd (fun a b ha hb hab hp => by
    rw [hlt b hb] at hp
    rw [hlt a ha]
    exact decide_eq_true (blt_trans hab (by simpa using hp)))
  rw [e1, e2]
  unfold setO
  congr 1
  · rw [List.filter_congr hlt]
    unfold delO
    rw [List.filter_filter]
    refine List.filter_congr fun y hy => ?_
    by_cases h1 : y.key < x.key
    · have h2 : y.key ≠ x.key := fun e => by rw [e] at h1; exact blt_irrefl _ h1
      simp [h1, h2]
    · simp [h1]
  · congr 1
    rw [List.filter_congr (fun y hy => by rw [hlt y hy])]
    unfold delO
    rw [List.filter_filter]
    refine List.filter_congr fun y hy => ?_
    rcases blt_tri y.key x.key with h1 | h1 | h1
    · simp [h1, blt_asymm h1]
    · simp [h1, blt_irrefl]
    · have h2 : y.key ≠ x.key := fun e => by rw [e] at h1; exact blt_irrefl _ h1
      simp [h1, h2, blt_asymm h1]
end Go.Proofs.YtnnghcooidjlhaaGreat
end
section
set_option linter.unusedSimpArgs false
set_option linter.unusedVariables false
namespace Go.Proofs.YtnnghcooidjlhaaGreat
theorem AscO.ne {l : List It} (h : AscO l) : l.Pairwise fun a b => a.key ≠ b.key := h.imp fun hab e => by rw [e] at hab; exact blt_irrefl _ hab
theorem AscO.inj {l : List It} (h : AscO l) {a b : It} (ha : a ∈ l) (hb : b ∈ l) (e : a.key = b.key) : a = b := by
  induction l with
  | nil => simp at ha
  | cons x t ih =>
    have hx := List.pairwise_cons.1 h
    rcases List.mem_cons.1 ha with ha1 | ha1
    · rcases List.mem_cons.1 hb with hb1 | hb1
      · rw [ha1, hb1]
      · have := hx.1 b hb1; rw [← ha1, e] at this; exact absurd this (blt_irrefl _)
    · rcases List.mem_cons.1 hb with hb1 | hb1
      · have := hx.1 a ha1; rw [← hb1, e] at this; exact absurd this (blt_irrefl _)
      · exact ih hx.2 ha1 hb1
theorem setO_new {l : List It} {x : It} (h : ∀ y ∈ l, y.key ≠ x.key) : (setO l x).length = l.length + 1 := by
  unfold setO
  rw [List.length_append, List.length_cons]
  have : ∀ l : List It, (∀ y ∈ l, y.key ≠ x.key) → (l.filter (fun y => decide (y.key < x.key))).length + (l.filter (fun y => decide (x.key < y.key))).length = l.length := fun l => by
    induction l with
    | nil => simp
    | cons y t ih =>
      intro h
      have ih := ih fun z hz => h z (by simp [hz])
      rw [List.filter_cons, List.filter_cons]
      rcases blt_tri y.key x.key with h1 | h1 | h1
      · have h2 : ¬ x.key < y.key := blt_asymm h1
        simp only [h1, h2, decide_true, decide_false, if_true, List.length_cons, Bool.false_eq_true, if_false]
        omega
      · exact absurd h1 (h y (by simp))
      · have h2 : ¬ y.key < x.key := blt_asymm h1
        simp only [h1, h2, decide_true, decide_false, if_true, List.length_cons, Bool.false_eq_true, if_false]
        omega
  have := this l h
  omega
theorem foldO : ∀ {xs l : List It}, AscO l → (xs.Pairwise fun a b => a.key ≠ b.key) → (∀ x ∈ xs, ∀ y ∈ l, x.key ≠ y.key) → AscO (xs.foldl setO l) ∧ (∀ y, y ∈ xs.foldl setO l ↔ y ∈ xs ∨ y ∈ l) ∧ (xs.foldl setO l).length = l.length + xs.length
  | [], l, h, _, _ => ⟨h, by simp, by simp⟩
  | x :: t, l, h, hp, hn => by
    have hp' := List.pairwise_cons.1 hp
    obtain ⟨h1, h2, h3⟩ := foldO (xs := t) (l := setO l x) (setO_asc h x) hp'.2 (fun z hz y hy => by
      rcases mem_setO hy with rfl | hy
      · exact fun e => hp'.1 z hz e.symm
      · exact hn z (by simp [hz]) y hy)
    refine ⟨h1, fun y => ?_, ?_⟩
    · rw [List.foldl_cons, h2, mem_setO_iff, List.mem_cons]
      constructor
      · rintro (h | h | ⟨h, _⟩)
        · exact .inl (.inr h)
        · exact .inl (.inl h)
        · exact .inr h
      · rintro ((h | h) | h)
        · exact .inr (.inl h)
        · exact .inl h
        · exact .inr (.inr ⟨h, fun e => hn x (by simp) y h e.symm⟩)
    · rw [List.foldl_cons, h3, setO_new (fun y hy e => hn x (by simp) y hy e.symm), List.length_cons]
      omega
structure PartsO (all l m : List It) : Prop where
  aa : AscO all
  al : AscO l
  am : AscO m
  mem : ∀ x, x ∈ all ↔ x ∈ l ∨ x ∈ m
  ne : ∀ x ∈ l, ∀ y ∈ m, x.key ≠ y.key
  len : all.length = l.length + m.length
theorem filter_len (p : It → Bool) : ∀ l : List It, (l.filter p).length + (l.filter fun y => !p y).length = l.length
  | [] => rfl
  | y :: t => by
    have := filter_len p t
    rw [List.filter_cons, List.filter_cons]
    cases p y <;> simp <;> omega
theorem PartsO.swap {all l m : List It} (h : PartsO all l m) : PartsO all m l :=
  ⟨h.aa, h.am, h.al, fun x => by rw [h.mem, Or.comm], fun x hx y hy e => h.ne y hy x hx e.symm, by rw [h.len, Nat.add_comm]⟩
theorem PartsO.move {all l m : List It} (h : PartsO all l m) (fr to : Bs) : PartsO all (outO l fr to) ((insideO l fr to).foldl setO m) := by
  have hi : ∀ x ∈ insideO l fr to, x ∈ l := fun x hx => (List.mem_filter.1 hx).1
  have ho : ∀ x ∈ outO l fr to, x ∈ l := fun x hx => (List.mem_filter.1 hx).1
  obtain ⟨h1, h2, h3⟩ := foldO (xs := insideO l fr to) h.am (AscO.ne (h.al.filter _)) (fun x hx y hy => h.ne x (hi x hx) y hy)
  refine ⟨h.aa, h.al.filter _, h1, fun x => ?_, fun x hx y hy e => ?_, ?_⟩
  · rw [h.mem, h2]
    unfold outO insideO
    rw [List.mem_filter, List.mem_filter]
    constructor
    · rintro (h | h)
      · cases e : inR fr to x.key
        · exact .inl ⟨h, by simp [e]⟩
        · exact .inr (.inl ⟨h, rfl⟩)
      · exact .inr (.inr h)
    · rintro (h | h | h)
      · exact .inl h.1
      · exact .inl h.1
      · exact .inr h
  · rcases (h2 y).1 hy with hy | hy
    · have e2 := h.al.inj (ho x hx) (hi y hy) e
      subst e2
      have q1 := (List.mem_filter.1 hx).2
      have q2 := (List.mem_filter.1 hy).2
      rw [q2] at q1
      exact absurd q1 (by simp)
    · exact h.ne x (ho x hx) y hy e
  · rw [h3, h.len]
    have := filter_len (fun y => inR fr to y.key) l
    unfold insideO outO
    omega
theorem PartsO.again {all l m : List It} (h : PartsO all l m) : m.foldl setO (l.foldl setO []) = all := by
  obtain ⟨h1, h2, h3⟩ := foldO (xs := l) (l := []) List.Pairwise.nil h.al.ne (by simp)
  obtain ⟨g1, g2, g3⟩ := foldO (xs := m) h1 h.am.ne (fun x hx y hy e => by
    rcases (h2 y).1 hy with hy | hy
    · exact h.ne y hy x hx e.symm
    · simp at hy)
  refine ascO_ext g1 h.aa fun x => ?_
  rw [g2, h2, h.mem]
  simp [Or.comm]
end Go.Proofs.YtnnghcooidjlhaaGreat
end
section
set_option linter.unusedSimpArgs false
set_option linter.unusedVariables false
set_option maxRecDepth 100000
namespace Go.Proofs.YtnnghcooidjlhaaGreat
open Go.RowKit Go.Lib
theorem row_ofR {w w' : World} {B s n : Nat} {T : TypeId} {v : Value} {xs : List Value} (h : w.ownsRow B T s v n xs) (e : ∀ b, v.ownBlock = some b → w'.heap[b]? = w.heap[b]?) : w'.ownsRow B T s v n xs := by
  refine ⟨h.1, ?_⟩
  rcases h.2 with h3 | ⟨g, cap, cur, e1, e2, e3, e4⟩
  · exact .inl h3
  · exact .inr ⟨g, cap, cur, e1, e2, (e g (by rw [e1]; rfl)).trans e3, e4⟩
theorem own_slice2R {w : World} {B : Nat} {T : TypeId} {s n : Nat} {v : Value} {xs : List Value} (h : w.ownsRow B T s v n xs) : ∃ p c, v = .slice p n c := by
  rcases h.2 with ⟨h, h0⟩ | ⟨g, cap, cur, h, _⟩
  · exact ⟨none, 0, by rw [h, h0]⟩
  · exact ⟨_, _, h⟩
theorem need0_any (w : World) : Calls Tryz.prog 209 #[.int .i64 0] w fun e w' => e = .returned (.int .i64 0) ∧ w = w' := by
  go_enter Tryz.func209, Tryz.ntmps209
  go_wp2
  go_ret
  exact ⟨rfl, rfl⟩
set_option maxHeartbeats 4000000 in
theorem right1_any (w : World) : Calls Tryz.prog 178 #[.agg #[.int .i64 1, .int .i64 0, .slice none 0 0]] w fun e w' => e = .returned (.bool true) ∧ Below w.heap.size w w' := by
  have HN := hid (fun (W1 : World) => BelC.call_same (W1 := W1) need0_any)
  obtain ⟨W1, hW1⟩ : ∃ W1, W1 = w.alloc (.cells #[.int .i64 1, .int .i64 0, .slice none 0 0] 262) := ⟨_, rfl⟩
  have hb1 : Below w.heap.size w W1 := by rw [hW1]; exact (Below.refl _ w).alloc (Nat.le_refl _) _
  have hB1 : Blk W1 w.heap.size 262 #[.int .i64 1, .int .i64 0, .slice none 0 0] := by rw [hW1]; exact Blk.new w _ _
  have HCL : Hid (∀ W, BelC W1 W → W.cell? ⟨w.heap.size, 0, none⟩ = some (.int .i64 1) ∧ W.cell? ⟨w.heap.size, 1, none⟩ = some (.int .i64 0) ∧ W.cell? ⟨w.heap.size, 2, none⟩ = some (.slice none 0 0)) := hid fun W hW => by
    have h1 := hW.blk hB1
    exact ⟨h1.cell 0, h1.cell 1, h1.cell 2⟩
  have HF : Hid (∀ W, BelC W1 W → Below w.heap.size w W) := hid fun W hW => hb1.trans (hW.out.mono hb1.size)
  have H1 := hid (HN.out W1)
  clear hb1 hB1 HN
  go_enter Tryz.func178, Tryz.ntmps178
  go_wp2
  rw [← hW1]
  clear hW1
  refine qC_region (by kernel_rfl) (by kernel_rfl) (BelC W1) (BelC.drew W1) ?_
  repeat (first | (refine qC_none rfl (fun K hK => ?_); apply Exists.intro; refine ⟨fun w0 hw0 => ?_, ?_⟩; (focus (obtain ⟨q0, q1, q2⟩ := HCL.out w0 hw0; go_simp; first | exact rfl | exact ⟨rfl, rfl⟩ | (exact H1.out w0 hw0))); go_simp; refine hK _ ?_; clear hK K) | (refine qC_yes _ _ _ rfl rfl (by rfl) (fun K hK => ?_); apply Exists.intro; refine ⟨fun w0 hw0 => ?_, ?_⟩; (focus (obtain ⟨q0, q1, q2⟩ := HCL.out w0 hw0; go_simp; first | exact rfl | exact ⟨rfl, rfl⟩ | (exact H1.out w0 hw0))); go_simp; refine hK _ ?_; clear hK K) | (refine qC_no _ _ _ rfl rfl (by rfl) (fun K hK => ?_); go_simp; refine hK _ ?_; clear hK K) | (refine qC_undef _ _ _ rfl rfl (by rfl) (fun K hK => ?_); go_simp; refine hK _ ?_; clear hK K))
  refine qC_nil ?_
  intro w5 hw5
  obtain ⟨q0, q1, q2⟩ := HCL.out w5 hw5
  have H5 := hid (HF.out w5 hw5)
  have hlt := block_lt_of_cell q0
  clear hw5
  go_wp2
  go_loopg [3, 4, 35] 0 (fun gg s3 s4 s35 wr => s35 = .int .i64 0 ∧ wr = w5)
  case atStart => exact ⟨rfl, rfl⟩
  case round =>
    obtain ⟨rfl, rfl⟩ := hrel
    go_wp2
    go_ret
    exact ⟨rfl, H5.out⟩
theorem two0_any (B : Nat) (v : Value) (b : Bs) (w : World) (h : w.ownsRow B 5 1 v b.length (cB b)) (hb : b.length ≤ 1000) (hB : B ≤ w.heap.size) :
    Calls Tryz.prog 179 #[v, .int .i64 0] w fun e w' => ∃ v', e = .returned v' ∧ w'.ownsRow B 5 1 v' (b ++ [0, 0]).length (cB (b ++ [0, 0])) ∧ Below B w w' := by
  go_enter Tryz.func179, Tryz.ntmps179
  obtain ⟨i0, hi, hz0, hz1, hz2⟩ := info_parts inf5
  have HH := hid h
  clear h
  go_wp2_with (with_reducible refine stopAt .append rfl ?_)
  with_reducible refine goOn ?_
  refine wpList_append_own_at _ rfl _ _ 129 rfl B 5 i0 (.int .u8 0) 1 1 Tryz.underlying129 hi hz0 hz1 hz2 rfl (by decide) _ _ _ rfl (HH.out.alloc _) ⟨w.heap.size, 0, none⟩ 2 2 [.int .u8 0, .int .u8 0] rfl rfl ?c1 ?c2 ?c3 ?c4 ?c5 ?_
  case c1 =>
    intro j u hj
    have hb := Blk.new w 5 #[.int .u8 0, .int .u8 0]
    rw [Addr.add_mid, Nat.zero_add, hb.cell]
    simpa using hj
  case c2 => intro u hu; simp at hu; subst hu; rfl
  case c3 => unfold maxLen; omega
  case c4 => omega
  case c5 => simp; omega
  intro v' w1 hown' hgr _ hat
  have HF : Hid (w1.ownsRow B 5 1 v' (b ++ [0, 0]).length (cB (b ++ [0, 0])) ∧ Below B w w1) := hid ⟨own_eq hown' (by simp) (by simp [cB]), (((Below.refl B w).alloc hB _).grown hgr (by simp; omega) (fun g hg => (HH.out.lt g hg).1))⟩
  clear hown' hgr hat
  go_wp2
  go_ret
  exact ⟨v', rfl, HF.out⟩
theorem run_index5_0 (w : World) : (Instr.index 312 (.agg #[.int .i64 0, .int .i64 0, .int .i64 0, .int .i64 0, .int .i64 0]) (.int .i64 0)).run Tryz.prog w = .ok (.int .i64 0) w := by kernel_rfl
theorem run_index5_1 (w : World) : (Instr.index 312 (.agg #[.int .i64 0, .int .i64 0, .int .i64 0, .int .i64 0, .int .i64 0]) (.int .i64 1)).run Tryz.prog w = .ok (.int .i64 0) w := by kernel_rfl
theorem run_index5_2 (w : World) : (Instr.index 312 (.agg #[.int .i64 0, .int .i64 0, .int .i64 0, .int .i64 0, .int .i64 0]) (.int .i64 2)).run Tryz.prog w = .ok (.int .i64 0) w := by kernel_rfl
theorem run_index5_3 (w : World) : (Instr.index 312 (.agg #[.int .i64 0, .int .i64 0, .int .i64 0, .int .i64 0, .int .i64 0]) (.int .i64 3)).run Tryz.prog w = .ok (.int .i64 0) w := by kernel_rfl
theorem run_index5_4 (w : World) : (Instr.index 312 (.agg #[.int .i64 0, .int .i64 0, .int .i64 0, .int .i64 0, .int .i64 0]) (.int .i64 4)).run Tryz.prog w = .ok (.int .i64 0) w := by kernel_rfl
theorem run_index5 (j : Nat) (hj : j < 5) (w : World) : (Instr.index 312 (.agg #[.int .i64 0, .int .i64 0, .int .i64 0, .int .i64 0, .int .i64 0]) (.int .i64 (j : Int))).run Tryz.prog w = .ok (.int .i64 0) w := by
  have h : j = 0 ∨ j = 1 ∨ j = 2 ∨ j = 3 ∨ j = 4 := by omega
  rcases h with rfl | rfl | rfl | rfl | rfl
  · exact run_index5_0 w
  · exact run_index5_1 w
  · exact run_index5_2 w
  · exact run_index5_3 w
  · exact run_index5_4 w
set_option maxHeartbeats 8000000 in
theorem rootput_any (w : World) : Calls Tryz.prog 140 #[.agg #[.int .i64 1, .int .i64 0, .slice none 0 0]] w fun e w' => ∃ b : Bs, e = .returned (.tuple #[.string (S b), .int .i64 0]) ∧ b.length = 64 ∧ Below w.heap.size w w' := by
  have HR := hid (fun W => right1_any W)
  have H2 := hid (fun v b W h1 h2 h3 => two0_any (w.heap.size + 1) v b W h1 h2 h3)
  go_enter Tryz.func140, Tryz.ntmps140
  go_wp2_with fail
  (with_reducible refine (HR.out _).mono ?_)
  rintro e W1 ⟨rfl, hb1⟩
  have hB1 := (Blk.new w 262 #[.int .i64 1, .int .i64 0, .slice none 0 0]).below hb1 (Blk.new _ _ _).lt
  have hb01 : Below w.heap.size w W1 := ((Below.refl _ w).alloc (Nat.le_refl _) (.cells #[.int .i64 1, .int .i64 0, .slice none 0 0] 262)).trans (hb1.mono (by simp))
  have HK : Hid (∀ W, Below (w.heap.size + 1) W1 W → W.cell? ⟨w.heap.size, 0, none⟩ = some (.int .i64 1) ∧ W.cell? ⟨w.heap.size, 1, none⟩ = some (.int .i64 0) ∧ W.cell? ⟨w.heap.size, 2, none⟩ = some (.slice none 0 0)) := hid fun W hW => by
    have h := hB1.below hW (by omega)
    exact ⟨h.cell 0, h.cell 1, h.cell 2⟩
  have H1 := hid (⟨hB1, hb01⟩ : _ ∧ _)
  have hs1 : w.heap.size + 1 ≤ W1.heap.size := by have := hB1.lt; omega
  have HS := hid (HK.out W1 (Below.refl _ _))
  have hn : ∀ W : World, W.ownsRow (w.heap.size + 1) 5 1 (.slice none 0 0) ([] : Bs).length (cB []) := fun W => ⟨rfl, .inl ⟨rfl, rfl⟩⟩
  have HN := hid hn
  clear hb1 hB1 hb01 hn
  go_wp2
  go_region_held3 (fun W => W.cell? ⟨w.heap.size, 0, none⟩ = some (.int .i64 1) ∧ W.cell? ⟨w.heap.size, 1, none⟩ = some (.int .i64 0) ∧ W.cell? ⟨w.heap.size, 2, none⟩ = some (.slice none 0 0)) (first | exact HK.out _ hbC | exact HK.out _ hbA | exact HS.out)
    (first
      | (go_at_call 179; refine (H2.out _ [0, 0] _ hoA (by simp) hsA).mono ?_; rintro e W3 ⟨vB, rfl, hoB, hbB⟩; have hbC : Below (w.heap.size + 1) W1 W3 := hbA.trans hbB; have hsB : w.heap.size + 1 ≤ W3.heap.size := Nat.le_trans hs1 hbC.size)
      | (go_at_call 179; refine (H2.out (.slice none 0 0) [] _ (HN.out _) (by simp) (by exact hs1)).mono ?_; rintro e W2 ⟨vA, rfl, hoA, hbA'⟩; have hbA : Below (w.heap.size + 1) W1 W2 := ⟨hbA'.os, hbA'.tape, hbA'.output, hbA'.size, hbA'.block⟩; have hsA : w.heap.size + 1 ≤ W2.heap.size := Nat.le_trans hs1 hbA.size))
  all_goals
    obtain ⟨q0, q1, q2⟩ := HK.out W3 hbC
    have hlr := block_lt_of_cell q0
    have H3 := hid (⟨hoB, hbC⟩ : _ ∧ _)
    have hcp : ∀ (ad : Option Addr) (W : World) ty, (Builtin.copy_ #[27, 27] ty #[.slice ad 5 5, .slice none 0 0]).run Tryz.prog W = .ok (.int .i64 0) W := fun ad W ty => run_copy_none W 27 27 ty 3 ad none 5 5 0 0 Tryz.underlying27 (by kernel_rfl) rfl
    clear hoB hbC hbA hbA' hbB hoA
    go_wp2
    go_region
    all_goals
      go_wp2
      have HI0 : Hid (((W3.alloc (.cells #[.int .i64 0, .int .i64 0, .int .i64 0, .int .i64 0, .int .i64 0] 312)).drew).ownsRow (w.heap.size + 1) 5 1 vB ([0, 0, 0, 0] : Bs).length (cB [0, 0, 0, 0]) ∧ Below (w.heap.size + 1) W1 ((W3.alloc (.cells #[.int .i64 0, .int .i64 0, .int .i64 0, .int .i64 0, .int .i64 0] 312)).drew)) := hid ⟨row_ofR (H3.out.1.alloc _) (fun _ _ => rfl), below_drewN (H3.out.2.alloc hsB _) 1⟩
      go_loopg [4, 7, 24] 5 (fun gg s4 s7 s24 wr => ∃ (j : Nat) (v : Value) (b : Bs), j ≤ 5 ∧ 5 - j ≤ gg ∧ s24 = .int .i64 j ∧ s4 = v ∧ Hid (wr.ownsRow (w.heap.size + 1) 5 1 v b.length (cB b) ∧ b.length = 4 + 2 * j ∧ Below (w.heap.size + 1) W1 wr))
      case atStart => exact ⟨0, vB, [0, 0, 0, 0], by omega, by omega, rfl, rfl, hid ⟨HI0.out.1, rfl, HI0.out.2⟩⟩
      case round =>
        obtain ⟨j, v, b, hj, hgg, rfl, rfl, HI⟩ := hrel
        by_cases hje : j < 5
        · have hix := run_index5 j hje
          have hji : (j : Int) < 5 := by omega
          have HT := hid (H2.out _ b wr HI.out.1 (by have := HI.out.2.1; omega) (Nat.le_trans hs1 HI.out.2.2.size))
          go_wp2_with fail
          (with_reducible refine HT.out.mono ?_)
          rintro e W5 ⟨v5, rfl, ho5, hb5⟩
          have H5 : Hid (W5.ownsRow (w.heap.size + 1) 5 1 v5 (b ++ [0, 0]).length (cB (b ++ [0, 0])) ∧ (b ++ [0, 0]).length = 4 + 2 * (j + 1) ∧ Below (w.heap.size + 1) W1 W5) := hid ⟨ho5, by have := HI.out.2.1; simp; omega, HI.out.2.2.trans hb5⟩
          clear ho5 hb5
          go_wp2
          go_roundg (5 - (j + 1))
          case measure => omega
          case rel => exact ⟨j + 1, v5, _, by omega, by omega, by go_num, rfl, H5⟩
        · have hj5 : j = 5 := by omega
          subst hj5
          obtain ⟨i0, hi0, hz0, hz1, hz2⟩ := info_parts inf5
          go_wp2
          go_loopg [4] 44 (fun gg s4 wr => ∃ (v : Value) (b : Bs), b.length ≤ 44 ∧ 44 - b.length ≤ gg ∧ s4 = v ∧ Hid (wr.ownsRow (w.heap.size + 1) 5 1 v b.length (cB b) ∧ Below (w.heap.size + 1) W1 wr))
          case atStart => exact ⟨_, b, by have := HI.out.2.1; omega, by omega, rfl, hid ⟨HI.out.1, HI.out.2.2⟩⟩
          case round =>
            obtain ⟨v, b, hbl, hgg, rfl, HJ⟩ := hrel
            obtain ⟨n, hn⟩ : ∃ n, n = b.length := ⟨_, rfl⟩
            have HN2 := hid hn
            have ho := HJ.out.1
            rw [← hn] at ho hbl hgg
            obtain ⟨pa, pc, rfl⟩ := own_slice2R ho
            have HO := hid ho
            clear hn ho
            by_cases hlt : n < 44
            · have hlti : (n : Int) < 44 := by omega
              go_wp2_with (with_reducible refine stopAt .append rfl ?_)
              with_reducible refine goOn ?_
              refine wpList_append_own_at _ rfl _ _ 129 rfl (w.heap.size + 1) 5 i0 (.int .u8 0) 1 1 Tryz.underlying129 hi0 hz0 hz1 hz2 rfl (by decide) _ _ _ rfl (HO.out.alloc _) ⟨wr.heap.size, 0, none⟩ 1 1 [.int .u8 0] rfl rfl ?c1 ?c2 ?c3 ?c4 ?c5 ?_
              case c1 => exact news1 _ _ _ rfl
              case c2 => exact one1 rfl
              case c3 => unfold maxLen; omega
              case c4 => omega
              case c5 => have := HJ.out.2.size; simp; omega
              intro v' w5 hown' hgr _ _
              have HF : Hid (w5.ownsRow (w.heap.size + 1) 5 1 v' (b ++ [0]).length (cB (b ++ [0])) ∧ Below (w.heap.size + 1) W1 w5) := hid ⟨own_eq hown' (by simp [HN2.out]) (by simp [cB]), ((HJ.out.2.alloc (Nat.le_trans hs1 HJ.out.2.size) _).grown hgr (by have := HJ.out.2.size; simp; omega) (fun g hg => (HO.out.lt g hg).1))⟩
              clear hown' hgr
              go_wp2
              go_roundg (44 - (n + 1))
              case measure => omega
              case rel => exact ⟨v', b ++ [0], by have := HN2.out; simp; omega, by have := HN2.out; simp; omega, rfl, HF⟩
            · have hn4 : n = 44 := by omega
              have hlti : ¬ (n : Int) < 44 := by omega
              have hcv := fun (W : World) (h : W.ownsRow (w.heap.size + 1) 5 1 (.slice pa n pc) b.length (cB b)) => own_string h
              have hcv2 := hcv wr (by rw [← HN2.out]; exact HO.out)
              have HCR := hid (fun W => crcLay_any b W (by have := HN2.out; omega) (by have := HN2.out; omega))
              have hlc : (crcLay b).length = 48 := by have := HN2.out; simp; omega
              have HN4 := hid hn4
              clear hcv hn4
              go_wp2_with fail
              (with_reducible refine (HCR.out _).mono ?_)
              rintro e W6 ⟨rfl, hb6⟩
              have hb16 : Below (w.heap.size + 1) W1 W6 := HJ.out.2.trans (hb6.mono (Nat.le_trans hs1 HJ.out.2.size))
              have HCL : Hid (∀ W, BelC W6 W → W.cell? ⟨w.heap.size, 0, none⟩ = some (.int .i64 1)) := hid fun W hW => (HK.out W (hb16.trans (hW.out.mono (Nat.le_trans hs1 hb16.size)))).1
              have HI1 := hid (BelC.call (W1 := W6) (fun W => packI_any 1 W (by omega) (by omega)))
              have HFB : Hid (∀ W, BelC W6 W → Below w.heap.size w W) := hid fun W hW => H1.out.2.trans ((hb16.mono (Nat.le_succ _)).trans (hW.out.mono (Nat.le_trans H1.out.2.size hb16.size)))
              have hl8 : (encI 1).length = 8 := encI_length 1
              obtain ⟨cb, hcb⟩ : ∃ cb, cb = crcLay b := ⟨_, rfl⟩
              rw [← hcb] at hlc ⊢
              clear hcb hb6 hb16 hcv2
              go_wp2
              refine qC_region (by kernel_rfl) (by kernel_rfl) (BelC W6) (BelC.drew W6) ?_
              repeat (first | (refine qC_none rfl (fun K hK => ?_); apply Exists.intro; refine ⟨fun w0 hw0 => ?_, ?_⟩; (focus (have q0 := HCL.out w0 hw0; go_simp; first | exact rfl | exact ⟨rfl, rfl⟩ | (exact HI1.out w0 hw0))); go_simp; refine hK _ ?_; clear hK K) | (refine qC_yes _ _ _ rfl rfl (by rfl) (fun K hK => ?_); apply Exists.intro; refine ⟨fun w0 hw0 => ?_, ?_⟩; (focus (have q0 := HCL.out w0 hw0; go_simp; first | exact rfl | exact ⟨rfl, rfl⟩ | (exact HI1.out w0 hw0))); go_simp; refine hK _ ?_; clear hK K) | (refine qC_no _ _ _ rfl rfl (by rfl) (fun K hK => ?_); go_simp; refine hK _ ?_; clear hK K) | (refine qC_undef _ _ _ rfl rfl (by rfl) (fun K hK => ?_); go_simp; refine hK _ ?_; clear hK K))
              refine qC_nil ?_
              intro w7 hw7
              have H7 := hid (HFB.out w7 hw7)
              have HLC := hid hlc
              clear hw7
              go_wp2
              go_ret2
              exact ⟨_, rfl, by have := HLC.out; simp; omega, H7.out⟩
end Go.Proofs.YtnnghcooidjlhaaGreat
end
