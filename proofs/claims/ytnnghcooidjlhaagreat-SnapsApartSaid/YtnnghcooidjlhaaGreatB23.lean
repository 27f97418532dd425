/- Parts of the proof: Oq Ve Or Yb Ya Yc. -/
import Derived.Test.YtnnghcooidjlhaaGreatRows
import Derived.Deep.Slices
import Derived.ProofKit
import Derived.SizedLaws
import Derived.Laws.Cover2
import Derived.Carry
import Derived.Deep.AppendSrc
import Derived.Test.YtnnghcooidjlhaaGreatA06
import Derived.Test.YtnnghcooidjlhaaGreatA20
import Derived.Test.YtnnghcooidjlhaaGreatA21
set_option linter.all false
section
set_option linter.unusedSimpArgs false
set_option maxRecDepth 100000
namespace Go.Proofs.YtnnghcooidjlhaaGreat
open Go.ChangeShapes Go.WideShapes Go.ChangeAt Go.RowKit Go.Deep
theorem own : ownKnob Tryz.prog.godebug = none := by kernel_rfl
theorem laid : laidOutB Tryz.prog = true := by kernel_rfl
section
variable {H : Type} {enc : TypeId × Value → H} {P : Program} {w : World} {base : Nat} {spare : Nat → Bool} {held : Bool}
theorem mapM_some {α β : Type} (f : α → Option β) : ∀ (l : List α) (ys : List β), l.mapM f = some ys → ∀ a ∈ l, ∃ b, f a = some b := by
  intro l
  induction l with
  | nil => intro ys _ a ha; cases ha
  | cons x l ih =>
    intro ys h a ha
    rw [List.mapM_cons] at h
    cases hx : f x with
    | none => rw [hx] at h; cases h
    | some b =>
      cases hl : l.mapM f with
      | none => rw [hx, hl] at h; cases h
      | some bs =>
        cases ha with
        | head => exact ⟨b, hx⟩
        | tail _ ha => exact ih bs hl a ha
theorem trod_fields {t : TypeId} {fs : Array Field} {n : Nat} {cs : List Value} {x : DataW H × List MemPlace} (hu : P.underlying t = some (.struct fs)) (h : DataW.trod enc P w base spare held (n + 1) t cs = some x) :
    cs.length = P.cellsOf t ∧ ∀ f ∈ fs.toList, ∃ y, DataW.trod enc P w base spare held n f.type ((cs.drop f.offset).take (P.cellsOf f.type)) = some y := by
  simp only [DataW.trod, hu] at h
  split at h
  · rename_i hl
    refine ⟨hl, ?_⟩
    cases hm : fs.toList.mapM fun f => DataW.trod enc P w base spare held n f.type ((cs.drop f.offset).take (P.cellsOf f.type)) with
    | none => rw [hm] at h; cases h
    | some ys => exact mapM_some _ _ ys hm
  · cases h
theorem leaf_int {t : TypeId} {k : IntKind} {n : Nat} {c : Value} {x : DataW H × List MemPlace} (hu : P.underlying t = some (.int k)) (h : DataW.trod enc P w base spare held n t [c] = some x) : ∃ z, c = .int k z ∧ (Lit.int k z).wf = true := by
  cases n with
  | zero => cases h
  | succ n =>
    cases c <;> simp [DataW.trod, hu] at h
    rename_i k' z
    obtain ⟨⟨rfl, hw⟩, _⟩ := h
    exact ⟨z, rfl, hw⟩
theorem leaf_float {t : TypeId} {k : FloatKind} {n : Nat} {c : Value} {x : DataW H × List MemPlace} (hu : P.underlying t = some (.float k)) (h : DataW.trod enc P w base spare held n t [c] = some x) : ∃ z, c = .float k z ∧ (Lit.float k z).wf = true := by
  cases n with
  | zero => cases h
  | succ n =>
    cases c <;> simp [DataW.trod, hu] at h
    rename_i k' z
    obtain ⟨⟨rfl, hw⟩, _⟩ := h
    exact ⟨z, rfl, hw⟩
theorem wf_float {b : Nat} (h : (Lit.float .f64 b).wf = true) : b < 18446744073709551616 := by
  simpa [Lit.wf, FloatKind.has] using h
theorem wf_int {z : Int} (h : (Lit.int .i64 z).wf = true) : -9223372036854775808 ≤ z ∧ z < 9223372036854775808 := by
  have := h
  simp [Lit.wf, IntKind.has, IntKind.min, IntKind.max, IntKind.signed, IntKind.bits] at this
  omega
theorem leaf_bool {t : TypeId} {n : Nat} {c : Value} {x : DataW H × List MemPlace} (hu : P.underlying t = some .bool) (h : DataW.trod enc P w base spare held n t [c] = some x) : ∃ z, c = .bool z := by
  cases n with
  | zero => cases h
  | succ n =>
    cases c <;> simp [DataW.trod, hu] at h
    exact ⟨_, rfl⟩
end
theorem cellsEvent : Tryz.prog.cellsOf 67 = 5 := by kernel_rfl
theorem cellsStamp : Tryz.prog.cellsOf 65 = 3 := by kernel_rfl
theorem cellsInt : Tryz.prog.cellsOf 3 = 1 := by kernel_rfl
theorem cellsBool : Tryz.prog.cellsOf 4 = 1 := by kernel_rfl
theorem cellsFloat : Tryz.prog.cellsOf 63 = 1 := by kernel_rfl
theorem cellsMsg22 : Tryz.prog.cellsOf 116 = 6 := by kernel_rfl
theorem cellsAct22 : Tryz.prog.cellsOf 118 = 8 := by kernel_rfl
section
variable {H : Type} {enc : TypeId × Value → H} {w : World} {base : Nat} {spare : Nat → Bool} {held : Bool}
theorem open_event {fuel : Nat} {cs : List Value} {x : DataW H × List MemPlace} (h : DataW.trod enc Tryz.prog w base spare held fuel 67 cs = some x) :
    ∃ e : Ev, cs = evC e ∧ e.ok := by
  cases fuel with
  | zero => cases h
  | succ n =>
    obtain ⟨hl, hf⟩ := trod_fields Tryz.underlying67 h
    rw [cellsEvent] at hl
    match cs, hl with
    | [c0, c1, c2, c3, c4], _ =>
      simp [cellsStamp, cellsInt] at hf
      obtain ⟨⟨_, _, hs⟩, ⟨_, _, h3⟩, ⟨_, _, h4⟩⟩ := hf
      obtain ⟨z3, rfl, w3⟩ := leaf_int Tryz.underlying3 h3
      obtain ⟨z4, rfl, w4⟩ := leaf_int Tryz.underlying3 h4
      cases n with
      | zero => cases hs
      | succ n =>
        obtain ⟨_, hf⟩ := trod_fields Tryz.underlying65 hs
        simp [cellsFloat, cellsInt] at hf
        obtain ⟨⟨_, _, h0⟩, ⟨_, _, h1⟩, ⟨_, _, h2⟩⟩ := hf
        obtain ⟨z0, rfl, w0⟩ := leaf_float Tryz.underlying63 h0
        obtain ⟨z1, rfl, w1⟩ := leaf_int Tryz.underlying3 h1
        obtain ⟨z2, rfl, w2⟩ := leaf_int Tryz.underlying3 h2
        exact ⟨⟨z0, z1, z2, z3, z4⟩, rfl, wf_float w0, wf_int w1, wf_int w2, wf_int w3, wf_int w4⟩
theorem open_msg22 {fuel : Nat} {cs : List Value} {x : DataW H × List MemPlace} (h : DataW.trod enc Tryz.prog w base spare held fuel 116 cs = some x) :
    ∃ (e : Ev) (a : Bool), cs = evC e ++ [.bool a] ∧ e.ok := by
  cases fuel with
  | zero => cases h
  | succ n =>
    obtain ⟨hl, hf⟩ := trod_fields Tryz.underlying116 h
    rw [cellsMsg22] at hl
    match cs, hl with
    | [c0, c1, c2, c3, c4, c5], _ =>
      simp [cellsEvent, cellsBool] at hf
      obtain ⟨⟨_, _, he⟩, ⟨_, _, h5⟩⟩ := hf
      obtain ⟨a, rfl⟩ := leaf_bool Tryz.underlying4 h5
      obtain ⟨e, he, hok⟩ := open_event he
      exact ⟨e, a, by rw [← he]; rfl, hok⟩
theorem open_act22 {fuel : Nat} {cs : List Value} {x : DataW H × List MemPlace} (h : DataW.trod enc Tryz.prog w base spare held fuel 118 cs = some x) :
    ∃ (k i : Int) (e : Ev) (a : Bool), cs = [.int .i64 k, .int .i64 i] ++ (evC e ++ [.bool a]) ∧ e.ok ∧ (-9223372036854775808 ≤ k ∧ k < 9223372036854775808) ∧ (-9223372036854775808 ≤ i ∧ i < 9223372036854775808) := by
  cases fuel with
  | zero => cases h
  | succ n =>
    obtain ⟨hl, hf⟩ := trod_fields Tryz.underlying118 h
    rw [cellsAct22] at hl
    match cs, hl with
    | [c0, c1, c2, c3, c4, c5, c6, c7], _ =>
      simp [cellsMsg22, cellsInt] at hf
      obtain ⟨⟨_, _, h0⟩, ⟨_, _, h1⟩, ⟨_, _, h2⟩⟩ := hf
      obtain ⟨k, rfl, wk⟩ := leaf_int Tryz.underlying3 h0
      obtain ⟨i, rfl, wi⟩ := leaf_int Tryz.underlying3 h1
      obtain ⟨e, a, he, hok⟩ := open_msg22 h2
      exact ⟨k, i, e, a, by rw [← he]; rfl, hok, wf_int wk, wf_int wi⟩
theorem trodAll_below {P : Program} {W W' : World} (hl : laidOutB P = true) (hb : Below W.heap.size W W') : ∀ {ts : List TypeId} {vs : List Value} {ds : List (DataW H)} {ps : List MemPlace},
    DataW.TrodAll enc P W 0 (fun _ => true) true ts vs ds ps → (∀ t ∈ ts, P.readableRec t = true ∧ t < P.types.size) →
    DataW.TrodAll enc P W' 0 (fun b => decide (b < W.heap.size)) true ts vs ds ps
  | [], [], [], _, h, _ => h
  | t :: ts, v :: vs, d :: ds, _, h, ht => by
    obtain ⟨p, q, h1, h2, rfl⟩ := h
    obtain ⟨a, b⟩ := ht t (by simp)
    refine ⟨p, q, Below.trod hl a b h1 hb ?_, trodAll_below hl hb h2 (fun t ht' => ht t (by simp [ht'])), rfl⟩
    obtain ⟨fuel, hf⟩ := h1
    exact DataW.trod_lt _ _ _ _ hf
  | [], [], _ :: _, _, h, _ => h.elim
  | [], _ :: _, _, _, h, _ => h.elim
  | _ :: _, [], _, _, h, _ => h.elim
  | _ :: _, _ :: _, [], _, h, _ => h.elim
end
end Go.Proofs.YtnnghcooidjlhaaGreat
end
section
set_option linter.unusedSimpArgs false
set_option linter.unusedVariables false
set_option maxRecDepth 100000
namespace Go.Proofs.YtnnghcooidjlhaaGreat
open Go.RowKit Go.Lib
section
variable {α : Type} {k : Nat} {enc : α → List Value} {w w' : World} {v : Value} {l : List α}
structure Vw (k : Nat) (enc : α → List Value) (w : World) (v : Value) (l : List α) : Prop where
  form : ∃ p c, v = .slice p l.length c ∧ l.length ≤ c ∧ (l = [] ∨ ∃ b off, p = some ⟨b, off, none⟩ ∧ b < w.heap.size ∧ ∀ i x, l[i]? = some x → ∀ q u, (enc x)[q]? = some u → w.cell? ⟨b, off + i * k + q, none⟩ = some u)
theorem Vw.of_block (h : Vw k enc w v l) (e : ∀ b, b < w.heap.size → v.ownBlock = some b → w'.heap[b]? = w.heap[b]?) (hs : w.heap.size ≤ w'.heap.size) : Vw k enc w' v l := by
  obtain ⟨p, c, rfl, hc, g⟩ := h.form
  refine ⟨p, c, rfl, hc, ?_⟩
  rcases g with g | ⟨b, off, rfl, hb, hx⟩
  · exact .inl g
  · exact .inr ⟨b, off, rfl, Nat.lt_of_lt_of_le hb hs, fun i x hi q u hu => (World.cell?_of_block (e b hb rfl)).trans (hx i x hi q u hu)⟩
theorem Vw.below (h : Vw k enc w v l) (hb : Below w.heap.size w w') : Vw k enc w' v l := h.of_block (fun b hlt _ => hb.block b hlt) hb.size
theorem Vw.nil (k : Nat) (enc : α → List Value) (w : World) (p : Option Addr) (c : Nat) : Vw k enc w (.slice p 0 c) [] := ⟨p, c, rfl, Nat.zero_le _, .inl rfl⟩
theorem Vw.slice (h : Vw k enc w v l) : ∃ p c, v = .slice p l.length c ∧ l.length ≤ c := by
  obtain ⟨p, c, h1, h2, _⟩ := h.form
  exact ⟨p, c, h1, h2⟩
theorem Vw.ex (h : Vw k enc w v l) (hn : l ≠ []) : ∃ b off c, v = .slice (some ⟨b, off, none⟩) l.length c ∧ l.length ≤ c ∧ b < w.heap.size ∧ ∀ i x, l[i]? = some x → ∀ q u, (enc x)[q]? = some u → w.cell? ⟨b, off + i * k + q, none⟩ = some u := by
  obtain ⟨p, c, h1, h2, g⟩ := h.form
  obtain ⟨b, off, rfl, g1, g2⟩ := g.resolve_left hn
  exact ⟨b, off, c, h1, h2, g1, g2⟩
theorem Vw.of_own {B n : Nat} {T : TypeId} (hk : ∀ x, (enc x).length = k) (h : w.ownsRow B T k v n (rowV enc l)) (hn : n = l.length) : Vw k enc w v l := by
  subst hn
  by_cases h0 : l = []
  · obtain ⟨p, c, rfl⟩ := own_slice2 h
    exact ⟨p, c, rfl, by rw [h0]; exact Nat.zero_le _, .inl h0⟩
  · obtain ⟨g, c, rfl, hg1, hg2, hg3⟩ := own_form h (List.length_pos_iff.2 h0)
    refine ⟨_, c, rfl, hg3, .inr ⟨g, 0, rfl, hg2, fun i x hx q u hu => ?_⟩⟩
    have hq : q < k := by
      have := (List.getElem?_eq_some_iff.1 hu).1
      rwa [hk] at this
    rw [Nat.zero_add]
    exact own_at h rfl (j := i * k + q) ((rowV_get hk l i x hx q hq).trans hu)
theorem Vw.one {T : TypeId} {x : α} {b c : Nat} (h : Blk w b T (enc x).toArray) (hc : 1 ≤ c) : Vw k enc w (.slice (some ⟨b, 0, none⟩) 1 c) [x] := by
  refine ⟨_, c, rfl, hc, .inr ⟨b, 0, rfl, h.lt, fun i y hy q u hu => ?_⟩⟩
  rcases i with _ | i
  · simp at hy
    subst hy
    rw [Nat.zero_mul, Nat.add_zero, Nat.zero_add, h.cell]
    simpa using hu
  · simp at hy
theorem Vw.take {b off c : Nat} (h : Vw k enc w (.slice (some ⟨b, off, none⟩) l.length c) l) (i : Nat) (hi : i ≤ l.length) : Vw k enc w (.slice (some ⟨b, off, none⟩) i c) (l.take i) := by
  obtain ⟨p, c', e, hc, g⟩ := h.form
  injection e with e1 _ e3
  subst e1 e3
  refine ⟨_, c, by rw [List.length_take, Nat.min_eq_left hi], by rw [List.length_take]; omega, ?_⟩
  by_cases h0 : l = []
  · exact .inl (by rw [h0]; simp)
  · obtain ⟨b', off', e, hb, hx⟩ := g.resolve_left h0
    injection e with e
    injection e with e1 e2 _
    subst e1 e2
    refine .inr ⟨b, off, rfl, hb, fun j x hj q u hu => hx j x ?_ q u hu⟩
    rw [List.getElem?_take] at hj
    split at hj
    · exact hj
    · cases hj
theorem Vw.drop {b off c : Nat} (h : Vw k enc w (.slice (some ⟨b, off, none⟩) l.length c) l) (i : Nat) (hi : i ≤ l.length) : Vw k enc w (.slice (some ⟨b, off + i * k, none⟩) (l.length - i) (c - i)) (l.drop i) := by
  obtain ⟨p, c', e, hc, g⟩ := h.form
  injection e with e1 _ e3
  subst e1 e3
  refine ⟨_, c - i, by rw [List.length_drop], by rw [List.length_drop]; omega, ?_⟩
  by_cases h0 : l = []
  · exact .inl (by rw [h0]; simp)
  · obtain ⟨b', off', e, hb, hx⟩ := g.resolve_left h0
    injection e with e
    injection e with e1 e2 _
    subst e1 e2
    refine .inr ⟨b, off + i * k, rfl, hb, fun j x hj q u hu => ?_⟩
    rw [List.getElem?_drop] at hj
    rw [show off + i * k + j * k + q = off + (i + j) * k + q by rw [Nat.add_mul]; omega]
    exact hx (i + j) x hj q u hu
theorem Vw.cells (hk : ∀ x, (enc x).length = k) {b off c : Nat} (h : Vw k enc w (.slice (some ⟨b, off, none⟩) l.length c) l) : ∀ j u, (rowV enc l)[j]? = some u → w.cell? ⟨b, off + j, none⟩ = some u := by
  intro j u hj
  have hlt : j < (rowV enc l).length := (List.getElem?_eq_some_iff.1 hj).1
  rw [rowV_length hk] at hlt
  have hk0 : 0 < k := Nat.pos_of_ne_zero (by rintro rfl; simp at hlt)
  have hd := Nat.div_add_mod j k
  have hm := Nat.mod_lt j hk0
  have hjl : j / k < l.length := (Nat.div_lt_iff_lt_mul hk0).2 hlt
  obtain ⟨p, c', e, hc, g⟩ := h.form
  have h0 : l ≠ [] := by rintro rfl; simp at hjl
  obtain ⟨b', off', rfl, hb, hx⟩ := g.resolve_left h0
  injection e with e _ _
  injection e with e
  injection e with e1 e2 _
  subst e1 e2
  obtain ⟨x, hxx⟩ : ∃ x, l[j / k]? = some x := ⟨_, List.getElem?_eq_getElem hjl⟩
  have hr := rowV_get hk l (j / k) x hxx (j % k) hm
  rw [show j / k * k + j % k = j by rw [Nat.mul_comm]; exact hd] at hr
  have := hx (j / k) x hxx (j % k) u (by rw [← hr]; exact hj)
  rw [show off + j / k * k + j % k = off + j by rw [Nat.mul_comm]; omega] at this
  exact this
end
theorem run_app_all (t ty : TypeId) {α : Type} (enc : α → List Value) {e : TypeId} {z : Value} {size bytes : Nat} (hi : Inf e z size bytes) (ht : Tryz.prog.underlying t = some (.slice e))
    (hzs : z.cells.size = size) (hsz : 0 < size) (hby : bytes ≤ 1000) (hk : ∀ x, (enc x).length = size) (hone : ∀ x, ∀ u ∈ enc x, u.oneCell' = true) {B : Nat} {W : World} {v xv : Value} {l l2 : List α} {n : Nat} (hown : W.ownsRow B e size v n (rowV enc l)) (hv2 : Vw size enc W xv l2) (hn : n + l2.length ≤ 100000) (hB : B ≤ W.heap.size) :
    ∃ v' w', (Builtin.append_ #[t, t] ty #[v, xv]).run Tryz.prog W = .ok v' w' ∧ w'.ownsRow B e size v' (n + l2.length) (rowV enc (l ++ l2)) ∧ Kp v.ownBlock.toList W w' := by
  obtain ⟨i0, hi0, hz0, hz1, hz2⟩ := info_parts hi
  by_cases h0 : l2 = []
  · subst h0
    obtain ⟨p, c, rfl, hc⟩ := hv2.slice
    have hsrc : Src Tryz.prog i0.size t (.slice p 0 c) 0 [] W := by
      cases p with
      | none => exact Src.ofNil W ht c
      | some ad => exact Src.ofSlice W ht ad 0 c [] (by simp) (by simp) (by simp)
    have hvf : ∃ base sLen sCap, v = .slice base sLen sCap ∧ sLen ≤ sCap := by
      rcases hown.2 with ⟨rfl, _⟩ | ⟨g, cap, cur, rfl, _, _, hnc, _⟩
      · exact ⟨_, _, _, rfl, Nat.le_refl _⟩
      · exact ⟨_, _, _, rfl, hnc⟩
    obtain ⟨base, sLen, sCap, rfl, hle⟩ := hvf
    refine ⟨_, W, ?_, by simpa using hown, Kp.refl _ _⟩
    have hlen := hsrc.len
    have hcells := hsrc.cells
    rw [show ([] : List α).length = 0 from rfl]
    cases base <;> simp [Builtin.append_, run_underlying ht, sizeOf, typeInfo, hi0, hlen, hle, hcells, storeCells]
  · obtain ⟨b, off, c, rfl, hc, hb, hxx⟩ := hv2.ex h0
    obtain ⟨v', w', hr, h2, h3, _⟩ := run_append_own (P := Tryz.prog) W B t ty e i0 z size bytes ht hi0 hz0 hz1 hz2 hzs hsz v n _ hown ⟨b, off, none⟩ l2.length c (rowV enc l2) (rowV_length hk l2) (fun j u hj => by rw [Addr.add_lit]; exact hv2.cells hk j u hj) (rowV_one hone l2) (by unfold maxLen; omega)
      (by
        have : (n + l2.length) * bytes ≤ 100000 * 1000 := Nat.mul_le_mul (by omega) hby
        omega) hB
    exact ⟨v', w', hr, by rw [rowV_append]; exact h2, (Kp.refl _ W).grown h3 (fun g hg => .inl (Option.mem_toList.2 hg))⟩
section
variable {ops : Array Oper} {o : Oper} {a : Act} {Q : Exit → Act → World → Prop} {α : Type} {e : TypeId} {z : Value} {size bytes : Nat} {B : Nat} {W : World} {v xv : Value} {l l2 : List α} {n : Nat}
theorem app_all {rest : List Oper} (hgd : o.guard = none) (s x : Operand) (t : TypeId)
    (ho : o.op = .call { callee := .builtin .append, args := #[s, x], argTypes := #[t, t] }) (enc : α → List Value) (hi : Inf e z size bytes) (ht : Tryz.prog.underlying t = some (.slice e))
    (hzs : z.cells.size = size) (hsz : 0 < size) (hby : bytes ≤ 1000) (hk : ∀ x, (enc x).length = size) (hone : ∀ x, ∀ u ∈ enc x, u.oneCell' = true) (hown : W.ownsRow B e size v n (rowV enc l)) (hv2 : Vw size enc W xv l2) (hn : n + l2.length ≤ 100000) (hB : B ≤ W.heap.size)
    (hs : a.eval s = v) (hx : a.eval x = xv)
    (h : ∀ v' w', w'.ownsRow B e size v' (n + l2.length) (rowV enc (l ++ l2)) → Kp v.ownBlock.toList W w' → wpList Tryz.prog ops Q rest (a.put o.dst v') w') : wpList Tryz.prog ops Q (o :: rest) a W := by
  refine wpList_plain hgd fun K hK => ?_
  obtain ⟨v', w', hr, h2, h3⟩ := run_app_all t o.type enc hi ht hzs hsz hby hk hone hown hv2 hn hB
  unfold Oper.wp execOp
  simp only [ho, resolve, invoke, builtin, Sem.run_bind, Sem.run_pure, Result.andThen_ok, List.map_toArray, List.map_cons, List.map_nil, hs, hx, hr]
  exact hK _ _ (h v' w' h2 h3)
theorem step_app_all {K : Act → World → Prop} {E : Prop} (hgd : o.guard = none) (s x : Operand) (t : TypeId)
    (ho : o.op = .call { callee := .builtin .append, args := #[s, x], argTypes := #[t, t] }) (enc : α → List Value) (hi : Inf e z size bytes) (ht : Tryz.prog.underlying t = some (.slice e))
    (hzs : z.cells.size = size) (hsz : 0 < size) (hby : bytes ≤ 1000) (hk : ∀ x, (enc x).length = size) (hone : ∀ x, ∀ u ∈ enc x, u.oneCell' = true) (hown : W.ownsRow B e size v n (rowV enc l)) (hv2 : Vw size enc W xv l2) (hn : n + l2.length ≤ 100000) (hB : B ≤ W.heap.size)
    (hs : a.eval s = v) (hx : a.eval x = xv)
    (h : ∀ v' w', w'.ownsRow B e size v' (n + l2.length) (rowV enc (l ++ l2)) → Kp v.ownBlock.toList W w' → K (a.put o.dst v') w') :
    if Region.wanted o (yielded ops a.tmps) = true then Oper.wp Tryz.prog o a W K Q else E := by
  rw [if_pos (by unfold Region.wanted; rw [hgd])]
  obtain ⟨v', w', hr, h2, h3⟩ := run_app_all t o.type enc hi ht hzs hsz hby hk hone hown hv2 hn hB
  unfold Oper.wp execOp
  simp only [ho, resolve, invoke, builtin, Sem.run_bind, Sem.run_pure, Result.andThen_ok, List.map_toArray, List.map_cons, List.map_nil, hs, hx, hr]
  exact h v' w' h2 h3
end
end Go.Proofs.YtnnghcooidjlhaaGreat
end
section
set_option linter.unusedSimpArgs false
set_option maxRecDepth 100000
namespace Go.Proofs.YtnnghcooidjlhaaGreat
open Go.ChangeShapes Go.WideShapes Go.ChangeAt Go.RowKit Go.Deep
section
variable {H : Type} {enc : TypeId × Value → H} {w : World} {spare : Nat → Bool} {held : Bool}
theorem open_rows {α : Type} (d0 : α) {k : Nat} {encA : α → List Value} {R : α → Prop} {t e : TypeId} (ht : Tryz.prog.underlying t = some (.slice e)) (hc : Tryz.prog.cellsOf e = k) (hk0 : 0 < k) (hk : ∀ x, (encA x).length = k)
    (ho : ∀ (fuel : Nat) (cs : List Value) (x : DataW H × List MemPlace), DataW.trod enc Tryz.prog w 0 spare held fuel e cs = some x → ∃ y, cs = encA y ∧ R y) {fuel : Nat} {v : Value} {x : DataW H × List MemPlace} (h : DataW.trod enc Tryz.prog w 0 spare held fuel t [v] = some x) :
    ∃ (p : Option Addr) (n c : Nat) (l : List α), v = .slice p n c ∧ n = l.length ∧ Vw k encA w (.slice p n c) l ∧ ∀ y ∈ l, R y := by
  rcases open_slice ht h with ⟨hcs, _⟩ | ⟨a, len, cap, m, n, D, Pl, hcs, _, hl, hm, hmm, _, hel⟩
  · simp at hcs
    subst hcs
    exact ⟨none, 0, 0, [], rfl, rfl, Vw.nil _ _ _ _ _, by simp⟩
  · simp at hcs
    subst hcs
    have hlm : len ≤ m := by rw [hmm]; split <;> omega
    have h1 : ∀ i, ∃ y : α, i < len → (R y ∧ ∃ cs', w.cells? 0 (a.add (i * k)) k = some cs' ∧ cs' = encA y) := by
      intro i
      by_cases hi : i < len
      · obtain ⟨cs', h1, h2⟩ := hel i (by omega)
        rw [hc] at h1
        obtain ⟨y, hy, hr⟩ := ho _ _ _ h2
        exact ⟨y, fun _ => ⟨hr, cs', h1, hy⟩⟩
      · exact ⟨d0, fun h => absurd h hi⟩
    obtain ⟨F, hF⟩ := Classical.axiomOfChoice h1
    have hg : ∀ i y, ((List.range len).map F)[i]? = some y → i < len ∧ y = F i := fun i y hy => by
      have hi : i < len := by
        have := (List.getElem?_eq_some_iff.1 hy).1
        simpa using this
      refine ⟨hi, ?_⟩
      simp [hi] at hy
      exact hy.symm
    refine ⟨some a, len, cap, (List.range len).map F, rfl, by simp, ⟨some a, cap, by simp, by simpa using hl, ?_⟩, ?_⟩
    · by_cases h0 : len = 0
      · left; simp [h0]
      · right
        obtain ⟨b, off, spot⟩ := a
        have hcell : ∀ i j, i < len → j < k → w.cell? ((⟨b, off, spot⟩ : Addr).add (i * k + j)) = (encA (F i))[j]? := by
          intro i j hi hj
          obtain ⟨_, cs', h1, h2⟩ := hF i hi
          rw [h2] at h1
          have h3 := World.cells?_some h1
          rw [← add_add]
          exact h3.2.2 j hj
        have hsome : ∀ j, j < k → ∃ u, (encA (F 0))[j]? = some u := fun j hj => ⟨_, List.getElem?_eq_getElem (by rw [hk]; exact hj)⟩
        have hspot : spot = none := by
          obtain ⟨u, hu⟩ := hsome 0 hk0
          have := (hcell 0 0 (by omega) hk0).trans hu
          simpa [Addr.add] using World.cell?_spot this
        subst hspot
        have hcell' : ∀ i j, i < len → j < k → w.cell? ⟨b, off + i * k + j, none⟩ = (encA (F i))[j]? := by
          intro i j hi hj
          have := hcell i j hi hj
          rw [add_plain] at this
          rw [← this]
          congr 2
          omega
        refine ⟨b, off, rfl, ?_, fun i y hy q u hu => ?_⟩
        · obtain ⟨u, hu⟩ := hsome 0 hk0
          exact World.block_lt_of_cell? w _ ((hcell' 0 0 (by omega) hk0).trans hu)
        · obtain ⟨hi, rfl⟩ := hg i y hy
          have hq : q < k := by
            have := (List.getElem?_eq_some_iff.1 hu).1
            rwa [hk] at this
          exact (hcell' i q hi hq).trans hu
    · intro y hy
      rw [List.mem_map] at hy
      obtain ⟨i, hi, rfl⟩ := hy
      exact (hF i (by simpa using hi)).1
end
end Go.Proofs.YtnnghcooidjlhaaGreat
end
section
set_option linter.unusedSimpArgs false
set_option linter.unusedVariables false
set_option maxRecDepth 100000
namespace Go.Proofs.YtnnghcooidjlhaaGreat
open Go.RowKit Go.Lib
structure Byr (B : Nat) (w : World) (v : Value) (l : Bs) : Prop where
  form : ∃ g c, v = .slice (some ⟨g, 0, none⟩) l.length c ∧ B ≤ g ∧ g < w.heap.size ∧ l.length ≤ c ∧ (∀ j u, (cB l)[j]? = some u → w.cell? ⟨g, j, none⟩ = some u) ∧ (∀ j, j < c → (w.cell? ⟨g, j, none⟩).isSome = true ∧ w.frozen? ⟨g, j, none⟩ = false)
theorem cB_len (l : Bs) : (cB l).length = l.length := by simp [cB]
theorem Byr.below {B : Nat} {w w' : World} {v : Value} {l : Bs} (h : Byr B w v l) (hb : Below w.heap.size w w') : Byr B w' v l := by
  obtain ⟨g, c, e, h1, h2, h3, h4, h5⟩ := h.form
  refine ⟨g, c, e, h1, Nat.lt_of_lt_of_le h2 hb.size, h3, fun j u hu => (World.cell?_of_block (a := ⟨g, j, none⟩) (hb.block g h2)).trans (h4 j u hu), fun j hj => ?_⟩
  rw [World.cell?_of_block (a := ⟨g, j, none⟩) (hb.block g h2), World.frozen?_of_block (a := ⟨g, j, none⟩) (hb.block g h2)]
  exact h5 j hj
theorem Byr.string {B : Nat} {w : World} {v : Value} {l : Bs} (h : Byr B w v l) : (convert 129 9 v).run Tryz.prog w = .ok (.string (S l)) w := by
  obtain ⟨g, c, rfl, _, _, _, h4, _⟩ := h.form
  exact cells_string l (fun j u hu => by rw [Addr.add_mid, Nat.zero_add]; exact h4 j u hu) rfl
theorem byr_of (w : World) (l : Bs) : ∃ v W, (convert 9 129 (.string (S l))).run Tryz.prog w = .ok v W ∧ Byr w.heap.size W v l ∧ Below w.heap.size w W := by
  have h := Go.Lib.run_convert_string_bytes (P := Tryz.prog) w 9 129 5 (S l) Tryz.underlying9 Tryz.underlying129 Tryz.underlying5
  have hsz : (bytesCells w 5 (S l)).size = grownCap w (S l).size 0 5 := by
    unfold bytesCells
    have := grownCap_ge w (S l).size 0 5
    have h1 : (S l).data.size = (S l).size := rfl
    rw [Array.size_append, Array.size_map, Array.size_replicate, h1]
    omega
  have hge := grownCap_ge w (S l).size 0 5
  rw [S_size] at h hge hsz
  refine ⟨_, _, h, ⟨_, _, rfl, Nat.le_refl _, by rw [bytesWorld_size]; omega, hge, fun j u hu => ?_, fun j hj => ⟨?_, ?_⟩⟩, Go.Joins.below_bytesWorld _ _ _ _ (Nat.le_refl _)⟩
  · have hj : j < l.length := by have := (List.getElem?_eq_some_iff.1 hu).1; rwa [cB_len] at this
    rw [bytesWorld_cell w 5 (S l) j (by rw [S_size]; exact hj), show (S l).data.toList = l by simp [S], ← hu]
    simp [cB, List.getD, hj]
  · unfold World.cell?
    simp only [bytesWorld_at_new]
    rw [Array.getElem?_eq_getElem (by rw [hsz]; exact hj)]
    rfl
  · unfold World.frozen?
    simp only [bytesWorld_at_new, Bool.and_eq_false_iff, decide_eq_false_iff_not]
    left
    rw [hsz]; omega
theorem run_app_byr {w : World} {B : Nat} {v : Value} {l : Bs} (x : Bs) (hv : Byr B w v l) (hB : B ≤ w.heap.size) (hl : l.length + x.length ≤ 1000000) (ty : TypeId) :
    ∃ v' w', (Builtin.append_ #[129, 9] ty #[v, .string (S x)]).run Tryz.prog w = .ok v' w' ∧ Byr B w' v' (l ++ x) ∧ Below B w w' := by
  obtain ⟨g, c, rfl, h1, h2, h3, h4, h5⟩ := hv.form
  obtain ⟨i0, hi0, hz0, hz1, hz2⟩ := info_parts inf5
  have hsrc := Src.ofString (P := Tryz.prog) w (tx := 9) Tryz.underlying9 (S x)
  have hbc : byteCells (S x) = cB x := by unfold byteCells cB; simp [S]
  rw [hbc, S_size] at hsrc
  by_cases hroom : l.length + x.length ≤ c
  · have hr := run_append_room_src (P := Tryz.prog) w 129 9 ty 5 i0 Tryz.underlying129 hi0 g 0 l.length c (.string (S x)) x.length (cB x) (by rw [hz1]; exact hsrc) hroom
      (fun j hj => by rw [hz1]; exact (h5 _ (by rw [cB_len] at hj; omega)).1) (fun j hj => by rw [hz1]; exact (h5 _ (by rw [cB_len] at hj; omega)).2)
    rw [hz1, Nat.mul_one, Nat.zero_add] at hr
    have hsome : ∀ j, j < (cB x).length → (w.cell? ⟨g, l.length + j, none⟩).isSome = true := fun j hj => (h5 _ (by rw [cB_len] at hj; omega)).1
    refine ⟨_, _, hr, ⟨g, c, by rw [List.length_append], h1, ?_, by rw [List.length_append]; exact hroom, fun j u hu => ?_, fun j hj => ⟨?_, ?_⟩⟩, ?_⟩
    · exact Nat.lt_of_lt_of_le h2 (kp_setCells g (cB x) l.length w).size
    · have hcb : cB (l ++ x) = cB l ++ cB x := by simp [cB]
      rw [hcb] at hu
      by_cases hj : j < l.length
      · rw [World.cell?_setCells_out g (cB x) l.length w _ (fun _ _ => by simp; omega)]
        rw [List.getElem?_append_left (by rw [cB_len]; exact hj)] at hu
        exact h4 j u hu
      · rw [List.getElem?_append_right (by rw [cB_len]; omega), cB_len] at hu
        have hlt := (List.getElem?_eq_some_iff.1 hu).1
        have := World.cell?_setCells_in g (cB x) l.length w hsome (j - l.length) hlt
        rw [show l.length + (j - l.length) = j by omega] at this
        rw [this, ← hu, List.getElem?_eq_getElem hlt]
    · by_cases hin : l.length ≤ j ∧ j < l.length + (cB x).length
      · have := World.cell?_setCells_in g (cB x) l.length w hsome (j - l.length) (by omega)
        rw [show l.length + (j - l.length) = j by omega] at this
        rw [this]; rfl
      · rw [cB_len] at hin
        rw [World.cell?_setCells_out g (cB x) l.length w _ (fun _ _ => by rw [cB_len]; show j < l.length ∨ l.length + x.length ≤ j; omega)]
        exact (h5 j hj).1
    · rw [World.frozen?_setCells]; exact (h5 j hj).2
    · exact (kp_setCells g (cB x) l.length w).to_below hB (fun b hb => by rw [List.mem_singleton.1 hb]; exact h1)
  · have hold : (Builtin.firstCells i0.size l.length (.slice (some ⟨g, 0, none⟩) l.length c)).run Tryz.prog w.drew = .ok (cB l).toArray w.drew := by
      rw [hz1]
      exact run_firstCells_some w.drew 1 l.length ⟨g, 0, none⟩ l.length c (cB l) (by rw [cB_len, Nat.mul_one]) (fun j u hu => by rw [Addr.add_mid, Nat.zero_add]; exact h4 j u hu)
    have hr := run_append_grow_src (P := Tryz.prog) w 129 9 ty 5 i0 _ Tryz.underlying129 hi0 hz0 (some ⟨g, 0, none⟩) l.length c (cB l) hold (.string (S x)) x.length (cB x) (by rw [hz1]; exact hsrc) (by omega) (by omega)
      (growslice_fits (by omega) (by rw [hz2]; omega))
    have hge := grownCap_ge w (l.length + x.length) c 5
    refine ⟨_, _, hr, ⟨w.heap.size, _, by rw [List.length_append], hB, by simp, by rw [List.length_append]; exact hge, fun j u hu => ?_, fun j hj => ⟨?_, World.frozen?_alloc_new w.drew _ _ j⟩⟩, ?_⟩
    · have e1 := World.cell?_alloc_new w.drew (((cB l ++ cB x).toArray ++ Builtin.zeroCells (Value.int .u8 0).cells (grownCap w (l.length + x.length) c 5 - (l.length + x.length)))) 5 j
      have hcb : cB (l ++ x) = cB l ++ cB x := by simp [cB]
      rw [hcb] at hu
      refine e1.trans ?_
      rw [Array.getElem?_append_left (by simpa using (List.getElem?_eq_some_iff.1 hu).1), List.getElem?_toArray]
      exact hu
    · have e1 := World.cell?_alloc_new w.drew (((cB l ++ cB x).toArray ++ Builtin.zeroCells (Value.int .u8 0).cells (grownCap w (l.length + x.length) c 5 - (l.length + x.length)))) 5 j
      have e2 : (w.drew.alloc (.cells (((cB l ++ cB x).toArray ++ Builtin.zeroCells (Value.int .u8 0).cells (grownCap w (l.length + x.length) c 5 - (l.length + x.length)))) 5)).cell? ⟨w.heap.size, j, none⟩ = _ := e1
      rw [e2, Array.getElem?_eq_getElem (by
        rw [Array.size_append, size_zeroCells]
        simp [cB, Value.cells]
        omega)]
      rfl
    · exact (below_drewN (Below.refl B w) 1).alloc hB _
end Go.Proofs.YtnnghcooidjlhaaGreat
end
section
set_option linter.unusedSimpArgs false
set_option linter.unusedVariables false
namespace Go.Proofs.YtnnghcooidjlhaaGreat
structure Sn where
  k : Bs
  st : Sta
def Sta.ok (s : Sta) : Prop := ∀ x ∈ s.words, -9223372036854775808 ≤ x ∧ x < 9223372036854775808
def snP (l : List Sn) : List KV := l.map fun x => (x.k, staB x.st)
structure SnM (M : List KV) (lp : Int) (l : List Sn) : Prop where
  part : partM M (hdP 3 lp) = snP l
  ok : ∀ x ∈ l, x.k.length ≤ 29 ∧ x.st.right ∧ x.st.ok
def setS (l : List Sn) (x : Sn) : List Sn := l.filter (fun y => decide (y.k < x.k)) ++ x :: l.filter (fun y => decide (x.k < y.k))
def belowS (l : List Sn) (k : Bs) : List Sn := l.filter fun y => decide (y.k < k)
def fromS (l : List Sn) (k : Bs) : List Sn := l.filter fun y => !decide (y.k < k)
theorem snP_set (l : List Sn) (x : Sn) : snP (setS l x) = setM (snP l) x.k (staB x.st) := by
  unfold snP setS setM
  rw [List.map_append, List.map_cons, List.filter_map, List.filter_map]
  rfl
theorem mem_setS {l : List Sn} {x y : Sn} (h : y ∈ setS l x) : y = x ∨ y ∈ l := by
  unfold setS at h
  rcases List.mem_append.1 h with h | h
  · exact .inr ((List.mem_filter.1 h).1)
  · rcases List.mem_cons.1 h with h | h
    · exact .inl h
    · exact .inr ((List.mem_filter.1 h).1)
theorem setS_length (l : List Sn) (x : Sn) : (setS l x).length ≤ l.length + 1 := by
  unfold setS
  rw [List.length_append, List.length_cons]
  have : ∀ l : List Sn, (l.filter (fun y => decide (y.k < x.k))).length + (l.filter (fun y => decide (x.k < y.k))).length ≤ l.length := fun l => by
    induction l with
    | nil => simp
    | cons y t ih =>
      rw [List.filter_cons, List.filter_cons]
      by_cases h1 : y.k < x.k
      · have h2 : ¬ x.k < y.k := blt_asymm h1
        simp only [h1, h2, decide_true, decide_false, if_true, List.length_cons, Bool.false_eq_true, if_false]
        omega
      · by_cases h2 : x.k < y.k
        · simp only [h1, h2, decide_true, decide_false, if_true, List.length_cons, Bool.false_eq_true, if_false]
          omega
        · simp only [h1, h2, decide_false, List.length_cons, Bool.false_eq_true, if_false]
          omega
  have := this l
  omega
section
variable {M : List KV} {lp : Int} {l : List Sn}
theorem SnM.nil (lp : Int) : SnM [] lp [] := ⟨rfl, by simp⟩
theorem SnM.asc (h : SnM M lp l) (hM : AscM M) : l.Pairwise fun a b => a.k < b.k := by
  have := partM_asc hM (hdP 3 lp)
  rw [h.part] at this
  unfold AscM snP at this
  rw [List.pairwise_map] at this
  exact this
theorem SnM.set (h : SnM M lp l) (hM : AscM M) {x : Sn} (hx : x.k.length ≤ 29 ∧ x.st.right ∧ x.st.ok) : SnM (setM M (hdP 3 lp ++ x.k) (staB x.st)) lp (setS l x) := by
  refine ⟨by rw [setM_part (hdP_len 3 lp) hM, h.part, snP_set], fun y hy => ?_⟩
  rcases mem_setS hy with rfl | hy
  · exact hx
  · exact h.ok y hy
theorem SnM.other {q : Bs} (h : SnM M lp l) (hM : AscM M) (hq : q.length = 2) (hn : hdP 3 lp ≠ q) (k v : Bs) : SnM (setM M (q ++ k) v) lp l :=
  ⟨by rw [setM_other hq hM (hdP_len 3 lp) hn, h.part], h.ok⟩
theorem hdP_small {lp : Int} (h : 0 ≤ lp ∧ lp < 6) : ∃ y : UInt8, hdP 3 lp = [68, y] ∧ y.toNat < 255 := by
  refine ⟨UInt8.ofNat lp.toNat, rfl, ?_⟩
  simp
  omega
theorem part_len (h : SnM M lp l) (p : Bs → Bool) : ((partM M (hdP 3 lp)).filter fun a => p a.1).length = (l.filter fun y => p y.k).length := by
  rw [h.part]
  unfold snP
  rw [List.filter_map, List.length_map]
  rfl
theorem inR_from (k x : Bs) : inR k [] x = !decide (x < k) := by
  unfold inR
  by_cases h : x < k <;> simp [h]
theorem inR_below {k : Bs} (hk : k ≠ []) (x : Bs) : inR [] k x = decide (x < k) := by
  unfold inR
  by_cases h : x < k <;> simp [h, hk]
theorem SnM.clear (h : SnM M lp l) (hlp : 0 ≤ lp ∧ lp < 6) (fr to : Bs) : SnM (M.filter fun a => !inR (hdP 3 lp ++ fr) (toK (hdP 3 lp) to) a.1) lp (l.filter fun y => !inR fr to y.k) := by
  obtain ⟨y, e, hy⟩ := hdP_small hlp
  refine ⟨?_, fun x hx => h.ok x (List.mem_filter.1 hx).1⟩
  rw [e, clear_part hy, ← e, h.part]
  unfold snP
  rw [List.filter_map]
  rfl
theorem SnM.clear_far {lp' : Int} (h : SnM M lp l) (hlp : 0 ≤ lp' ∧ lp' < 6) (hn : hdP 3 lp ≠ hdP 3 lp') (fr to : Bs) : SnM (M.filter fun a => !inR (hdP 3 lp' ++ fr) (toK (hdP 3 lp') to) a.1) lp l := by
  obtain ⟨y, e, hy⟩ := hdP_small hlp
  refine ⟨?_, h.ok⟩
  rw [e] at hn ⊢
  have := clear_other (M := M) hy hn fr to
  rw [this, h.part]
theorem filter_from (l : List Sn) (k : Bs) : (l.filter fun y => !inR k [] y.k) = belowS l k := by
  unfold belowS
  congr 1
  funext y
  rw [inR_from]; simp
theorem filter_from' (l : List Sn) (k : Bs) : (l.filter fun y => inR k [] y.k) = fromS l k := by
  unfold fromS
  congr 1
  funext y
  rw [inR_from]
theorem filter_below (l : List Sn) {k : Bs} (hk : k ≠ []) : (l.filter fun y => !inR [] k y.k) = fromS l k := by
  unfold fromS
  congr 1
  funext y
  rw [inR_below hk]
theorem filter_below' (l : List Sn) {k : Bs} (hk : k ≠ []) : (l.filter fun y => inR [] k y.k) = belowS l k := by
  unfold belowS
  congr 1
  funext y
  rw [inR_below hk]
theorem SnM.last (h : SnM M lp l) {k : Bs} (hk : k ≠ []) : lastP (partM M (hdP 3 lp)) [] k = ((belowS l k).getLast?).map fun x => (x.k, staB x.st) := by
  unfold lastP
  rw [h.part, ← filter_below' l hk]
  unfold snP
  rw [List.filter_map, List.getLast?_map]
  rfl
theorem SnM.scan (h : SnM M lp l) (hl : l.length ≤ 1000) : scanM (partM M (hdP 3 lp)) [] [] 1099511627776 = snP l := by
  unfold scanM
  rw [h.part, List.filter_eq_self.2, List.take_of_length_le]
  · simp [snP]; omega
  · intro a _; simp [inR]
end
/-! the reference's Put, in its order -/
def putF (x : Sn) (s : Bool × List Sn) (y : Sn) : Bool × List Sn :=
  let s1 := if s.1 = false ∧ ¬ y.k < x.k then (true, s.2 ++ [x]) else s
  if y.k = x.k then s1 else (s1.1, s1.2 ++ [y])
def putE (x : Sn) (s : Bool × List Sn) : List Sn := if s.1 = true then s.2 else s.2 ++ [x]
theorem foldl_true (x : Sn) : ∀ (l acc : List Sn), l.foldl (putF x) (true, acc) = (true, acc ++ l.filter fun y => decide (y.k ≠ x.k))
  | [], acc => by simp
  | y :: t, acc => by
    rw [List.foldl_cons]
    by_cases h : y.k = x.k
    · rw [show putF x (true, acc) y = (true, acc) by simp [putF, h], foldl_true x t, List.filter_cons_of_neg (by simp [h])]
    · rw [show putF x (true, acc) y = (true, acc ++ [y]) by simp [putF, h], foldl_true x t, List.filter_cons_of_pos (by simp [h])]
      simp
theorem putE_fold (x : Sn) : ∀ (l acc : List Sn), (l.Pairwise fun a b => a.k < b.k) → putE x (l.foldl (putF x) (false, acc)) = acc ++ setS l x
  | [], acc, _ => by simp [putE, setS]
  | y :: t, acc, h => by
    rw [List.pairwise_cons] at h
    rw [List.foldl_cons]
    by_cases h1 : y.k < x.k
    · have hne : y.k ≠ x.k := fun e => by rw [e] at h1; exact blt_irrefl _ h1
      rw [show putF x (false, acc) y = (false, acc ++ [y]) by simp [putF, h1, hne], putE_fold x t _ h.2]
      unfold setS
      rw [List.filter_cons_of_pos (by simpa using h1), List.filter_cons_of_neg (by simpa using blt_asymm h1)]
      simp
    · have ht : ∀ z ∈ t, x.k < z.k := fun z hz => by
        have := h.1 z hz
        rcases blt_tri x.k y.k with h2 | h2 | h2
        · exact blt_trans h2 this
        · rw [h2]; exact this
        · exact absurd h2 h1
      have f1 : t.filter (fun z => decide (z.k < x.k)) = [] := List.filter_eq_nil_iff.2 (fun z hz => by simpa using blt_asymm (ht z hz))
      have f2 : t.filter (fun z => decide (x.k < z.k)) = t := List.filter_eq_self.2 (fun z hz => by simpa using ht z hz)
      have f3 : t.filter (fun z => decide (z.k ≠ x.k)) = t := List.filter_eq_self.2 (fun z hz => by
        have := ht z hz
        simp only [ne_eq, decide_not, Bool.not_eq_true', decide_eq_false_iff_not]
        intro e
        rw [e] at this
        exact blt_irrefl _ this)
      unfold setS
      rw [List.filter_cons_of_neg (by simpa using h1), f1]
      by_cases h2 : y.k = x.k
      · rw [show putF x (false, acc) y = (true, acc ++ [x]) by simp [putF, h1, h2, blt_irrefl], foldl_true, f3]
        rw [List.filter_cons_of_neg (by rw [h2]; simp [blt_irrefl]), f2]
        simp [putE]
      · have h3 : x.k < y.k := by
          rcases blt_tri x.k y.k with h3 | h3 | h3
          · exact h3
          · exact absurd h3.symm h2
          · exact absurd h3 h1
        rw [show putF x (false, acc) y = (true, acc ++ [x] ++ [y]) by simp [putF, h1, h2], foldl_true, f3]
        rw [List.filter_cons_of_pos (by simpa using h3), f2]
        simp [putE]
end Go.Proofs.YtnnghcooidjlhaaGreat
end
section
set_option linter.unusedSimpArgs false
set_option linter.unusedVariables false
set_option maxRecDepth 100000
namespace Go.Proofs.YtnnghcooidjlhaaGreat
open Go.RowKit Go.Lib
theorem wpL_appByr {w : World} {ops : Array Oper} {rest : List Oper} {o : Oper} {a : Act} {Q : Exit → Act → World → Prop} (hgd : o.guard = none) (s x : Operand)
    (ho : o.op = .call { callee := .builtin .append, args := #[s, x], argTypes := #[129, 9] }) {B : Nat} {v : Value} {l y : Bs} (hv : Byr B w v l) (hB : B ≤ w.heap.size) (hl : l.length + y.length ≤ 1000000)
    (hs : a.eval s = v) (hx : a.eval x = .string (S y)) (h : ∀ v' w', Byr B w' v' (l ++ y) → Below B w w' → wpList Tryz.prog ops Q rest (a.put o.dst v') w') : wpList Tryz.prog ops Q (o :: rest) a w := by
  refine wpList_plain hgd fun K hK => ?_
  obtain ⟨v', w', hr, h2, h3⟩ := run_app_byr y hv hB hl o.type
  unfold Oper.wp execOp
  simp only [ho, resolve, invoke, builtin, Sem.run_bind, Sem.run_pure, Result.andThen_ok, List.map_toArray, List.map_cons, List.map_nil, hs, hx, hr]
  exact hK _ _ (h v' w' h2 h3)
theorem Byr.slice {B : Nat} {w : World} {v : Value} {l : Bs} (h : Byr B w v l) : ∃ p n c, v = .slice p n c := by
  obtain ⟨g, c, e, _⟩ := h.form
  exact ⟨_, _, _, e⟩
theorem count_yes (n : Int) (h : 0 ≤ n ∧ n ≤ 1099511627776) (w : World) : Calls Tryz.prog 127 #[.int .i64 n] w fun e w' => e = .returned (.bool true) ∧ w = w' := by
  obtain ⟨h0, h1⟩ := h
  go_enter Tryz.func127, Tryz.ntmps127
  go_wp2
  go_ret
  exact ⟨by simp [h0, h1], rfl⟩
theorem count_no (n : Int) (h : ¬ (0 ≤ n ∧ n ≤ 1099511627776)) (w : World) : Calls Tryz.prog 127 #[.int .i64 n] w fun e w' => e = .returned (.bool false) ∧ w = w' := by
  by_cases h0 : 0 ≤ n
  · have h1 : ¬ n ≤ 1099511627776 := fun h1 => h ⟨h0, h1⟩
    clear h
    go_enter Tryz.func127, Tryz.ntmps127
    go_wp2
    go_ret
    exact ⟨by simp [h0, h1], rfl⟩
  · clear h
    go_enter Tryz.func127, Tryz.ntmps127
    go_wp2
    go_ret
    exact ⟨by simp [h0], rfl⟩
def wC (z : Int) : List Value := [.int .i64 z]
theorem wC_len (z : Int) : (wC z).length = 1 := rfl
def staV (p : Option Addr) (n c : Nat) (s : Sta) : Value := .agg #[.slice p n c, .int .i64 s.sent, .int .i64 s.dice]
set_option maxHeartbeats 4000000 in
theorem putsta_no (p : Option Addr) (n c : Nat) (s : Sta) (hn : n = s.words.length) (h : ¬ s.right) (w : World) :
    Calls Tryz.prog 79 #[staV p n c s] w fun r w' => r = .returned (.tuple #[.string ⟨#[]⟩, .int .i64 2]) ∧ Below w.heap.size w w' := by
  unfold staV
  have HB := hid ((Below.refl _ w).alloc (Nat.le_refl _) (.cells #[.slice p n c, .int .i64 s.sent, .int .i64 s.dice] 29))
  have hcase : (8 < n) ∨ (¬ 8 < n ∧ ¬ (0 ≤ s.sent ∧ s.sent ≤ 1099511627776)) ∨ (¬ 8 < n ∧ (0 ≤ s.sent ∧ s.sent ≤ 1099511627776) ∧ ¬ (0 ≤ s.dice ∧ s.dice ≤ 1099511627776)) := by
    unfold Sta.right at h
    omega
  clear h hn
  rcases hcase with h0 | ⟨h0, h1⟩ | ⟨h0, h1, h2⟩
  · have h0i : (8 : Int) < (n : Int) := by omega
    go_enter Tryz.func79, Tryz.ntmps79
    go_wp2
    go_ret2
    exact ⟨rfl, HB.out⟩
  · have h0i : ¬ (8 : Int) < (n : Int) := by omega
    have HC := hid (fun W => count_no s.sent h1 W)
    clear h1
    go_enter Tryz.func79, Tryz.ntmps79
    go_wp2_with fail
    (with_reducible refine (HC.out _).mono ?_)
    rintro r w1 ⟨rfl, rfl⟩
    go_wp2
    go_ret2
    exact ⟨rfl, HB.out⟩
  · have h0i : ¬ (8 : Int) < (n : Int) := by omega
    have HC := hid (fun W => count_yes s.sent h1 W)
    have HD := hid (fun W => count_no s.dice h2 W)
    clear h1 h2
    go_enter Tryz.func79, Tryz.ntmps79
    go_wp2_with fail
    (with_reducible refine (HC.out _).mono ?_)
    rintro r w1 ⟨rfl, rfl⟩
    go_wp2_with fail
    (with_reducible refine (HD.out _).mono ?_)
    rintro r w1 ⟨rfl, rfl⟩
    go_wp2
    go_ret2
    exact ⟨rfl, HB.out⟩
set_option maxHeartbeats 8000000 in
theorem putsta_any {w : World} {p : Option Addr} {n c : Nat} {s : Sta} (hv : Vw 1 wC w (.slice p n c) s.words) (hn : n = s.words.length) (h : s.right) (ho : s.ok) :
    Calls Tryz.prog 79 #[staV p n c s] w fun r w' => r = .returned (.tuple #[.string (S (staB s)), .int .i64 0]) ∧ Below w.heap.size w w' := by
  unfold staV
  obtain ⟨h0, h1, h2, h3, h4⟩ := h
  obtain ⟨W1, hW1⟩ : ∃ W1, W1 = w.alloc (.cells #[.slice p n c, .int .i64 s.sent, .int .i64 s.dice] 29) := ⟨_, rfl⟩
  have hb1 : Below w.heap.size w W1 := by rw [hW1]; exact (Below.refl _ w).alloc (Nat.le_refl _) _
  have hB1 : Blk W1 w.heap.size 29 #[.slice p n c, .int .i64 s.sent, .int .i64 s.dice] := by rw [hW1]; exact Blk.new w _ _
  have hs1 : W1.heap.size = w.heap.size + 1 := by rw [hW1]; simp
  have HC := hid (count_yes s.sent ⟨h1, h2⟩ W1)
  have HD := hid (count_yes s.dice ⟨h3, h4⟩ W1)
  have HONE := hid (one_any (n : Int) (by omega) W1)
  rw [hW1] at HC HD HONE
  have hn8 : ¬ (8 : Int) < (n : Int) := by omega
  have hn8' : (n : Int) ≤ 8 := by omega
  have HX := hid (⟨hb1, hB1, hv, hn, ho, hs1⟩ : _ ∧ _ ∧ _ ∧ _ ∧ _ ∧ _)
  have HW1 := hid hW1
  have HP := hid (fun (z : Int) (hz : -9223372036854775808 ≤ z ∧ z < 9223372036854775808) W => packI_any z W hz.1 hz.2)
  clear hv hn h0 ho hb1 hB1 hW1 hs1
  go_enter Tryz.func79, Tryz.ntmps79
  go_wp2_with fail
  (with_reducible refine HC.out.mono ?_)
  rintro r w1 ⟨rfl, rfl⟩
  go_wp2_with fail
  (with_reducible refine HD.out.mono ?_)
  rintro r w1 ⟨rfl, rfl⟩
  go_wp2_with fail
  (with_reducible refine HONE.out.mono ?_)
  rintro r W2 ⟨rfl, hb2⟩
  rw [← HW1.out] at hb2
  obtain ⟨v3, W3, hcv, hby, hb3⟩ := byr_of W2 (oneB n)
  obtain ⟨p3, n3, c3, rfl⟩ := hby.slice
  have hb13 := hb2.trans (hb3.mono hb2.size)
  have hB3 := HX.out.2.1.below hb13 HX.out.2.1.lt
  have d0 : W3.cell? ⟨w.heap.size, 0, none⟩ = some (.slice p n c) := hB3.cell 0
  have H3 := hid (⟨hby, hb13, hb2.size⟩ : _ ∧ _ ∧ _)
  clear hby hb2 hb3 hb13 hB3
  go_wp2
  obtain ⟨B, hBd⟩ : ∃ B, B = W2.heap.size := ⟨_, rfl⟩
  rw [← hBd] at H3
  clear hBd
  have HI0 : Hid (Byr B W3 (.slice p3 n3 c3) (oneB n ++ wordsB (s.words.take 0)) ∧ Below W1.heap.size W1 W3 ∧ B ≤ W3.heap.size) := hid ⟨by simpa [wordsB] using H3.out.1, H3.out.2.1, by obtain ⟨g, c, _, g1, g2, _⟩ := H3.out.1.form; omega⟩
  go_loopg [4, 31] n (fun gg s4 s31 wr => ∃ (j : Nat) (p' : Option Addr) (n' c' : Nat), j ≤ n ∧ n - j ≤ gg ∧ s31 = .int .i64 j ∧ s4 = .slice p' n' c' ∧ Hid (Byr B wr (.slice p' n' c') (oneB n ++ wordsB (s.words.take j)) ∧ Below W1.heap.size W1 wr ∧ B ≤ wr.heap.size))
  case atStart => exact ⟨0, _, _, _, by omega, by omega, rfl, rfl, HI0⟩
  case round =>
    obtain ⟨j, p', n', c', hj, hgg, rfl, rfl, HI⟩ := hrel
    by_cases hjn : j < n
    · obtain ⟨z, hz⟩ : ∃ z, s.words[j]? = some z := ⟨_, List.getElem?_eq_getElem (by rw [← HX.out.2.2.2.1]; exact hjn)⟩
      obtain ⟨b, off, cc, e, _, hbl, hcx⟩ := HX.out.2.2.1.ex (by intro h0; rw [h0] at hz; simp at hz)
      injection e with e1 e2 e3
      subst e1
      clear e2 e3
      have hbw : Below w.heap.size w wr := HX.out.1.trans (HI.out.2.1.mono HX.out.1.size)
      have m0 : wr.cell? ⟨b, off + j, none⟩ = some (.int .i64 z) := by
        have := hcx j z hz 0 _ rfl
        rw [Nat.mul_one, Nat.add_zero] at this
        exact (World.cell?_of_block (hbw.block b hbl)).trans this
      have HPZ := hid (HP.out z (HX.out.2.2.2.2.1 z (List.mem_of_getElem? hz)))
      have hst : oneB n ++ wordsB (s.words.take (j + 1)) = (oneB n ++ wordsB (s.words.take j)) ++ encI z := by
        rw [List.take_add_one, hz, Option.toList_some]
        simp [wordsB]
      have HST := hid hst
      have hji : (j : Int) < (n : Int) := by omega
      clear hz hbl hcx hbw hst
      go_wp2_with fail
      (with_reducible refine (HPZ.out _).mono ?_)
      rintro r W4 ⟨rfl, hb4⟩
      have hby4 := HI.out.1.below hb4
      have H4 := hid (⟨HI.out.2.1.trans (hb4.mono HI.out.2.1.size), Nat.le_trans HI.out.2.2 hb4.size⟩ : _ ∧ _)
      clear hb4
      go_wp2_with (with_reducible refine stopAt .append rfl ?_)
      with_reducible refine goOn ?_
      refine wpL_appByr rfl _ _ rfl hby4 H4.out.2 (by simp; have := HX.out.2.2.2.1; have := List.length_take_le j s.words; omega) rfl rfl ?_
      intro v5 W5 hby5 hb5
      rw [← HST.out] at hby5
      obtain ⟨p5, n5, c5, rfl⟩ := hby5.slice
      have HI5 : Hid (Byr B W5 (.slice p5 n5 c5) (oneB n ++ wordsB (s.words.take (j + 1))) ∧ Below W1.heap.size W1 W5 ∧ B ≤ W5.heap.size) := hid ⟨hby5, H4.out.1.trans (hb5.mono (by have := H3.out.2.2; omega)), Nat.le_trans H4.out.2 hb5.size⟩
      clear hby4 hby5 hb5
      go_wp2
      go_roundg (n - (j + 1))
      case measure => omega
      case rel => exact ⟨j + 1, p5, n5, c5, by omega, by omega, by go_num, rfl, HI5⟩
    · have hji : ¬ (j : Int) < (n : Int) := by omega
      have hjn' : j = n := by omega
      obtain ⟨L, hL⟩ : ∃ L, L = oneB n ++ wordsB s.words := ⟨_, rfl⟩
      have hby : Byr B wr (.slice p' n' c') L := by
        have := HI.out.1
        rwa [hjn', HX.out.2.2.2.1, List.take_length, ← HX.out.2.2.2.1, ← hL] at this
      have hLl : L.length ≤ 100 := by rw [hL]; simp; have := HX.out.2.2.2.1; omega
      have hst : staB s = L ++ encI s.sent ++ encI s.dice := by rw [hL]; unfold staB; rw [HX.out.2.2.2.1]
      have HST := hid hst
      have hB := HX.out.2.1.below HI.out.2.1 HX.out.2.1.lt
      have HCL : Hid (∀ W, BelC wr W → W.cell? ⟨w.heap.size, 1, none⟩ = some (.int .i64 s.sent) ∧ W.cell? ⟨w.heap.size, 2, none⟩ = some (.int .i64 s.dice) ∧ (convert 129 9 (.slice p' n' c')).run Tryz.prog W = .ok (.string (S L)) W) := hid fun W hW => by
        have h1 := hW.blk hB
        exact ⟨h1.cell 1, h1.cell 2, (hby.below hW.out).string⟩
      have H1 := hid (BelC.call (W1 := wr) (HP.out s.sent (by omega)))
      have H2 := hid (BelC.call (W1 := wr) (HP.out s.dice (by omega)))
      have HF : Hid (∀ W, BelC wr W → Below w.heap.size w W) := hid fun W hW => HX.out.1.trans ((HI.out.2.1.trans (hW.out.mono HI.out.2.1.size)).mono HX.out.1.size)
      have hc1 : ¬ 9223372036854775807 < L.length + 8 := by omega
      have hc2 : ¬ 9223372036854775807 < L.length + 8 + 8 := by omega
      have hc3 : ¬ 9223372036854775807 < L.length + 16 := by omega
      clear hjn' hL hby hLl hst hB
      go_wp2
      refine qC_region (by kernel_rfl) (by kernel_rfl) (BelC wr) (BelC.drew wr) ?_
      repeat (first | (refine qC_none rfl (fun K hK => ?_); apply Exists.intro; refine ⟨fun w0 hw0 => ?_, ?_⟩; (focus (obtain ⟨q0, q1, q2⟩ := HCL.out w0 hw0; go_simp; first | exact rfl | exact ⟨rfl, rfl⟩ | (first | exact H1.out w0 hw0 | exact H2.out w0 hw0))); go_simp; refine hK _ ?_; clear hK K) | (refine qC_yes _ _ _ rfl rfl (by rfl) (fun K hK => ?_); apply Exists.intro; refine ⟨fun w0 hw0 => ?_, ?_⟩; (focus (obtain ⟨q0, q1, q2⟩ := HCL.out w0 hw0; go_simp; first | exact rfl | exact ⟨rfl, rfl⟩ | (first | exact H1.out w0 hw0 | exact H2.out w0 hw0))); go_simp; refine hK _ ?_; clear hK K) | (refine qC_no _ _ _ rfl rfl (by rfl) (fun K hK => ?_); go_simp; refine hK _ ?_; clear hK K) | (refine qC_undef _ _ _ rfl rfl (by rfl) (fun K hK => ?_); go_simp; refine hK _ ?_; clear hK K))
      refine qC_nil ?_
      intro w5 hw5
      have HW5 := hid (HF.out w5 hw5)
      clear hw5
      go_wp2
      go_ret2
      exact ⟨by rw [HST.out, List.append_assoc]; rfl, HW5.out⟩
end Go.Proofs.YtnnghcooidjlhaaGreat
end
