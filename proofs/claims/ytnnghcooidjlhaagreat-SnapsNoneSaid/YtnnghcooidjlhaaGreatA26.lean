/- Parts of the proof: Ve Or Vf Vg Vp Vi Vh Vk. -/
import Derived.Deep.AppendSrc
import Derived.Deep.RegionLaw
import Derived.Deep.RegionHeld3
import Derived.Test.YtnnghcooidjlhaaGreatA24
import Derived.Test.YtnnghcooidjlhaaGreatA25
set_option linter.all false
section
set_option linter.unusedSimpArgs false
set_option linter.unusedVariables false
set_option maxRecDepth 100000
namespace Go.Proofs.YtnnghcooidjlhaaGreat
open Go.RowKit Go.Lib
section
variable {α : Type} {k : Nat} {enc : α → List Value} {w w' : World} {v : Value} {l : List α}
structure Vw (k : Nat) (enc : α → List Value) (w : World) (v : Value) (l : List α) : Prop where
  form : ∃ p c, v = .slice p l.length c ∧ l.length ≤ c ∧ (l = [] ∨ ∃ b off, p = some ⟨b, off, none⟩ ∧ b < w.heap.size ∧ ∀ i x, l[i]? = some x → ∀ q u, (enc x)[q]? = some u → w.cell? ⟨b, off + i * k + q, none⟩ = some u)
theorem Vw.of_block (h : Vw k enc w v l) (e : ∀ b, b < w.heap.size → v.ownBlock = some b → w'.heap[b]? = w.heap[b]?) (hs : w.heap.size ≤ w'.heap.size) : Vw k enc w' v l := by
  obtain ⟨p, c, rfl, hc, g⟩ := h.form
  refine ⟨p, c, rfl, hc, ?_⟩
  rcases g with g | ⟨b, off, rfl, hb, hx⟩
  · exact .inl g
  · exact .inr ⟨b, off, rfl, Nat.lt_of_lt_of_le hb hs, fun i x hi q u hu => (World.cell?_of_block (e b hb rfl)).trans (hx i x hi q u hu)⟩
theorem Vw.below (h : Vw k enc w v l) (hb : Below w.heap.size w w') : Vw k enc w' v l := h.of_block (fun b hlt _ => hb.block b hlt) hb.size
theorem Vw.nil (k : Nat) (enc : α → List Value) (w : World) (p : Option Addr) (c : Nat) : Vw k enc w (.slice p 0 c) [] := ⟨p, c, rfl, Nat.zero_le _, .inl rfl⟩
theorem Vw.slice (h : Vw k enc w v l) : ∃ p c, v = .slice p l.length c ∧ l.length ≤ c := by
  obtain ⟨p, c, h1, h2, _⟩ := h.form
  exact ⟨p, c, h1, h2⟩
theorem Vw.ex (h : Vw k enc w v l) (hn : l ≠ []) : ∃ b off c, v = .slice (some ⟨b, off, none⟩) l.length c ∧ l.length ≤ c ∧ b < w.heap.size ∧ ∀ i x, l[i]? = some x → ∀ q u, (enc x)[q]? = some u → w.cell? ⟨b, off + i * k + q, none⟩ = some u := by
  obtain ⟨p, c, h1, h2, g⟩ := h.form
  obtain ⟨b, off, rfl, g1, g2⟩ := g.resolve_left hn
  exact ⟨b, off, c, h1, h2, g1, g2⟩
theorem Vw.of_own {B n : Nat} {T : TypeId} (hk : ∀ x, (enc x).length = k) (h : w.ownsRow B T k v n (rowV enc l)) (hn : n = l.length) : Vw k enc w v l := by
  subst hn
  by_cases h0 : l = []
  · obtain ⟨p, c, rfl⟩ := own_slice2 h
    exact ⟨p, c, rfl, by rw [h0]; exact Nat.zero_le _, .inl h0⟩
  · obtain ⟨g, c, rfl, hg1, hg2, hg3⟩ := own_form h (List.length_pos_iff.2 h0)
    refine ⟨_, c, rfl, hg3, .inr ⟨g, 0, rfl, hg2, fun i x hx q u hu => ?_⟩⟩
    have hq : q < k := by
      have := (List.getElem?_eq_some_iff.1 hu).1
      rwa [hk] at this
    rw [Nat.zero_add]
    exact own_at h rfl (j := i * k + q) ((rowV_get hk l i x hx q hq).trans hu)
theorem Vw.ms {l : List Fl} (h : Vw 6 msgC w v l) : Ms w v l := by
  obtain ⟨p, c, h1, _, g⟩ := h.form
  exact ⟨p, c, h1, g⟩
theorem Vw.one {T : TypeId} {x : α} {b c : Nat} (h : Blk w b T (enc x).toArray) (hc : 1 ≤ c) : Vw k enc w (.slice (some ⟨b, 0, none⟩) 1 c) [x] := by
  refine ⟨_, c, rfl, hc, .inr ⟨b, 0, rfl, h.lt, fun i y hy q u hu => ?_⟩⟩
  rcases i with _ | i
  · simp at hy
    subst hy
    rw [Nat.zero_mul, Nat.add_zero, Nat.zero_add, h.cell]
    simpa using hu
  · simp at hy
theorem Vw.take {b off c : Nat} (h : Vw k enc w (.slice (some ⟨b, off, none⟩) l.length c) l) (i : Nat) (hi : i ≤ l.length) : Vw k enc w (.slice (some ⟨b, off, none⟩) i c) (l.take i) := by
  obtain ⟨p, c', e, hc, g⟩ := h.form
  injection e with e1 _ e3
  subst e1 e3
  refine ⟨_, c, by rw [List.length_take, Nat.min_eq_left hi], by rw [List.length_take]; omega, ?_⟩
  by_cases h0 : l = []
  · exact .inl (by rw [h0]; simp)
  · obtain ⟨b', off', e, hb, hx⟩ := g.resolve_left h0
    injection e with e
    injection e with e1 e2 _
    subst e1 e2
    refine .inr ⟨b, off, rfl, hb, fun j x hj q u hu => hx j x ?_ q u hu⟩
    rw [List.getElem?_take] at hj
    split at hj
    · exact hj
    · cases hj
theorem Vw.drop {b off c : Nat} (h : Vw k enc w (.slice (some ⟨b, off, none⟩) l.length c) l) (i : Nat) (hi : i ≤ l.length) : Vw k enc w (.slice (some ⟨b, off + i * k, none⟩) (l.length - i) (c - i)) (l.drop i) := by
  obtain ⟨p, c', e, hc, g⟩ := h.form
  injection e with e1 _ e3
  subst e1 e3
  refine ⟨_, c - i, by rw [List.length_drop], by rw [List.length_drop]; omega, ?_⟩
  by_cases h0 : l = []
  · exact .inl (by rw [h0]; simp)
  · obtain ⟨b', off', e, hb, hx⟩ := g.resolve_left h0
    injection e with e
    injection e with e1 e2 _
    subst e1 e2
    refine .inr ⟨b, off + i * k, rfl, hb, fun j x hj q u hu => ?_⟩
    rw [List.getElem?_drop] at hj
    rw [show off + i * k + j * k + q = off + (i + j) * k + q by rw [Nat.add_mul]; omega]
    exact hx (i + j) x hj q u hu
theorem Vw.cells (hk : ∀ x, (enc x).length = k) {b off c : Nat} (h : Vw k enc w (.slice (some ⟨b, off, none⟩) l.length c) l) : ∀ j u, (rowV enc l)[j]? = some u → w.cell? ⟨b, off + j, none⟩ = some u := by
  intro j u hj
  have hlt : j < (rowV enc l).length := (List.getElem?_eq_some_iff.1 hj).1
  rw [rowV_length hk] at hlt
  have hk0 : 0 < k := Nat.pos_of_ne_zero (by rintro rfl; simp at hlt)
  have hd := Nat.div_add_mod j k
  have hm := Nat.mod_lt j hk0
  have hjl : j / k < l.length := (Nat.div_lt_iff_lt_mul hk0).2 hlt
  obtain ⟨p, c', e, hc, g⟩ := h.form
  have h0 : l ≠ [] := by rintro rfl; simp at hjl
  obtain ⟨b', off', rfl, hb, hx⟩ := g.resolve_left h0
  injection e with e _ _
  injection e with e
  injection e with e1 e2 _
  subst e1 e2
  obtain ⟨x, hxx⟩ : ∃ x, l[j / k]? = some x := ⟨_, List.getElem?_eq_getElem hjl⟩
  have hr := rowV_get hk l (j / k) x hxx (j % k) hm
  rw [show j / k * k + j % k = j by rw [Nat.mul_comm]; exact hd] at hr
  have := hx (j / k) x hxx (j % k) u (by rw [← hr]; exact hj)
  rw [show off + j / k * k + j % k = off + j by rw [Nat.mul_comm]; omega] at this
  exact this
end
theorem run_app_all (t ty : TypeId) {α : Type} (enc : α → List Value) {e : TypeId} {z : Value} {size bytes : Nat} (hi : Inf e z size bytes) (ht : Tryz.prog.underlying t = some (.slice e))
    (hzs : z.cells.size = size) (hsz : 0 < size) (hby : bytes ≤ 1000) (hk : ∀ x, (enc x).length = size) (hone : ∀ x, ∀ u ∈ enc x, u.oneCell' = true) {B : Nat} {W : World} {v xv : Value} {l l2 : List α} {n : Nat} (hown : W.ownsRow B e size v n (rowV enc l)) (hv2 : Vw size enc W xv l2) (hn : n + l2.length ≤ 100000) (hB : B ≤ W.heap.size) :
    ∃ v' w', (Builtin.append_ #[t, t] ty #[v, xv]).run Tryz.prog W = .ok v' w' ∧ w'.ownsRow B e size v' (n + l2.length) (rowV enc (l ++ l2)) ∧ Kp v.ownBlock.toList W w' := by
  obtain ⟨i0, hi0, hz0, hz1, hz2⟩ := info_parts hi
  by_cases h0 : l2 = []
  · subst h0
    obtain ⟨p, c, rfl, hc⟩ := hv2.slice
    have hsrc : Src Tryz.prog i0.size t (.slice p 0 c) 0 [] W := by
      cases p with
      | none => exact Src.ofNil W ht c
      | some ad => exact Src.ofSlice W ht ad 0 c [] (by simp) (by simp) (by simp)
    have hvf : ∃ base sLen sCap, v = .slice base sLen sCap ∧ sLen ≤ sCap := by
      rcases hown.2 with ⟨rfl, _⟩ | ⟨g, cap, cur, rfl, _, _, hnc, _⟩
      · exact ⟨_, _, _, rfl, Nat.le_refl _⟩
      · exact ⟨_, _, _, rfl, hnc⟩
    obtain ⟨base, sLen, sCap, rfl, hle⟩ := hvf
    refine ⟨_, W, ?_, by simpa using hown, Kp.refl _ _⟩
    have hlen := hsrc.len
    have hcells := hsrc.cells
    rw [show ([] : List α).length = 0 from rfl]
    cases base <;> simp [Builtin.append_, run_underlying ht, sizeOf, typeInfo, hi0, hlen, hle, hcells, storeCells]
  · obtain ⟨b, off, c, rfl, hc, hb, hxx⟩ := hv2.ex h0
    obtain ⟨v', w', hr, h2, h3, _⟩ := run_append_own (P := Tryz.prog) W B t ty e i0 z size bytes ht hi0 hz0 hz1 hz2 hzs hsz v n _ hown ⟨b, off, none⟩ l2.length c (rowV enc l2) (rowV_length hk l2) (fun j u hj => by rw [Addr.add_lit]; exact hv2.cells hk j u hj) (rowV_one hone l2) (by unfold maxLen; omega)
      (by
        have : (n + l2.length) * bytes ≤ 100000 * 1000 := Nat.mul_le_mul (by omega) hby
        omega) hB
    exact ⟨v', w', hr, by rw [rowV_append]; exact h2, (Kp.refl _ W).grown h3 (fun g hg => .inl (Option.mem_toList.2 hg))⟩
section
variable {ops : Array Oper} {o : Oper} {a : Act} {Q : Exit → Act → World → Prop} {α : Type} {e : TypeId} {z : Value} {size bytes : Nat} {B : Nat} {W : World} {v xv : Value} {l l2 : List α} {n : Nat}
theorem app_all {rest : List Oper} (hgd : o.guard = none) (s x : Operand) (t : TypeId)
    (ho : o.op = .call { callee := .builtin .append, args := #[s, x], argTypes := #[t, t] }) (enc : α → List Value) (hi : Inf e z size bytes) (ht : Tryz.prog.underlying t = some (.slice e))
    (hzs : z.cells.size = size) (hsz : 0 < size) (hby : bytes ≤ 1000) (hk : ∀ x, (enc x).length = size) (hone : ∀ x, ∀ u ∈ enc x, u.oneCell' = true) (hown : W.ownsRow B e size v n (rowV enc l)) (hv2 : Vw size enc W xv l2) (hn : n + l2.length ≤ 100000) (hB : B ≤ W.heap.size)
    (hs : a.eval s = v) (hx : a.eval x = xv)
    (h : ∀ v' w', w'.ownsRow B e size v' (n + l2.length) (rowV enc (l ++ l2)) → Kp v.ownBlock.toList W w' → wpList Tryz.prog ops Q rest (a.put o.dst v') w') : wpList Tryz.prog ops Q (o :: rest) a W := by
  refine wpList_plain hgd fun K hK => ?_
  obtain ⟨v', w', hr, h2, h3⟩ := run_app_all t o.type enc hi ht hzs hsz hby hk hone hown hv2 hn hB
  unfold Oper.wp execOp
  simp only [ho, resolve, invoke, builtin, Sem.run_bind, Sem.run_pure, Result.andThen_ok, List.map_toArray, List.map_cons, List.map_nil, hs, hx, hr]
  exact hK _ _ (h v' w' h2 h3)
theorem step_app_all {K : Act → World → Prop} {E : Prop} (hgd : o.guard = none) (s x : Operand) (t : TypeId)
    (ho : o.op = .call { callee := .builtin .append, args := #[s, x], argTypes := #[t, t] }) (enc : α → List Value) (hi : Inf e z size bytes) (ht : Tryz.prog.underlying t = some (.slice e))
    (hzs : z.cells.size = size) (hsz : 0 < size) (hby : bytes ≤ 1000) (hk : ∀ x, (enc x).length = size) (hone : ∀ x, ∀ u ∈ enc x, u.oneCell' = true) (hown : W.ownsRow B e size v n (rowV enc l)) (hv2 : Vw size enc W xv l2) (hn : n + l2.length ≤ 100000) (hB : B ≤ W.heap.size)
    (hs : a.eval s = v) (hx : a.eval x = xv)
    (h : ∀ v' w', w'.ownsRow B e size v' (n + l2.length) (rowV enc (l ++ l2)) → Kp v.ownBlock.toList W w' → K (a.put o.dst v') w') :
    if Region.wanted o (yielded ops a.tmps) = true then Oper.wp Tryz.prog o a W K Q else E := by
  rw [if_pos (by unfold Region.wanted; rw [hgd])]
  obtain ⟨v', w', hr, h2, h3⟩ := run_app_all t o.type enc hi ht hzs hsz hby hk hone hown hv2 hn hB
  unfold Oper.wp execOp
  simp only [ho, resolve, invoke, builtin, Sem.run_bind, Sem.run_pure, Result.andThen_ok, List.map_toArray, List.map_cons, List.map_nil, hs, hx, hr]
  exact h v' w' h2 h3
end
end Go.Proofs.YtnnghcooidjlhaaGreat
end
section
set_option linter.unusedSimpArgs false
set_option maxRecDepth 100000
namespace Go.Proofs.YtnnghcooidjlhaaGreat
open Go.ChangeShapes Go.WideShapes Go.ChangeAt Go.RowKit Go.Deep
section
variable {H : Type} {enc : TypeId × Value → H} {w : World} {spare : Nat → Bool} {held : Bool}
theorem open_rows {α : Type} (d0 : α) {k : Nat} {encA : α → List Value} {R : α → Prop} {t e : TypeId} (ht : Tryz.prog.underlying t = some (.slice e)) (hc : Tryz.prog.cellsOf e = k) (hk0 : 0 < k) (hk : ∀ x, (encA x).length = k)
    (ho : ∀ (fuel : Nat) (cs : List Value) (x : DataW H × List MemPlace), DataW.trod enc Tryz.prog w 0 spare held fuel e cs = some x → ∃ y, cs = encA y ∧ R y) {fuel : Nat} {v : Value} {x : DataW H × List MemPlace} (h : DataW.trod enc Tryz.prog w 0 spare held fuel t [v] = some x) :
    ∃ (p : Option Addr) (n c : Nat) (l : List α), v = .slice p n c ∧ n = l.length ∧ Vw k encA w (.slice p n c) l ∧ ∀ y ∈ l, R y := by
  rcases open_slice ht h with ⟨hcs, _⟩ | ⟨a, len, cap, m, n, D, Pl, hcs, _, hl, hm, hmm, _, hel⟩
  · simp at hcs
    subst hcs
    exact ⟨none, 0, 0, [], rfl, rfl, Vw.nil _ _ _ _ _, by simp⟩
  · simp at hcs
    subst hcs
    have hlm : len ≤ m := by rw [hmm]; split <;> omega
    have h1 : ∀ i, ∃ y : α, i < len → (R y ∧ ∃ cs', w.cells? 0 (a.add (i * k)) k = some cs' ∧ cs' = encA y) := by
      intro i
      by_cases hi : i < len
      · obtain ⟨cs', h1, h2⟩ := hel i (by omega)
        rw [hc] at h1
        obtain ⟨y, hy, hr⟩ := ho _ _ _ h2
        exact ⟨y, fun _ => ⟨hr, cs', h1, hy⟩⟩
      · exact ⟨d0, fun h => absurd h hi⟩
    obtain ⟨F, hF⟩ := Classical.axiomOfChoice h1
    have hg : ∀ i y, ((List.range len).map F)[i]? = some y → i < len ∧ y = F i := fun i y hy => by
      have hi : i < len := by
        have := (List.getElem?_eq_some_iff.1 hy).1
        simpa using this
      refine ⟨hi, ?_⟩
      simp [hi] at hy
      exact hy.symm
    refine ⟨some a, len, cap, (List.range len).map F, rfl, by simp, ⟨some a, cap, by simp, by simpa using hl, ?_⟩, ?_⟩
    · by_cases h0 : len = 0
      · left; simp [h0]
      · right
        obtain ⟨b, off, spot⟩ := a
        have hcell : ∀ i j, i < len → j < k → w.cell? ((⟨b, off, spot⟩ : Addr).add (i * k + j)) = (encA (F i))[j]? := by
          intro i j hi hj
          obtain ⟨_, cs', h1, h2⟩ := hF i hi
          rw [h2] at h1
          have h3 := World.cells?_some h1
          rw [← add_add]
          exact h3.2.2 j hj
        have hsome : ∀ j, j < k → ∃ u, (encA (F 0))[j]? = some u := fun j hj => ⟨_, List.getElem?_eq_getElem (by rw [hk]; exact hj)⟩
        have hspot : spot = none := by
          obtain ⟨u, hu⟩ := hsome 0 hk0
          have := (hcell 0 0 (by omega) hk0).trans hu
          simpa [Addr.add] using World.cell?_spot this
        subst hspot
        have hcell' : ∀ i j, i < len → j < k → w.cell? ⟨b, off + i * k + j, none⟩ = (encA (F i))[j]? := by
          intro i j hi hj
          have := hcell i j hi hj
          rw [add_plain] at this
          rw [← this]
          congr 2
          omega
        refine ⟨b, off, rfl, ?_, fun i y hy q u hu => ?_⟩
        · obtain ⟨u, hu⟩ := hsome 0 hk0
          exact World.block_lt_of_cell? w _ ((hcell' 0 0 (by omega) hk0).trans hu)
        · obtain ⟨hi, rfl⟩ := hg i y hy
          have hq : q < k := by
            have := (List.getElem?_eq_some_iff.1 hu).1
            rwa [hk] at this
          exact (hcell' i q hi hq).trans hu
    · intro y hy
      rw [List.mem_map] at hy
      obtain ⟨i, hi, rfl⟩ := hy
      exact (hF i (by simpa using hi)).1
end
end Go.Proofs.YtnnghcooidjlhaaGreat
end
section
set_option linter.unusedSimpArgs false
set_option linter.unusedVariables false
set_option maxRecDepth 100000
namespace Go.Proofs.YtnnghcooidjlhaaGreat
open Go.RowKit Go.Lib
theorem number02_any (t : Nat) (w : World) :
    Calls Tryz.prog 150 #[.float .f64 t] w fun e w' => e = .returned (.bool (!fnan t)) ∧ w = w' := by
  have hq := feq_self t
  go_enter Tryz.func150, Tryz.ntmps150
  go_wp2
  go_ret
  exact ⟨rfl, rfl⟩
theorem norm02_any (b : Nat) (h : fnan b = false) (hb : b < 18446744073709551616) (w : World) :
    Calls Tryz.prog 97 #[.float .f64 b] w fun e w' => e = .returned (.tuple #[.float .f64 (tn b), .int .i64 0]) ∧ w = w' := by
  have h0 := feq_zero h hb
  have HN := hid (fun W => number02_any b W)
  rw [h] at HN
  by_cases hz : b = 0 ∨ b = 9223372036854775808
  · have hq : feq b 0 = true := by rw [h0, decide_eq_true hz]
    have ht : tn b = 0 := by unfold tn; split <;> omega
    rw [ht]
    clear h0 hz ht
    go_enter Tryz.func97, Tryz.ntmps97
    go_wp2_with (go_at_call 150; refine (HN.out _).mono ?_; rintro e w' ⟨rfl, rfl⟩)
    go_ret2
    exact ⟨rfl, rfl⟩
  · have hq : feq b 0 = false := by rw [h0, decide_eq_false hz]
    have ht : tn b = b := by unfold tn; rw [if_neg (by omega)]
    rw [ht]
    clear h0 hz ht
    go_enter Tryz.func97, Tryz.ntmps97
    go_wp2_with (go_at_call 150; refine (HN.out _).mono ?_; rintro e w' ⟨rfl, rfl⟩)
    go_ret2
    exact ⟨rfl, rfl⟩
theorem right_cases (e : Ev) : e.right ∨ fnan e.t = true ∨ (fnan e.t = false ∧ ¬ -1 ≤ e.src) ∨ (fnan e.t = false ∧ -1 ≤ e.src ∧ ¬ e.src < 6) ∨ (fnan e.t = false ∧ -1 ≤ e.src ∧ e.src < 6 ∧ ¬ 0 ≤ e.n) ∨ (fnan e.t = false ∧ -1 ≤ e.src ∧ e.src < 6 ∧ 0 ≤ e.n ∧ ¬ e.n ≤ 1099511627776)
    ∨ (fnan e.t = false ∧ -1 ≤ e.src ∧ e.src < 6 ∧ 0 ≤ e.n ∧ e.n ≤ 1099511627776 ∧ ¬ 0 ≤ e.dst) ∨ (fnan e.t = false ∧ -1 ≤ e.src ∧ e.src < 6 ∧ 0 ≤ e.n ∧ e.n ≤ 1099511627776 ∧ 0 ≤ e.dst ∧ ¬ e.dst < 6) := by
  unfold Ev.right
  cases h0 : fnan e.t
  · by_cases c0 : -1 ≤ e.src <;> by_cases c1 : e.src < 6 <;> by_cases c2 : 0 ≤ e.n <;> by_cases c3 : e.n ≤ 1099511627776 <;> by_cases c4 : 0 ≤ e.dst <;> by_cases c5 : e.dst < 6 <;> simp [c0, c1, c2, c3, c4, c5]
  · simp
set_option maxHeartbeats 8000000 in
theorem right20_any (e : Ev) (w : World) :
    Calls Tryz.prog 68 #[evV e] w fun r w' => r = .returned (.bool (decide e.right)) ∧ Below w.heap.size w w' := by
  unfold evV
  have hb1 : Below w.heap.size w (w.alloc (.cells #[.float .f64 e.t, .int .i64 e.src, .int .i64 e.n, .int .i64 e.dst, .int .i64 e.pay] 67)) := (Below.refl _ w).alloc (Nat.le_refl _) _
  have HB := hid hb1
  clear hb1
  have hq := feq_self e.t
  rcases right_cases e with h | h
  · rw [decide_eq_true h]
    obtain ⟨h0, c0, c1, c2, c3, c4, c5⟩ := h
    rw [h0] at hq
    have d1 : e.src ≤ 5 := by omega
    have d5 : e.dst ≤ 5 := by omega
    clear c1 c5
    go_enter Tryz.func68, Tryz.ntmps68
    go_wp2
    go_ret
    refine ⟨?_, HB.out⟩
    first | rfl | exact congrArg (fun b => Ending.returned (.bool b)) (decide_eq_true (by omega))
  · have hn : ¬ e.right := by
      rintro ⟨h0, c0, c1, c2, c3, c4, c5⟩
      simp [h0, c0, c1, c2, c3, c4, c5] at h
    rw [decide_eq_false hn]
    clear hn
    rcases h with h0 | ⟨h0, c0⟩ | ⟨h0, c0, c1⟩ | ⟨h0, c0, c1, c2⟩ | ⟨h0, c0, c1, c2, c3⟩ | ⟨h0, c0, c1, c2, c3, c4⟩ | ⟨h0, c0, c1, c2, c3, c4, c5⟩
    all_goals
      rw [h0] at hq
      try have d1 : e.src ≤ 5 := by omega
      try have d1' : ¬ e.src ≤ 5 := by omega
      try have d5' : ¬ e.dst ≤ 5 := by omega
      go_enter Tryz.func68, Tryz.ntmps68
      go_wp2
      go_ret
      refine ⟨?_, HB.out⟩
      first | rfl | exact congrArg (fun b => Ending.returned (.bool b)) (decide_eq_false (by omega))
end Go.Proofs.YtnnghcooidjlhaaGreat
end
section
set_option linter.unusedSimpArgs false
set_option linter.unusedVariables false
set_option maxRecDepth 100000
namespace Go.Proofs.YtnnghcooidjlhaaGreat
open Go.RowKit Go.Lib
theorem infMsg22 : (Tryz.prog.info? 116).map (fun i => (i.zero, i.size, i.bytes)) = some (some (.agg #[.float .f64 0, .int .i64 0, .int .i64 0, .int .i64 0, .int .i64 0, .bool false]), 6, 48) := by kernel_rfl
theorem below_alloc {w W : World} (h : Below w.heap.size w W) (o : Obj) : Below w.heap.size w (W.alloc o) := h.alloc h.size o
theorem below_own {w W W' : World} {B s n : Nat} {T : TypeId} {v : Value} {xs : List Value} (hb : Below w.heap.size w W) (ho : W.ownsRow B T s v n xs) (hB : w.heap.size ≤ B) (hk : Kp v.ownBlock.toList W W') : Below w.heap.size w W' :=
  hb.trans (hk.to_below hb.size (fun x hx => Nat.le_trans hB (ho.lt x (Option.mem_toList.1 hx)).1))
theorem Vw.kp {α : Type} {k : Nat} {enc : α → List Value} {w w' : World} {v : Value} {l : List α} {O : List Nat} (h : Vw k enc w v l) (hk : Kp O w w') (ho : ∀ b, v.ownBlock = some b → b ∉ O) : Vw k enc w' v l := h.of_block (fun b hb e => hk.block b hb (ho b e)) hk.size
theorem put22_no (p : Option Addr) (n c : Nat) (e : Ev) (a : Bool) (h : ¬ e.right) (w : World) :
    Calls Tryz.prog 64 #[.slice p n c, msgV e a] w fun r w' => r = .returned (.tuple #[.slice p n c, .bool false]) ∧ Below w.heap.size w w' := by
  have HR := hid (fun W => right20_any e W)
  rw [decide_eq_false h] at HR
  unfold evV at HR
  unfold msgV
  clear h
  have HB := hid ((Below.refl _ w).alloc (Nat.le_refl _) (.cells #[.float .f64 e.t, .int .i64 e.src, .int .i64 e.n, .int .i64 e.dst, .int .i64 e.pay, .bool a] 116))
  go_enter Tryz.func64, Tryz.ntmps64
  go_wp2_with fail
  (with_reducible refine (HR.out _).mono ?_)
  rintro r W1 ⟨rfl, hb1⟩
  have HF := hid (HB.out.trans (hb1.mono (by simp)))
  clear hb1
  go_wp2
  go_ret2
  exact ⟨rfl, HF.out⟩
set_option maxHeartbeats 4000000 in
theorem put22_any {w : World} {p : Option Addr} {n c : Nat} {l : List Fl} (hv : Vw 6 msgC w (.slice p n c) l) (hl : l.length ≤ 1000) (hn : n = l.length) (e : Ev) (a : Bool) (h : e.right) (ho : e.ok) (k : Nat) :
    Calls Tryz.prog 64 #[.slice p n c, msgV e a] w fun r w' => ∃ v', r = .returned (.tuple #[v', .bool true]) ∧ w'.ownsRow w.heap.size 116 6 v' (l.length + 1) (rowV msgC (l ++ [⟨k, e.nrm, a⟩])) ∧ Below w.heap.size w w' := by
  have HR := hid (fun W => right20_any e W)
  rw [decide_eq_true h] at HR
  have HN := hid (fun W => norm02_any e.t h.1 ho.1 W)
  unfold evV at HR
  unfold msgV
  obtain ⟨W1, hW1⟩ : ∃ W1, W1 = w.alloc (.cells #[.float .f64 e.t, .int .i64 e.src, .int .i64 e.n, .int .i64 e.dst, .int .i64 e.pay, .bool a] 116) := ⟨_, rfl⟩
  have hb1 : Below w.heap.size w W1 := by rw [hW1]; exact (Below.refl _ w).alloc (Nat.le_refl _) _
  have hB1 : Blk W1 w.heap.size 116 #[.float .f64 e.t, .int .i64 e.src, .int .i64 e.n, .int .i64 e.dst, .int .i64 e.pay, .bool a] := by rw [hW1]; exact Blk.new w _ _
  have HR1 := hid (HR.out W1)
  rw [hW1] at HR1
  have HX := hid (⟨hb1, hB1, hv, hl, hn⟩ : _ ∧ _ ∧ _ ∧ _ ∧ _)
  have HW1 := hid hW1
  clear h ho hb1 hB1 hW1 hv hl hn
  go_enter Tryz.func64, Tryz.ntmps64
  go_wp2_with fail
  (with_reducible refine HR1.out.mono ?_)
  rintro r W2 ⟨rfl, hb2⟩
  rw [← HW1.out] at hb2
  have hB2 := HX.out.2.1.below hb2 HX.out.2.1.lt
  have c0 : W2.cell? ⟨w.heap.size, 0, none⟩ = some (.float .f64 e.t) := hB2.cell 0
  have f0 := hB2.frozen 0
  have hlt := hB2.lt
  have H2 := hid (⟨HX.out.1.trans (hb2.mono HX.out.1.size), hB2⟩ : _ ∧ _)
  clear hb2 hB2
  go_wp2_with fail
  (with_reducible refine (HN.out _).mono ?_)
  rintro r W3 ⟨rfl, rfl⟩
  go_wp2
  obtain ⟨W4, hW4⟩ : ∃ W4, W4 = W2.setCell ⟨w.heap.size, 0, none⟩ (.float .f64 (tn e.t)) := ⟨_, rfl⟩
  have hB4 : Blk W4 w.heap.size 116 (msgC ⟨k, e.nrm, a⟩).toArray := by rw [hW4]; exact H2.out.2.set_ 0 _
  have hb4 : Below w.heap.size w W4 := by rw [hW4]; exact H2.out.1.setCell (Nat.le_refl _) _
  rw [← hW4]
  have hv4 : Vw 6 msgC W4 (.slice p n c) l := by
    have hv2 := HX.out.2.2.1.below H2.out.1
    by_cases h0 : l = []
    · obtain ⟨q, d, e, _⟩ := HX.out.2.2.1.slice
      injection e with _ e2 _
      subst h0
      subst e2
      exact Vw.nil _ _ _ _ _
    · obtain ⟨b0, o0, c0', e0, _, hb0, _⟩ := HX.out.2.2.1.ex h0
      rw [hW4]
      refine hv2.of_block (fun b hb e2 => Below.heap_setCell _ _ _ _ (fun e3 => ?_)) (by simp)
      rw [e0] at e2
      simp [Value.ownBlock] at e2
      have e3 : b = w.heap.size := e3
      omega
  have d0 : W4.cell? ⟨w.heap.size, 0, none⟩ = some (.float .f64 (tn e.t)) := hB4.cell 0
  have d1 : W4.cell? ⟨w.heap.size, 1, none⟩ = some (.int .i64 e.src) := hB4.cell 1
  have d2 : W4.cell? ⟨w.heap.size, 2, none⟩ = some (.int .i64 e.n) := hB4.cell 2
  have d3 : W4.cell? ⟨w.heap.size, 3, none⟩ = some (.int .i64 e.dst) := hB4.cell 3
  have d4 : W4.cell? ⟨w.heap.size, 4, none⟩ = some (.int .i64 e.pay) := hB4.cell 4
  have d5 : W4.cell? ⟨w.heap.size, 5, none⟩ = some (.bool a) := hB4.cell 5
  have HVD := hid (hv4.below (below_drewN (Below.refl _ W4) 1))
  have hbD := below_drewN hb4 1
  have HBD := hid hbD
  have HBM := hid hB4
  have HLT := hid hB4.lt
  have hlt4 := hB4.lt
  clear hW4 c0 f0 hlt hv4 hb4 hB4 hbD
  have HSZ := hid (⟨HX.out.2.2.2.1, HX.out.2.2.2.2⟩ : l.length ≤ 1000 ∧ n = l.length)
  have HO0 : Hid (∀ (W : World) (B : Nat), B ≤ W.heap.size → (W.alloc (.cells #[] 116)).ownsRow B 116 6 (.slice (some ⟨W.heap.size, 0, none⟩) 0 0) 0 (rowV msgC [])) := hid fun W B hB => World.ownsRow_made W #[] 0 hB (Nat.zero_le _) (by simp)
  have HO1 : Hid (∀ o : Obj, ((W4.drew.alloc o).alloc (.cells #[] 116)).ownsRow w.heap.size 116 6 (.slice (some ⟨W4.heap.size + 1, 0, none⟩) 0 0) 0 (rowV msgC [])) := hid fun o => by
    have := HO0.out (W4.drew.alloc o) w.heap.size (below_alloc HBD.out _).size
    rw [show (W4.drew.alloc o).heap.size = W4.heap.size + 1 by simp] at this
    exact this
  have HM1 : Hid (∀ o : Obj, Vw 6 msgC ((W4.drew.alloc o).alloc (.cells (msgC ⟨k, e.nrm, a⟩).toArray 116)) (.slice (some ⟨W4.heap.size + 1, 0, none⟩) 1 1) [⟨k, e.nrm, a⟩]) := hid fun o => by
    have := Vw.one (k := 6) (enc := msgC) (x := ⟨k, e.nrm, a⟩) (Blk.new (W4.drew.alloc o) 116 _) (Nat.le_refl 1)
    rw [show (W4.drew.alloc o).heap.size = W4.heap.size + 1 by simp] at this
    exact this
  go_region_law (first
    | (refine step_app_all rfl (.tmp 25) (.tmp 26) 112 rfl msgC infMsg22 Tryz.underlying112 rfl (by decide) (by decide) msgC_len msgC_one (l := []) (l2 := l) (n := 0) (B := w.heap.size)
         (by first | exact HO0.out _ _ HBD.out.size | exact HO1.out _ | exact (HO0.out _ _ HBD.out.size).alloc _)
         (by first | exact HVD.out.below (below_alloc (Below.refl _ _) _) | exact HVD.out.below (below_alloc (below_alloc (Below.refl _ _) _) _))
         (by have := HSZ.out.1; omega) (by first | exact (below_alloc HBD.out _).size | exact (below_alloc (below_alloc HBD.out _) _).size) (by rfl) (by rfl) ?_
       intro v5 W5 hO5 hk5
       rw [Nat.zero_add] at hO5
       obtain ⟨p5, c5, rfl⟩ := own_slice2 hO5
       have hb5 : Below w.heap.size w W5 := by
         first
           | exact below_own (below_alloc HBD.out _) (HO0.out _ _ HBD.out.size) (Nat.le_refl _) hk5
           | exact below_own (below_alloc (below_alloc HBD.out _) _) (HO1.out _) (Nat.le_refl _) hk5
           | exact below_own (below_alloc (below_alloc HBD.out _) _) ((HO0.out _ _ HBD.out.size).alloc _) (Nat.le_refl _) hk5
       have hM5 : Blk W5 w.heap.size 116 (msgC ⟨k, e.nrm, a⟩).toArray := by
         first
           | exact (HBM.out.drew.alloc _).kp hk5 (fun hm => by have := HLT.out; simp [Value.ownBlock] at hm; omega)
           | exact ((HBM.out.drew.alloc _).alloc _).kp hk5 (fun hm => by have := HLT.out; simp [Value.ownBlock] at hm; omega)
       have e0 : W5.cell? ⟨w.heap.size, 0, none⟩ = some (.float .f64 (tn e.t)) := hM5.cell 0
       have e1 : W5.cell? ⟨w.heap.size, 1, none⟩ = some (.int .i64 e.src) := hM5.cell 1
       have e2 : W5.cell? ⟨w.heap.size, 2, none⟩ = some (.int .i64 e.n) := hM5.cell 2
       have e3 : W5.cell? ⟨w.heap.size, 3, none⟩ = some (.int .i64 e.dst) := hM5.cell 3
       have e4 : W5.cell? ⟨w.heap.size, 4, none⟩ = some (.int .i64 e.pay) := hM5.cell 4
       have e5 : W5.cell? ⟨w.heap.size, 5, none⟩ = some (.bool a) := hM5.cell 5
       have hV5 : Hid (Vw 6 msgC (W5.alloc (.cells (msgC ⟨k, e.nrm, a⟩).toArray 116)) (.slice (some ⟨W5.heap.size, 0, none⟩) 1 1) [⟨k, e.nrm, a⟩]) := hid (Vw.one (Blk.new W5 _ _) (Nat.le_refl _))
       clear hM5)
    | (refine step_app_all rfl (.tmp 27) (.tmp 29) 112 rfl msgC infMsg22 Tryz.underlying112 rfl (by decide) (by decide) msgC_len msgC_one (l := l) (l2 := [⟨k, e.nrm, a⟩]) (B := w.heap.size)
         (by first | exact hO5.alloc _ | exact hO5)
         (by first | exact hV5.out | exact (HM1.out _).kp hk5 (fun b hb => by simp [Value.ownBlock] at hb ⊢; omega) | exact (Vw.one ((Blk.new W4.drew _ _).alloc _) (Nat.le_refl _)).kp hk5 (fun b hb => by simp [Value.ownBlock] at hb ⊢; omega))
         (by have := HSZ.out.1; simp; omega) (by first | exact (below_alloc hb5 _).size | exact hb5.size) (by rfl) (by rfl) ?_
       intro v6 W6 hO6 hk6
       rw [show ([⟨k, e.nrm, a⟩] : List Fl).length = 1 from rfl] at hO6
       obtain ⟨p6, c6, rfl⟩ := own_slice2 hO6
       have hb6 : Below w.heap.size w W6 := by
         first
           | exact below_own (below_alloc hb5 _) (hO5.alloc _) (Nat.le_refl _) hk6
           | exact below_own hb5 hO5 (Nat.le_refl _) hk6))
  all_goals
    have HF := hid (⟨hO6, hb6⟩ : _ ∧ _)
    clear hO6 hb6 hO5 hb5 hk5 hk6
    go_wp2
    go_ret2
    exact ⟨_, rfl, HF.out⟩
end Go.Proofs.YtnnghcooidjlhaaGreat
end
section
set_option linter.unusedSimpArgs false
set_option linter.unusedVariables false
namespace Go.Proofs.YtnnghcooidjlhaaGreat
def minT (t : Nat) (l : List Fl) : Nat := l.foldl (fun t x => if flt x.e.t t = true then x.e.t else t) t
theorem minT_cons (t : Nat) (x : Fl) (l : List Fl) : minT t (x :: l) = minT (if flt x.e.t t = true then x.e.t else t) l := rfl
theorem minT_facts : ∀ (l : List Fl) (t : Nat), fnan t = false → (∀ y ∈ l, fnan y.e.t = false) →
    fnan (minT t l) = false ∧ fkey (minT t l) ≤ fkey t ∧ (∀ y ∈ l, fkey (minT t l) ≤ fkey y.e.t) ∧ (minT t l = t ∨ ∃ y ∈ l, y.e.t = minT t l)
  | [], t, ht, _ => ⟨ht, Int.le_refl _, by simp, .inl rfl⟩
  | x :: l, t, ht, hl => by
    have hx := hl x (by simp)
    have hl' : ∀ y ∈ l, fnan y.e.t = false := fun y hy => hl y (by simp [hy])
    rw [minT_cons]
    by_cases h : flt x.e.t t = true
    · rw [if_pos h]
      obtain ⟨a, b, c, d⟩ := minT_facts l x.e.t hx hl'
      rw [flt_key hx ht, decide_eq_true_iff] at h
      refine ⟨a, by omega, fun y hy => ?_, .inr ?_⟩
      · rcases List.mem_cons.1 hy with rfl | hy
        · exact b
        · exact c y hy
      · rcases d with d | ⟨y, hy, d⟩
        · exact ⟨x, by simp, d.symm⟩
        · exact ⟨y, by simp [hy], d⟩
    · rw [if_neg h]
      obtain ⟨a, b, c, d⟩ := minT_facts l t ht hl'
      rw [flt_key hx ht, decide_eq_true_iff] at h
      refine ⟨a, b, fun y hy => ?_, ?_⟩
      · rcases List.mem_cons.1 hy with rfl | hy
        · omega
        · exact c y hy
      · rcases d with d | ⟨y, hy, d⟩
        · exact .inl d
        · exact .inr ⟨y, by simp [hy], d⟩
theorem lstep_true {t x : Nat} (ht : fnan t = false) (hx : fnan x = false) : lstep (true, t) x = (true, if flt x t = true then x else t) := by
  unfold lstep cmpT
  rw [hx, ht]
  cases h : flt x t
  · cases h2 : fgt x t <;> simp [h, h2]
  · simp [h]
theorem foldl_lstep : ∀ (l : List Fl) (t : Nat), fnan t = false → (∀ y ∈ l, fnan y.e.t = false) → l.foldl (fun s x => lstep s x.e.t) (true, t) = (true, minT t l)
  | [], _, _, _ => rfl
  | x :: l, t, ht, hl => by
    have hx := hl x (by simp)
    rw [List.foldl_cons, lstep_true ht hx, foldl_lstep l _ (by split <;> assumption) (fun y hy => hl y (by simp [hy])), minT_cons]
theorem leastF_cons (x : Fl) (l : List Fl) (hl : ∀ y ∈ x :: l, fnan y.e.t = false) : leastF (x :: l) = (true, minT x.e.t l) := by
  unfold leastF
  rw [List.foldl_cons, show lstep (false, 0) x.e.t = (true, x.e.t) by simp [lstep], foldl_lstep l _ (hl x (by simp)) (fun y hy => hl y (by simp [hy]))]
theorem minT_take {t : Nat} {l : List Fl} {i : Nat} {x : Fl} (h : l[i]? = some x) : minT t (l.take (i + 1)) = if flt x.e.t (minT t (l.take i)) = true then x.e.t else minT t (l.take i) := by
  rw [List.take_add_one, h]
  unfold minT
  rw [Option.toList_some, List.foldl_append, List.foldl_cons, List.foldl_nil]
end Go.Proofs.YtnnghcooidjlhaaGreat
end
section
set_option linter.unusedSimpArgs false
set_option linter.unusedVariables false
set_option maxRecDepth 100000
namespace Go.Proofs.YtnnghcooidjlhaaGreat
open Go.RowKit Go.Lib
set_option maxHeartbeats 4000000 in
theorem least22_any {w : World} {p : Option Addr} {n c : Nat} {l : List Fl} (hv : Vw 6 msgC w (.slice p n c) l) (hn : n = l.length) (hl : l.length ≤ 1000) (hf : ∀ x ∈ l, fnan x.e.t = false) :
    Calls Tryz.prog 60 #[.slice p n c] w fun r w' => r = .returned (.tuple #[.float .f64 (leastF l).2, .bool (leastF l).1]) ∧ w = w' := by
  rcases l with _ | ⟨x, t⟩
  · have hn0 : n = 0 := hn
    subst hn0
    clear hv hn hl hf
    go_enter Tryz.func60, Tryz.ntmps60
    go_wp2
    go_ret2
    exact ⟨rfl, rfl⟩
  · rw [leastF_cons x t hf]
    obtain ⟨b, off, c', e, hc, hb, hx⟩ := hv.ex (by simp)
    injection e with e1 e2 e3
    subst e1
    clear e2 e3
    have c0 : w.cell? ⟨b, off, none⟩ = some (.float .f64 x.e.t) := by
      have := hx 0 x rfl 0 (.float .f64 x.e.t) rfl
      rwa [Nat.zero_mul, Nat.add_zero] at this
    have hn1 : 0 < n := by rw [hn]; simp
    have hne : ¬ ((n : Int) = 0) := by omega
    have hni : (0 : Int) < (n : Int) := by omega
    have hnl : n ≤ 1000 := by omega
    have HX := hid (⟨hx, hn, hf⟩ : _ ∧ _ ∧ _)
    clear hv hn hl hf hx hc hb
    go_enter Tryz.func60, Tryz.ntmps60
    go_wp2
    go_loopg [4, 5] n (fun gg s4 s5 wr => ∃ j : Nat, 1 ≤ j ∧ j ≤ n ∧ n - j ≤ gg ∧ s5 = .int .i64 j ∧ s4 = .float .f64 (minT x.e.t (t.take (j - 1))) ∧ w = wr)
    case atStart => exact ⟨1, by omega, by omega, by omega, rfl, rfl, rfl⟩
    case round =>
      obtain ⟨j, hj1, hj, hgg, rfl, rfl, rfl⟩ := hrel
      by_cases hje : j < n
      · obtain ⟨hx, hn, hf⟩ := HX.out
        obtain ⟨y, hy⟩ : ∃ y, (x :: t)[j]? = some y := ⟨_, List.getElem?_eq_getElem (by omega)⟩
        have hy' : t[j - 1]? = some y := by
          obtain ⟨q, rfl⟩ : ∃ q, j = q + 1 := ⟨j - 1, by omega⟩
          simpa using hy
        have d0 : w.cell? ⟨b, off + j * 6, none⟩ = some (.float .f64 y.e.t) := hx j y hy 0 _ rfl
        have hst : minT x.e.t (t.take j) = if flt y.e.t (minT x.e.t (t.take (j - 1))) = true then y.e.t else minT x.e.t (t.take (j - 1)) := by
          have := minT_take (t := x.e.t) hy'
          rwa [show j - 1 + 1 = j by omega] at this
        have HST := hid hst
        have hji : (j : Int) < (n : Int) := by omega
        obtain ⟨m, hm⟩ : ∃ m, m = minT x.e.t (t.take (j - 1)) := ⟨_, rfl⟩
        rw [← hm] at HST ⊢
        clear hx hn hf hy hy' hst hm
        cases hlt : flt y.e.t m
        all_goals
          go_wp2
          go_roundg (n - (j + 1))
          case measure => omega
          case rel => exact ⟨j + 1, by omega, by omega, by omega, by go_num, by rw [show j + 1 - 1 = j by omega, HST.out, hlt]; rfl, rfl⟩
      · have hjn : j = n := by omega
        have hji : ¬ ((j : Int) < (n : Int)) := by omega
        have e : t.take (j - 1) = t := by
          have := HX.out.2.1
          simp only [List.length_cons] at this
          rw [List.take_of_length_le (by omega)]
        rw [e]
        clear hjn
        go_wp2
        go_ret2
        exact ⟨rfl, rfl⟩
set_option maxHeartbeats 4000000 in
theorem take22_any {w : World} {b off n c : Nat} {l : List Fl} (hv : Vw 6 msgC w (.slice (some ⟨b, off, none⟩) n c) l) (hn : n = l.length) (hl : l.length ≤ 1000) {i : Nat} (hi : i < l.length) :
    Calls Tryz.prog 66 #[.slice (some ⟨b, off, none⟩) n c, .int .i64 i] w fun r w' => ∃ v', r = .returned v' ∧ w'.ownsRow w.heap.size 116 6 v' (l.length - 1) (rowV msgC (l.eraseIdx i)) ∧ Below w.heap.size w w' := by
  obtain ⟨p', c', e, hc⟩ := hv.slice
  injection e with e1 e2 e3
  subst e1 e3
  clear e2
  have hv' := hv
  rw [hn] at hv'
  obtain ⟨A, hA, hd⟩ : ∃ A, (if c = i + 1 then some (⟨b, off, none⟩ : Addr) else some ⟨b, off + (i + 1) * 6, none⟩) = some A ∧ Vw 6 msgC w (.slice (some A) (n - (i + 1)) (c - (i + 1))) (l.drop (i + 1)) := by
    by_cases h : c = i + 1
    · refine ⟨_, if_pos h, ?_⟩
      have : l.drop (i + 1) = [] := List.drop_eq_nil_of_le (by omega)
      rw [this, show n - (i + 1) = 0 by omega]
      exact Vw.nil _ _ _ _ _
    · refine ⟨_, if_neg h, ?_⟩
      rw [hn]
      exact hv'.drop (i + 1) (by omega)
  have ht := hv'.take i (by omega)
  have hic : i ≤ c := by omega
  have hjc : i + 1 ≤ c := by omega
  have hne : ¬ ((i : Int) = (i : Int) + 1) := by omega
  have hb1 : (0 : Int) ≤ (i : Int) + 1 := by omega
  have hb2 : (i : Int) + 1 ≤ (n : Int) := by omega
  have hb3 : ((i : Int) + 1).toNat = i + 1 := by omega
  have hin : i + 1 ≤ n := by omega
  have hwr : IntKind.i64.wrap ((i : Int) + 1) = (i : Int) + 1 := by rw [IntKind.wrap_i64]; omega
  have hn2 : n ≤ 1000 := by omega
  have HX := hid (⟨hd, ht, hn, hi, hl⟩ : _ ∧ _ ∧ _ ∧ _ ∧ _)
  clear hv hv' hn hl hi hc hd ht
  go_enter Tryz.func66, Tryz.ntmps66
  have HBD := hid (below_drewN (Below.refl w.heap.size w) 1)
  have HO0 : Hid ((w.drew.alloc (.cells #[] 116)).ownsRow w.heap.size 116 6 (.slice (some ⟨w.heap.size, 0, none⟩) 0 0) 0 (rowV msgC [])) := hid (World.ownsRow_made w.drew #[] 0 (Nat.le_refl _) (Nat.zero_le _) (by simp))
  go_wp2
  go_region_law (first
    | (refine step_app_all rfl (.tmp 5) (.tmp 8) 112 rfl msgC infMsg22 Tryz.underlying112 rfl (by decide) (by decide) msgC_len msgC_one (l := []) (l2 := l.take i) (n := 0) (B := w.heap.size) HO0.out (HX.out.2.1.below (below_alloc HBD.out _)) (by have := HX.out.2.2.2; simp; omega) (below_alloc HBD.out _).size (by rfl) (by rfl) ?_
       intro v5 W5 hO5 hk5
       rw [Nat.zero_add, List.length_take, Nat.min_eq_left (by have := HX.out.2.2.2.1; omega), List.nil_append] at hO5
       obtain ⟨p5, c5, rfl⟩ := own_slice2 hO5
       have hb5 : Below w.heap.size w W5 := below_own (below_alloc HBD.out _) HO0.out (Nat.le_refl _) hk5)
    | (refine step_app_all rfl (.tmp 9) (.tmp 13) 112 rfl msgC infMsg22 Tryz.underlying112 rfl (by decide) (by decide) msgC_len msgC_one (l := l.take i) (l2 := l.drop (i + 1)) (B := w.heap.size) hO5 (HX.out.1.below hb5) (by have := HX.out.2.2.2; simp; omega) hb5.size (by rfl) (by rfl) ?_
       intro v6 W6 hO6 hk6
       have hb6 : Below w.heap.size w W6 := below_own hb5 hO5 (Nat.le_refl _) hk6
       have hlen : i + (l.drop (i + 1)).length = l.length - 1 := by have := HX.out.2.2.2.1; rw [List.length_drop]; omega
       rw [hlen, ← List.eraseIdx_eq_take_drop_succ] at hO6
       obtain ⟨p6, c6, rfl⟩ := own_slice2 hO6))
  all_goals
    have HF := hid (⟨hO6, hb6⟩ : _ ∧ _)
    clear hO6 hb6 hO5 hb5 hk5 hk6
    go_wp2
    go_ret
    exact ⟨_, rfl, HF.out⟩
end Go.Proofs.YtnnghcooidjlhaaGreat
end
section
set_option linter.unusedSimpArgs false
set_option linter.unusedVariables false
set_option maxRecDepth 100000
namespace Go.Proofs.YtnnghcooidjlhaaGreat
open Go.RowKit Go.Lib
def actC (k i : Int) (e : Ev) (a : Bool) : Array Value := #[.int .i64 k, .int .i64 i, .float .f64 e.t, .int .i64 e.src, .int .i64 e.n, .int .i64 e.dst, .int .i64 e.pay, .bool a]
def DoPost (w : World) (fb : Nat) (s : SL) (O : List Nat) (N n : Nat) (l : List Fl) (r : Ending) (w' : World) : Prop :=
  ∃ O' v' l' N' n', r = .returned (.tuple #[v', .bool true]) ∧ FlI w' fb s O' N' n' l' ∧ Vw 6 msgC w' v' l' ∧ (∀ b, v'.ownBlock = some b → b ∉ O') ∧ Kp O w w' ∧ Gr O w.heap.size O' ∧ N' ≤ N + 2 ∧ n' ≤ n + 1 ∧ l'.length ≤ l.length + 1
section
variable {w : World} {fb : Nat} {s : SL} {O : List Nat} {N n : Nat} {l : List Fl} {v : Value}
set_option maxHeartbeats 8000000 in
theorem do22_send (h : FlI w fb s O N n l) (hv : Vw 6 msgC w v l) (hvo : ∀ b, v.ownBlock = some b → b ∉ O) (hl : l.length ≤ 100) (hn : n ≤ 1000) (hN : N + 1 ≤ 100) (k i : Int) (hk : 0 ≤ k ∧ k < 3) (e : Ev) (a : Bool) (hr : e.right) (ho : e.ok) :
    Calls Tryz.prog 56 #[.pointer (some ⟨fb, 0, none⟩), v, .agg (actC k i e a)] w fun r w' => DoPost w fb s O N n l r w' := by
  obtain ⟨p, c, rfl, hc⟩ := hv.slice
  unfold actC
  obtain ⟨W1, hW1⟩ : ∃ W1, W1 = w.alloc (.cells #[.int .i64 k, .int .i64 i, .float .f64 e.t, .int .i64 e.src, .int .i64 e.n, .int .i64 e.dst, .int .i64 e.pay, .bool a] 118) := ⟨_, rfl⟩
  have hb1 : Below w.heap.size w W1 := by rw [hW1]; exact (Below.refl _ w).alloc (Nat.le_refl _) _
  have hB1 : Blk W1 w.heap.size 118 #[.int .i64 k, .int .i64 i, .float .f64 e.t, .int .i64 e.src, .int .i64 e.n, .int .i64 e.dst, .int .i64 e.pay, .bool a] := by rw [hW1]; exact Blk.new w _ _
  have HM := hid (msg22_any e a W1)
  have HS := hid (fun W (hW : Below w.heap.size w W) => fsend_any (h.below hW) hr ho a (by omega) hN)
  have hno : w.heap.size ∉ O := fun hm => by have := h.lts w.heap.size (by simp [hm]); omega
  unfold msgV at HM HS
  rw [hW1] at HM
  obtain ⟨nl, hnl⟩ : ∃ nl, nl = l.length := ⟨_, rfl⟩
  rw [← hnl] at hv hvo ⊢
  have hv1 := hv
  rw [hnl] at hv1
  have HX := hid (⟨hb1, hB1, hno, hv, hvo, hl, hnl⟩ : _ ∧ _ ∧ _ ∧ _ ∧ _ ∧ _ ∧ _)
  have HP := hid (fun W (hW : Vw 6 msgC W (.slice p nl c) l) => put22_any hW (by omega) hnl e a hr ho n)
  unfold msgV at HP
  have HW1 := hid hW1
  obtain ⟨hk0, hk1⟩ := hk
  clear h hv hv1 hvo hl hn hN hr ho hb1 hB1 hW1 hno hnl hc
  go_enter Tryz.func56, Tryz.ntmps56
  go_wp2_with fail
  (with_reducible refine HM.out.mono ?_)
  rintro r W2 ⟨rfl, hb2⟩
  rw [← HW1.out] at hb2
  have hb02 : Below w.heap.size w W2 := HX.out.1.trans (hb2.mono HX.out.1.size)
  have HS2 := hid (HS.out W2 hb02)
  have hB2 := HX.out.2.1.below hb2 HX.out.2.1.lt
  have HX2 := hid (⟨hb02, hB2⟩ : _ ∧ _)
  clear hb2 hb02 hB2
  go_wp2_with fail
  (with_reducible refine HS2.out.mono ?_)
  rintro r W3 ⟨O3, rfl, hF3, hk3, hg3⟩
  have hB3 := HX2.out.2.kp hk3 HX.out.2.2.1
  have a2 : W3.cell? ⟨w.heap.size, 2, none⟩ = some (.float .f64 e.t) := hB3.cell 2
  have a3 : W3.cell? ⟨w.heap.size, 3, none⟩ = some (.int .i64 e.src) := hB3.cell 3
  have a4 : W3.cell? ⟨w.heap.size, 4, none⟩ = some (.int .i64 e.n) := hB3.cell 4
  have a5 : W3.cell? ⟨w.heap.size, 5, none⟩ = some (.int .i64 e.dst) := hB3.cell 5
  have a6 : W3.cell? ⟨w.heap.size, 6, none⟩ = some (.int .i64 e.pay) := hB3.cell 6
  have a7 : W3.cell? ⟨w.heap.size, 7, none⟩ = some (.bool a) := hB3.cell 7
  have HP3 := hid (HP.out W3 ((HX.out.2.2.2.1.below HX2.out.1).kp hk3 HX.out.2.2.2.2.1))
  have H3 := hid (⟨hF3, hk3, hg3⟩ : _ ∧ _ ∧ _)
  clear hF3 hk3 hg3 hB3
  go_wp2_with fail
  (with_reducible refine HP3.out.mono ?_)
  rintro r W4 ⟨v', rfl, hO4, hb4⟩
  obtain ⟨p', c', rfl⟩ := own_slice2 hO4
  have H4 := hid (⟨hO4, hb4⟩ : _ ∧ _)
  clear hO4 hb4 a2 a3 a4 a5 a6 a7
  go_wp2
  go_ret2
  obtain ⟨hF3, hk3, hg3⟩ := H3.out
  obtain ⟨hO4, hb4⟩ := H4.out
  refine ⟨O3, _, _, N + 2, n + 1, rfl, hF3.below hb4, Vw.of_own msgC_len hO4 (by simp), fun b hb hm => ?_, (Kp.of_below HX2.out.1).trans (hk3.trans (Kp.of_below hb4)), hg3.mono HX2.out.1.size, Nat.le_refl _, Nat.le_refl _, by simp⟩
  have h1 := (hO4.lt b hb).1
  have h2 := hF3.lts b (by simp [hm])
  omega
set_option maxHeartbeats 8000000 in
theorem do22_bad (h : FlI w fb s O N n l) (hv : Vw 6 msgC w v l) (hvo : ∀ b, v.ownBlock = some b → b ∉ O) (k i : Int) (hk : 0 ≤ k ∧ k < 3) (e : Ev) (a : Bool) (hr : ¬ e.right) :
    Calls Tryz.prog 56 #[.pointer (some ⟨fb, 0, none⟩), v, .agg (actC k i e a)] w fun r w' => DoPost w fb s O N n l r w' := by
  obtain ⟨p, c, rfl, hc⟩ := hv.slice
  unfold actC
  obtain ⟨W1, hW1⟩ : ∃ W1, W1 = w.alloc (.cells #[.int .i64 k, .int .i64 i, .float .f64 e.t, .int .i64 e.src, .int .i64 e.n, .int .i64 e.dst, .int .i64 e.pay, .bool a] 118) := ⟨_, rfl⟩
  have hb1 : Below w.heap.size w W1 := by rw [hW1]; exact (Below.refl _ w).alloc (Nat.le_refl _) _
  have hB1 : Blk W1 w.heap.size 118 #[.int .i64 k, .int .i64 i, .float .f64 e.t, .int .i64 e.src, .int .i64 e.n, .int .i64 e.dst, .int .i64 e.pay, .bool a] := by rw [hW1]; exact Blk.new w _ _
  have HM := hid (msg22_any e a W1)
  have HS := hid (fun W => fsend_no ⟨fb, 0, none⟩ e a hr W)
  unfold msgV at HM HS
  rw [hW1] at HM
  have HP := hid (fun W => put22_no p l.length c e a hr W)
  unfold msgV at HP
  obtain ⟨nl, hnl⟩ : ∃ nl, nl = l.length := ⟨_, rfl⟩
  rw [← hnl] at hv hvo HP ⊢
  have HX := hid (⟨hb1, hB1, h, hv, hvo⟩ : _ ∧ _ ∧ _ ∧ _ ∧ _)
  have HW1 := hid hW1
  obtain ⟨hk0, hk1⟩ := hk
  clear h hv hvo hr hb1 hB1 hW1 hnl hc
  go_enter Tryz.func56, Tryz.ntmps56
  go_wp2_with fail
  (with_reducible refine HM.out.mono ?_)
  rintro r W2 ⟨rfl, hb2⟩
  rw [← HW1.out] at hb2
  go_wp2_with fail
  (with_reducible refine (HS.out W2).mono ?_)
  rintro r W3 ⟨rfl, hb3⟩
  have hb13 := hb2.trans (hb3.mono hb2.size)
  have hB3 := HX.out.2.1.below hb13 HX.out.2.1.lt
  have a2 : W3.cell? ⟨w.heap.size, 2, none⟩ = some (.float .f64 e.t) := hB3.cell 2
  have a3 : W3.cell? ⟨w.heap.size, 3, none⟩ = some (.int .i64 e.src) := hB3.cell 3
  have a4 : W3.cell? ⟨w.heap.size, 4, none⟩ = some (.int .i64 e.n) := hB3.cell 4
  have a5 : W3.cell? ⟨w.heap.size, 5, none⟩ = some (.int .i64 e.dst) := hB3.cell 5
  have a6 : W3.cell? ⟨w.heap.size, 6, none⟩ = some (.int .i64 e.pay) := hB3.cell 6
  have a7 : W3.cell? ⟨w.heap.size, 7, none⟩ = some (.bool a) := hB3.cell 7
  have H3 := hid (HX.out.1.trans (hb13.mono HX.out.1.size))
  clear hb2 hb3 hb13 hB3
  go_wp2_with fail
  (with_reducible refine (HP.out W3).mono ?_)
  rintro r W4 ⟨rfl, hb4⟩
  have H4 := hid (H3.out.trans (hb4.mono H3.out.size))
  clear hb4 a2 a3 a4 a5 a6 a7
  go_wp2
  go_ret2
  exact ⟨O, _, l, N, n, rfl, HX.out.2.2.1.below H4.out, HX.out.2.2.2.1.below H4.out, HX.out.2.2.2.2, Kp.of_below H4.out, Gr.refl _ _, by omega, by omega, by omega⟩
end
end Go.Proofs.YtnnghcooidjlhaaGreat
end
section
set_option linter.unusedSimpArgs false
set_option linter.unusedVariables false
set_option maxRecDepth 100000
namespace Go.Proofs.YtnnghcooidjlhaaGreat
open Go.RowKit Go.Lib
section
variable {w : World} {fb : Nat} {s : SL} {O : List Nat} {N n : Nat} {l : List Fl} {v : Value}
set_option maxHeartbeats 8000000 in
theorem do22_no (h : FlI w fb s O N n l) (hv : Vw 6 msgC w v l) (hvo : ∀ b, v.ownBlock = some b → b ∉ O) (hl : l.length ≤ 100) (k i : Int) (hk : k < 0 ∨ 3 ≤ k) (hi : i < 0 ∨ (l.length : Int) ≤ i) (e : Ev) (a : Bool) :
    Calls Tryz.prog 56 #[.pointer (some ⟨fb, 0, none⟩), v, .agg (actC k i e a)] w fun r w' => DoPost w fb s O N n l r w' := by
  obtain ⟨p, c, rfl, hc⟩ := hv.slice
  unfold actC
  obtain ⟨W1, hW1⟩ : ∃ W1, W1 = w.alloc (.cells #[.int .i64 k, .int .i64 i, .float .f64 e.t, .int .i64 e.src, .int .i64 e.n, .int .i64 e.dst, .int .i64 e.pay, .bool a] 118) := ⟨_, rfl⟩
  have hb1 : Below w.heap.size w W1 := by rw [hW1]; exact (Below.refl _ w).alloc (Nat.le_refl _) _
  have hB1 : Blk W1 w.heap.size 118 #[.int .i64 k, .int .i64 i, .float .f64 e.t, .int .i64 e.src, .int .i64 e.n, .int .i64 e.dst, .int .i64 e.pay, .bool a] := by rw [hW1]; exact Blk.new w _ _
  have HT := hid (ftake_no (h.below hb1) (by omega) i hi)
  have hno : w.heap.size ∉ O := fun hm => by have := h.lts w.heap.size (by simp [hm]); omega
  unfold msg0 at HT
  rw [hW1] at HT
  obtain ⟨nl, hnl⟩ : ∃ nl, nl = l.length := ⟨_, rfl⟩
  rw [← hnl] at hv hvo hi ⊢
  have HX := hid (⟨hb1, hB1, hv, hvo, hno⟩ : _ ∧ _ ∧ _ ∧ _ ∧ _)
  have HW1 := hid hW1
  have hkk : ¬ 0 ≤ k ∨ (0 ≤ k ∧ ¬ k < 3) := by omega
  have hii : i < 0 ∨ (¬ i < 0 ∧ (nl : Int) ≤ i) := by omega
  clear h hv hvo hb1 hB1 hW1 hnl hc hno hk hi
  rcases hkk with hk0 | ⟨hk0, hk1⟩ <;> rcases hii with hi0 | ⟨hi0, hi1⟩
  all_goals
    go_enter Tryz.func56, Tryz.ntmps56
    go_wp2_with fail
    (with_reducible refine HT.out.mono ?_)
    rintro r W2 ⟨rfl, hF2, hk2⟩
    rw [← HW1.out] at hk2
    have hB2 := HX.out.2.1.kp hk2 HX.out.2.2.2.2
    obtain ⟨W3, hW3⟩ : ∃ W3, W3 = W2.alloc (.cells #[.float .f64 0, .int .i64 0, .int .i64 0, .int .i64 0, .int .i64 0, .bool false] 99) := ⟨_, rfl⟩
    have hb3 : Below W2.heap.size W2 W3 := by rw [hW3]; exact (Below.refl _ W2).alloc (Nat.le_refl _) _
    have hB3 := hB2.below hb3 hB2.lt
    have hM3 : Blk W3 W2.heap.size 99 #[.float .f64 0, .int .i64 0, .int .i64 0, .int .i64 0, .int .i64 0, .bool false] := by rw [hW3]; exact Blk.new W2 _ _
    obtain ⟨W4, hW4⟩ : ∃ W4, W4 = (W3.alloc (.cells #[.float .f64 0, .int .i64 0, .int .i64 0, .int .i64 0, .int .i64 0, .bool false] 99)).alloc (.cells #[.float .f64 0, .int .i64 0, .int .i64 0, .int .i64 0, .int .i64 0, .bool false] 116) := ⟨_, rfl⟩
    have hb4 : Below W3.heap.size W3 W4 := by rw [hW4]; exact ((Below.refl _ W3).alloc (Nat.le_refl _) _).alloc (by simp) _
    have hM1 : Ms W4 (.slice (some ⟨W3.heap.size, 0, none⟩) 1 1) [fl0] := by
      refine Ms.one (t := 99) (x := fl0) ?_
      rw [hW4]
      exact (Blk.new W3 _ _).alloc _
    have hM2 : Ms W4 (.slice (some ⟨W3.heap.size + 1, 0, none⟩) 1 1) [fl0] := by
      refine Ms.one (t := 116) (x := fl0) ?_
      rw [hW4]
      have h1 := Blk.new (W3.alloc (.cells #[.float .f64 0, .int .i64 0, .int .i64 0, .int .i64 0, .int .i64 0, .bool false] 99)) 116 #[.float .f64 0, .int .i64 0, .int .i64 0, .int .i64 0, .int .i64 0, .bool false]
      rw [show (W3.alloc (.cells #[.float .f64 0, .int .i64 0, .int .i64 0, .int .i64 0, .int .i64 0, .bool false] 99)).heap.size = W3.heap.size + 1 by simp] at h1
      exact h1
    have HSM := hid (same22_any hM1 hM2 (by decide))
    rw [show W3.heap.size = W2.heap.size + 1 by rw [hW3]; simp, hW4, hW3] at HSM
    have a1 : W2.cell? ⟨w.heap.size, 1, none⟩ = some (.int .i64 i) := hB2.cell 1
    have hlt2 := hB2.lt
    have hk04 : Kp O w W4 := (Kp.of_below HX.out.1).trans (hk2.trans ((Kp.of_below hb3).trans (Kp.of_below hb4)))
    have H4 := hid (⟨(hF2.below hb3).below hb4, hk04⟩ : _ ∧ _)
    rw [hW3] at hW4
    have HW4 := hid hW4
    clear hF2 hk2 hB2 hb3 hB3 hM3 hW4 hb4 hM1 hM2 hk04 hW3
    go_wp2_with fail
    (with_reducible refine HSM.out.mono ?_)
    rintro r W5 ⟨rfl, hb5⟩
    rw [← HW4.out] at hb5
    have H5 := hid (⟨H4.out.1.below hb5, H4.out.2.trans (Kp.of_below hb5)⟩ : _ ∧ _)
    clear hb5
    go_wp2
    go_ret2
    exact ⟨O, _, l, N, n, rfl, H5.out.1, HX.out.2.2.1.kp H5.out.2 HX.out.2.2.2.1, HX.out.2.2.2.1, H5.out.2, Gr.refl _ _, by omega, by omega, by omega⟩
end
end Go.Proofs.YtnnghcooidjlhaaGreat
end
