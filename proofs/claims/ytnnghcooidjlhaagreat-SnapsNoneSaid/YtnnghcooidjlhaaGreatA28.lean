/- Parts of the proof: Yb Ya Yc Yd Ye. -/
import Derived.Deep.AppendSrc
import Derived.Deep.RegionHeld3
import Derived.Test.YtnnghcooidjlhaaGreatA06
import Derived.Test.YtnnghcooidjlhaaGreatA20
import Derived.Test.YtnnghcooidjlhaaGreatA21
import Derived.Test.YtnnghcooidjlhaaGreatA22
import Derived.Test.YtnnghcooidjlhaaGreatA23
import Derived.Test.YtnnghcooidjlhaaGreatA26
set_option linter.all false
section
set_option linter.unusedSimpArgs false
set_option linter.unusedVariables false
set_option maxRecDepth 100000
namespace Go.Proofs.YtnnghcooidjlhaaGreat
open Go.RowKit Go.Lib
structure Byr (B : Nat) (w : World) (v : Value) (l : Bs) : Prop where
  form : ∃ g c, v = .slice (some ⟨g, 0, none⟩) l.length c ∧ B ≤ g ∧ g < w.heap.size ∧ l.length ≤ c ∧ (∀ j u, (cB l)[j]? = some u → w.cell? ⟨g, j, none⟩ = some u) ∧ (∀ j, j < c → (w.cell? ⟨g, j, none⟩).isSome = true ∧ w.frozen? ⟨g, j, none⟩ = false)
theorem cB_len (l : Bs) : (cB l).length = l.length := by simp [cB]
theorem Byr.below {B : Nat} {w w' : World} {v : Value} {l : Bs} (h : Byr B w v l) (hb : Below w.heap.size w w') : Byr B w' v l := by
  obtain ⟨g, c, e, h1, h2, h3, h4, h5⟩ := h.form
  refine ⟨g, c, e, h1, Nat.lt_of_lt_of_le h2 hb.size, h3, fun j u hu => (World.cell?_of_block (a := ⟨g, j, none⟩) (hb.block g h2)).trans (h4 j u hu), fun j hj => ?_⟩
  rw [World.cell?_of_block (a := ⟨g, j, none⟩) (hb.block g h2), World.frozen?_of_block (a := ⟨g, j, none⟩) (hb.block g h2)]
  exact h5 j hj
theorem Byr.string {B : Nat} {w : World} {v : Value} {l : Bs} (h : Byr B w v l) : (convert 129 9 v).run Tryz.prog w = .ok (.string (S l)) w := by
  obtain ⟨g, c, rfl, _, _, _, h4, _⟩ := h.form
  exact cells_string l (fun j u hu => by rw [Addr.add_mid, Nat.zero_add]; exact h4 j u hu) rfl
theorem byr_of (w : World) (l : Bs) : ∃ v W, (convert 9 129 (.string (S l))).run Tryz.prog w = .ok v W ∧ Byr w.heap.size W v l ∧ Below w.heap.size w W := by
  have h := Go.Lib.run_convert_string_bytes (P := Tryz.prog) w 9 129 5 (S l) Tryz.underlying9 Tryz.underlying129 Tryz.underlying5
  have hsz : (bytesCells w 5 (S l)).size = grownCap w (S l).size 0 5 := by
    unfold bytesCells
    have := grownCap_ge w (S l).size 0 5
    have h1 : (S l).data.size = (S l).size := rfl
    rw [Array.size_append, Array.size_map, Array.size_replicate, h1]
    omega
  have hge := grownCap_ge w (S l).size 0 5
  rw [S_size] at h hge hsz
  refine ⟨_, _, h, ⟨_, _, rfl, Nat.le_refl _, by rw [bytesWorld_size]; omega, hge, fun j u hu => ?_, fun j hj => ⟨?_, ?_⟩⟩, Go.Joins.below_bytesWorld _ _ _ _ (Nat.le_refl _)⟩
  · have hj : j < l.length := by have := (List.getElem?_eq_some_iff.1 hu).1; rwa [cB_len] at this
    rw [bytesWorld_cell w 5 (S l) j (by rw [S_size]; exact hj), show (S l).data.toList = l by simp [S], ← hu]
    simp [cB, List.getD, hj]
  · unfold World.cell?
    simp only [bytesWorld_at_new]
    rw [Array.getElem?_eq_getElem (by rw [hsz]; exact hj)]
    rfl
  · unfold World.frozen?
    simp only [bytesWorld_at_new, Bool.and_eq_false_iff, decide_eq_false_iff_not]
    left
    rw [hsz]; omega
theorem run_app_byr {w : World} {B : Nat} {v : Value} {l : Bs} (x : Bs) (hv : Byr B w v l) (hB : B ≤ w.heap.size) (hl : l.length + x.length ≤ 1000000) (ty : TypeId) :
    ∃ v' w', (Builtin.append_ #[129, 9] ty #[v, .string (S x)]).run Tryz.prog w = .ok v' w' ∧ Byr B w' v' (l ++ x) ∧ Below B w w' := by
  obtain ⟨g, c, rfl, h1, h2, h3, h4, h5⟩ := hv.form
  obtain ⟨i0, hi0, hz0, hz1, hz2⟩ := info_parts inf5
  have hsrc := Src.ofString (P := Tryz.prog) w (tx := 9) Tryz.underlying9 (S x)
  have hbc : byteCells (S x) = cB x := by unfold byteCells cB; simp [S]
  rw [hbc, S_size] at hsrc
  by_cases hroom : l.length + x.length ≤ c
  · have hr := run_append_room_src (P := Tryz.prog) w 129 9 ty 5 i0 Tryz.underlying129 hi0 g 0 l.length c (.string (S x)) x.length (cB x) (by rw [hz1]; exact hsrc) hroom
      (fun j hj => by rw [hz1]; exact (h5 _ (by rw [cB_len] at hj; omega)).1) (fun j hj => by rw [hz1]; exact (h5 _ (by rw [cB_len] at hj; omega)).2)
    rw [hz1, Nat.mul_one, Nat.zero_add] at hr
    have hsome : ∀ j, j < (cB x).length → (w.cell? ⟨g, l.length + j, none⟩).isSome = true := fun j hj => (h5 _ (by rw [cB_len] at hj; omega)).1
    refine ⟨_, _, hr, ⟨g, c, by rw [List.length_append], h1, ?_, by rw [List.length_append]; exact hroom, fun j u hu => ?_, fun j hj => ⟨?_, ?_⟩⟩, ?_⟩
    · exact Nat.lt_of_lt_of_le h2 (kp_setCells g (cB x) l.length w).size
    · have hcb : cB (l ++ x) = cB l ++ cB x := by simp [cB]
      rw [hcb] at hu
      by_cases hj : j < l.length
      · rw [World.cell?_setCells_out g (cB x) l.length w _ (fun _ _ => by simp; omega)]
        rw [List.getElem?_append_left (by rw [cB_len]; exact hj)] at hu
        exact h4 j u hu
      · rw [List.getElem?_append_right (by rw [cB_len]; omega), cB_len] at hu
        have hlt := (List.getElem?_eq_some_iff.1 hu).1
        have := World.cell?_setCells_in g (cB x) l.length w hsome (j - l.length) hlt
        rw [show l.length + (j - l.length) = j by omega] at this
        rw [this, ← hu, List.getElem?_eq_getElem hlt]
    · by_cases hin : l.length ≤ j ∧ j < l.length + (cB x).length
      · have := World.cell?_setCells_in g (cB x) l.length w hsome (j - l.length) (by omega)
        rw [show l.length + (j - l.length) = j by omega] at this
        rw [this]; rfl
      · rw [cB_len] at hin
        rw [World.cell?_setCells_out g (cB x) l.length w _ (fun _ _ => by rw [cB_len]; show j < l.length ∨ l.length + x.length ≤ j; omega)]
        exact (h5 j hj).1
    · rw [World.frozen?_setCells]; exact (h5 j hj).2
    · exact (kp_setCells g (cB x) l.length w).to_below hB (fun b hb => by rw [List.mem_singleton.1 hb]; exact h1)
  · have hold : (Builtin.firstCells i0.size l.length (.slice (some ⟨g, 0, none⟩) l.length c)).run Tryz.prog w.drew = .ok (cB l).toArray w.drew := by
      rw [hz1]
      exact run_firstCells_some w.drew 1 l.length ⟨g, 0, none⟩ l.length c (cB l) (by rw [cB_len, Nat.mul_one]) (fun j u hu => by rw [Addr.add_mid, Nat.zero_add]; exact h4 j u hu)
    have hr := run_append_grow_src (P := Tryz.prog) w 129 9 ty 5 i0 _ Tryz.underlying129 hi0 hz0 (some ⟨g, 0, none⟩) l.length c (cB l) hold (.string (S x)) x.length (cB x) (by rw [hz1]; exact hsrc) (by omega) (by omega)
      (growslice_fits (by omega) (by rw [hz2]; omega))
    have hge := grownCap_ge w (l.length + x.length) c 5
    refine ⟨_, _, hr, ⟨w.heap.size, _, by rw [List.length_append], hB, by simp, by rw [List.length_append]; exact hge, fun j u hu => ?_, fun j hj => ⟨?_, World.frozen?_alloc_new w.drew _ _ j⟩⟩, ?_⟩
    · have e1 := World.cell?_alloc_new w.drew (((cB l ++ cB x).toArray ++ Builtin.zeroCells (Value.int .u8 0).cells (grownCap w (l.length + x.length) c 5 - (l.length + x.length)))) 5 j
      have hcb : cB (l ++ x) = cB l ++ cB x := by simp [cB]
      rw [hcb] at hu
      refine e1.trans ?_
      rw [Array.getElem?_append_left (by simpa using (List.getElem?_eq_some_iff.1 hu).1), List.getElem?_toArray]
      exact hu
    · have e1 := World.cell?_alloc_new w.drew (((cB l ++ cB x).toArray ++ Builtin.zeroCells (Value.int .u8 0).cells (grownCap w (l.length + x.length) c 5 - (l.length + x.length)))) 5 j
      have e2 : (w.drew.alloc (.cells (((cB l ++ cB x).toArray ++ Builtin.zeroCells (Value.int .u8 0).cells (grownCap w (l.length + x.length) c 5 - (l.length + x.length)))) 5)).cell? ⟨w.heap.size, j, none⟩ = _ := e1
      rw [e2, Array.getElem?_eq_getElem (by
        rw [Array.size_append, size_zeroCells]
        simp [cB, Value.cells]
        omega)]
      rfl
    · exact (below_drewN (Below.refl B w) 1).alloc hB _
end Go.Proofs.YtnnghcooidjlhaaGreat
end
section
set_option linter.unusedSimpArgs false
set_option linter.unusedVariables false
namespace Go.Proofs.YtnnghcooidjlhaaGreat
structure Sn where
  k : Bs
  st : Sta
def Sta.ok (s : Sta) : Prop := ∀ x ∈ s.words, -9223372036854775808 ≤ x ∧ x < 9223372036854775808
def snP (l : List Sn) : List KV := l.map fun x => (x.k, staB x.st)
structure SnM (M : List KV) (lp : Int) (l : List Sn) : Prop where
  part : partM M (hdP 3 lp) = snP l
  ok : ∀ x ∈ l, x.k.length ≤ 29 ∧ x.st.right ∧ x.st.ok
def setS (l : List Sn) (x : Sn) : List Sn := l.filter (fun y => decide (y.k < x.k)) ++ x :: l.filter (fun y => decide (x.k < y.k))
def belowS (l : List Sn) (k : Bs) : List Sn := l.filter fun y => decide (y.k < k)
def fromS (l : List Sn) (k : Bs) : List Sn := l.filter fun y => !decide (y.k < k)
theorem snP_set (l : List Sn) (x : Sn) : snP (setS l x) = setM (snP l) x.k (staB x.st) := by
  unfold snP setS setM
  rw [List.map_append, List.map_cons, List.filter_map, List.filter_map]
  rfl
theorem mem_setS {l : List Sn} {x y : Sn} (h : y ∈ setS l x) : y = x ∨ y ∈ l := by
  unfold setS at h
  rcases List.mem_append.1 h with h | h
  · exact .inr ((List.mem_filter.1 h).1)
  · rcases List.mem_cons.1 h with h | h
    · exact .inl h
    · exact .inr ((List.mem_filter.1 h).1)
theorem setS_length (l : List Sn) (x : Sn) : (setS l x).length ≤ l.length + 1 := by
  unfold setS
  rw [List.length_append, List.length_cons]
  have : ∀ l : List Sn, (l.filter (fun y => decide (y.k < x.k))).length + (l.filter (fun y => decide (x.k < y.k))).length ≤ l.length := fun l => by
    induction l with
    | nil => simp
    | cons y t ih =>
      rw [List.filter_cons, List.filter_cons]
      by_cases h1 : y.k < x.k
      · have h2 : ¬ x.k < y.k := blt_asymm h1
        simp only [h1, h2, decide_true, decide_false, if_true, List.length_cons, Bool.false_eq_true, if_false]
        omega
      · by_cases h2 : x.k < y.k
        · simp only [h1, h2, decide_true, decide_false, if_true, List.length_cons, Bool.false_eq_true, if_false]
          omega
        · simp only [h1, h2, decide_false, List.length_cons, Bool.false_eq_true, if_false]
          omega
  have := this l
  omega
section
variable {M : List KV} {lp : Int} {l : List Sn}
theorem SnM.nil (lp : Int) : SnM [] lp [] := ⟨rfl, by simp⟩
theorem SnM.asc (h : SnM M lp l) (hM : AscM M) : l.Pairwise fun a b => a.k < b.k := by
  have := partM_asc hM (hdP 3 lp)
  rw [h.part] at this
  unfold AscM snP at this
  rw [List.pairwise_map] at this
  exact this
theorem SnM.set (h : SnM M lp l) (hM : AscM M) {x : Sn} (hx : x.k.length ≤ 29 ∧ x.st.right ∧ x.st.ok) : SnM (setM M (hdP 3 lp ++ x.k) (staB x.st)) lp (setS l x) := by
  refine ⟨by rw [setM_part (hdP_len 3 lp) hM, h.part, snP_set], fun y hy => ?_⟩
  rcases mem_setS hy with rfl | hy
  · exact hx
  · exact h.ok y hy
theorem SnM.other {q : Bs} (h : SnM M lp l) (hM : AscM M) (hq : q.length = 2) (hn : hdP 3 lp ≠ q) (k v : Bs) : SnM (setM M (q ++ k) v) lp l :=
  ⟨by rw [setM_other hq hM (hdP_len 3 lp) hn, h.part], h.ok⟩
theorem hdP_small {lp : Int} (h : 0 ≤ lp ∧ lp < 6) : ∃ y : UInt8, hdP 3 lp = [68, y] ∧ y.toNat < 255 := by
  refine ⟨UInt8.ofNat lp.toNat, rfl, ?_⟩
  simp
  omega
theorem part_len (h : SnM M lp l) (p : Bs → Bool) : ((partM M (hdP 3 lp)).filter fun a => p a.1).length = (l.filter fun y => p y.k).length := by
  rw [h.part]
  unfold snP
  rw [List.filter_map, List.length_map]
  rfl
theorem inR_from (k x : Bs) : inR k [] x = !decide (x < k) := by
  unfold inR
  by_cases h : x < k <;> simp [h]
theorem inR_below {k : Bs} (hk : k ≠ []) (x : Bs) : inR [] k x = decide (x < k) := by
  unfold inR
  by_cases h : x < k <;> simp [h, hk]
theorem SnM.clear (h : SnM M lp l) (hlp : 0 ≤ lp ∧ lp < 6) (fr to : Bs) : SnM (M.filter fun a => !inR (hdP 3 lp ++ fr) (toK (hdP 3 lp) to) a.1) lp (l.filter fun y => !inR fr to y.k) := by
  obtain ⟨y, e, hy⟩ := hdP_small hlp
  refine ⟨?_, fun x hx => h.ok x (List.mem_filter.1 hx).1⟩
  rw [e, clear_part hy, ← e, h.part]
  unfold snP
  rw [List.filter_map]
  rfl
theorem SnM.clear_far {lp' : Int} (h : SnM M lp l) (hlp : 0 ≤ lp' ∧ lp' < 6) (hn : hdP 3 lp ≠ hdP 3 lp') (fr to : Bs) : SnM (M.filter fun a => !inR (hdP 3 lp' ++ fr) (toK (hdP 3 lp') to) a.1) lp l := by
  obtain ⟨y, e, hy⟩ := hdP_small hlp
  refine ⟨?_, h.ok⟩
  rw [e] at hn ⊢
  have := clear_other (M := M) hy hn fr to
  rw [this, h.part]
theorem filter_from (l : List Sn) (k : Bs) : (l.filter fun y => !inR k [] y.k) = belowS l k := by
  unfold belowS
  congr 1
  funext y
  rw [inR_from]; simp
theorem filter_from' (l : List Sn) (k : Bs) : (l.filter fun y => inR k [] y.k) = fromS l k := by
  unfold fromS
  congr 1
  funext y
  rw [inR_from]
theorem filter_below (l : List Sn) {k : Bs} (hk : k ≠ []) : (l.filter fun y => !inR [] k y.k) = fromS l k := by
  unfold fromS
  congr 1
  funext y
  rw [inR_below hk]
theorem filter_below' (l : List Sn) {k : Bs} (hk : k ≠ []) : (l.filter fun y => inR [] k y.k) = belowS l k := by
  unfold belowS
  congr 1
  funext y
  rw [inR_below hk]
theorem SnM.last (h : SnM M lp l) {k : Bs} (hk : k ≠ []) : lastP (partM M (hdP 3 lp)) [] k = ((belowS l k).getLast?).map fun x => (x.k, staB x.st) := by
  unfold lastP
  rw [h.part, ← filter_below' l hk]
  unfold snP
  rw [List.filter_map, List.getLast?_map]
  rfl
theorem SnM.scan (h : SnM M lp l) (hl : l.length ≤ 1000) : scanM (partM M (hdP 3 lp)) [] [] 1099511627776 = snP l := by
  unfold scanM
  rw [h.part, List.filter_eq_self.2, List.take_of_length_le]
  · simp [snP]; omega
  · intro a _; simp [inR]
end
/-! the reference's Put, in its order -/
def putF (x : Sn) (s : Bool × List Sn) (y : Sn) : Bool × List Sn :=
  let s1 := if s.1 = false ∧ ¬ y.k < x.k then (true, s.2 ++ [x]) else s
  if y.k = x.k then s1 else (s1.1, s1.2 ++ [y])
def putE (x : Sn) (s : Bool × List Sn) : List Sn := if s.1 = true then s.2 else s.2 ++ [x]
theorem foldl_true (x : Sn) : ∀ (l acc : List Sn), l.foldl (putF x) (true, acc) = (true, acc ++ l.filter fun y => decide (y.k ≠ x.k))
  | [], acc => by simp
  | y :: t, acc => by
    rw [List.foldl_cons]
    by_cases h : y.k = x.k
    · rw [show putF x (true, acc) y = (true, acc) by simp [putF, h], foldl_true x t, List.filter_cons_of_neg (by simp [h])]
    · rw [show putF x (true, acc) y = (true, acc ++ [y]) by simp [putF, h], foldl_true x t, List.filter_cons_of_pos (by simp [h])]
      simp
theorem putE_fold (x : Sn) : ∀ (l acc : List Sn), (l.Pairwise fun a b => a.k < b.k) → putE x (l.foldl (putF x) (false, acc)) = acc ++ setS l x
  | [], acc, _ => by simp [putE, setS]
  | y :: t, acc, h => by
    rw [List.pairwise_cons] at h
    rw [List.foldl_cons]
    by_cases h1 : y.k < x.k
    · have hne : y.k ≠ x.k := fun e => by rw [e] at h1; exact blt_irrefl _ h1
      rw [show putF x (false, acc) y = (false, acc ++ [y]) by simp [putF, h1, hne], putE_fold x t _ h.2]
      unfold setS
      rw [List.filter_cons_of_pos (by simpa using h1), List.filter_cons_of_neg (by simpa using blt_asymm h1)]
      simp
    · have ht : ∀ z ∈ t, x.k < z.k := fun z hz => by
        have := h.1 z hz
        rcases blt_tri x.k y.k with h2 | h2 | h2
        · exact blt_trans h2 this
        · rw [h2]; exact this
        · exact absurd h2 h1
      have f1 : t.filter (fun z => decide (z.k < x.k)) = [] := List.filter_eq_nil_iff.2 (fun z hz => by simpa using blt_asymm (ht z hz))
      have f2 : t.filter (fun z => decide (x.k < z.k)) = t := List.filter_eq_self.2 (fun z hz => by simpa using ht z hz)
      have f3 : t.filter (fun z => decide (z.k ≠ x.k)) = t := List.filter_eq_self.2 (fun z hz => by
        have := ht z hz
        simp only [ne_eq, decide_not, Bool.not_eq_true', decide_eq_false_iff_not]
        intro e
        rw [e] at this
        exact blt_irrefl _ this)
      unfold setS
      rw [List.filter_cons_of_neg (by simpa using h1), f1]
      by_cases h2 : y.k = x.k
      · rw [show putF x (false, acc) y = (true, acc ++ [x]) by simp [putF, h1, h2, blt_irrefl], foldl_true, f3]
        rw [List.filter_cons_of_neg (by rw [h2]; simp [blt_irrefl]), f2]
        simp [putE]
      · have h3 : x.k < y.k := by
          rcases blt_tri x.k y.k with h3 | h3 | h3
          · exact h3
          · exact absurd h3.symm h2
          · exact absurd h3 h1
        rw [show putF x (false, acc) y = (true, acc ++ [x] ++ [y]) by simp [putF, h1, h2], foldl_true, f3]
        rw [List.filter_cons_of_pos (by simpa using h3), f2]
        simp [putE]
end Go.Proofs.YtnnghcooidjlhaaGreat
end
section
set_option linter.unusedSimpArgs false
set_option linter.unusedVariables false
set_option maxRecDepth 100000
namespace Go.Proofs.YtnnghcooidjlhaaGreat
open Go.RowKit Go.Lib
theorem wpL_appByr {w : World} {ops : Array Oper} {rest : List Oper} {o : Oper} {a : Act} {Q : Exit → Act → World → Prop} (hgd : o.guard = none) (s x : Operand)
    (ho : o.op = .call { callee := .builtin .append, args := #[s, x], argTypes := #[129, 9] }) {B : Nat} {v : Value} {l y : Bs} (hv : Byr B w v l) (hB : B ≤ w.heap.size) (hl : l.length + y.length ≤ 1000000)
    (hs : a.eval s = v) (hx : a.eval x = .string (S y)) (h : ∀ v' w', Byr B w' v' (l ++ y) → Below B w w' → wpList Tryz.prog ops Q rest (a.put o.dst v') w') : wpList Tryz.prog ops Q (o :: rest) a w := by
  refine wpList_plain hgd fun K hK => ?_
  obtain ⟨v', w', hr, h2, h3⟩ := run_app_byr y hv hB hl o.type
  unfold Oper.wp execOp
  simp only [ho, resolve, invoke, builtin, Sem.run_bind, Sem.run_pure, Result.andThen_ok, List.map_toArray, List.map_cons, List.map_nil, hs, hx, hr]
  exact hK _ _ (h v' w' h2 h3)
theorem Byr.slice {B : Nat} {w : World} {v : Value} {l : Bs} (h : Byr B w v l) : ∃ p n c, v = .slice p n c := by
  obtain ⟨g, c, e, _⟩ := h.form
  exact ⟨_, _, _, e⟩
theorem count_yes (n : Int) (h : 0 ≤ n ∧ n ≤ 1099511627776) (w : World) : Calls Tryz.prog 127 #[.int .i64 n] w fun e w' => e = .returned (.bool true) ∧ w = w' := by
  obtain ⟨h0, h1⟩ := h
  go_enter Tryz.func127, Tryz.ntmps127
  go_wp2
  go_ret
  exact ⟨by simp [h0, h1], rfl⟩
theorem count_no (n : Int) (h : ¬ (0 ≤ n ∧ n ≤ 1099511627776)) (w : World) : Calls Tryz.prog 127 #[.int .i64 n] w fun e w' => e = .returned (.bool false) ∧ w = w' := by
  by_cases h0 : 0 ≤ n
  · have h1 : ¬ n ≤ 1099511627776 := fun h1 => h ⟨h0, h1⟩
    clear h
    go_enter Tryz.func127, Tryz.ntmps127
    go_wp2
    go_ret
    exact ⟨by simp [h0, h1], rfl⟩
  · clear h
    go_enter Tryz.func127, Tryz.ntmps127
    go_wp2
    go_ret
    exact ⟨by simp [h0], rfl⟩
def wC (z : Int) : List Value := [.int .i64 z]
theorem wC_len (z : Int) : (wC z).length = 1 := rfl
def staV (p : Option Addr) (n c : Nat) (s : Sta) : Value := .agg #[.slice p n c, .int .i64 s.sent, .int .i64 s.dice]
set_option maxHeartbeats 4000000 in
theorem putsta_no (p : Option Addr) (n c : Nat) (s : Sta) (hn : n = s.words.length) (h : ¬ s.right) (w : World) :
    Calls Tryz.prog 79 #[staV p n c s] w fun r w' => r = .returned (.tuple #[.string ⟨#[]⟩, .int .i64 2]) ∧ Below w.heap.size w w' := by
  unfold staV
  have HB := hid ((Below.refl _ w).alloc (Nat.le_refl _) (.cells #[.slice p n c, .int .i64 s.sent, .int .i64 s.dice] 29))
  have hcase : (8 < n) ∨ (¬ 8 < n ∧ ¬ (0 ≤ s.sent ∧ s.sent ≤ 1099511627776)) ∨ (¬ 8 < n ∧ (0 ≤ s.sent ∧ s.sent ≤ 1099511627776) ∧ ¬ (0 ≤ s.dice ∧ s.dice ≤ 1099511627776)) := by
    unfold Sta.right at h
    omega
  clear h hn
  rcases hcase with h0 | ⟨h0, h1⟩ | ⟨h0, h1, h2⟩
  · have h0i : (8 : Int) < (n : Int) := by omega
    go_enter Tryz.func79, Tryz.ntmps79
    go_wp2
    go_ret2
    exact ⟨rfl, HB.out⟩
  · have h0i : ¬ (8 : Int) < (n : Int) := by omega
    have HC := hid (fun W => count_no s.sent h1 W)
    clear h1
    go_enter Tryz.func79, Tryz.ntmps79
    go_wp2_with fail
    (with_reducible refine (HC.out _).mono ?_)
    rintro r w1 ⟨rfl, rfl⟩
    go_wp2
    go_ret2
    exact ⟨rfl, HB.out⟩
  · have h0i : ¬ (8 : Int) < (n : Int) := by omega
    have HC := hid (fun W => count_yes s.sent h1 W)
    have HD := hid (fun W => count_no s.dice h2 W)
    clear h1 h2
    go_enter Tryz.func79, Tryz.ntmps79
    go_wp2_with fail
    (with_reducible refine (HC.out _).mono ?_)
    rintro r w1 ⟨rfl, rfl⟩
    go_wp2_with fail
    (with_reducible refine (HD.out _).mono ?_)
    rintro r w1 ⟨rfl, rfl⟩
    go_wp2
    go_ret2
    exact ⟨rfl, HB.out⟩
set_option maxHeartbeats 8000000 in
theorem putsta_any {w : World} {p : Option Addr} {n c : Nat} {s : Sta} (hv : Vw 1 wC w (.slice p n c) s.words) (hn : n = s.words.length) (h : s.right) (ho : s.ok) :
    Calls Tryz.prog 79 #[staV p n c s] w fun r w' => r = .returned (.tuple #[.string (S (staB s)), .int .i64 0]) ∧ Below w.heap.size w w' := by
  unfold staV
  obtain ⟨h0, h1, h2, h3, h4⟩ := h
  obtain ⟨W1, hW1⟩ : ∃ W1, W1 = w.alloc (.cells #[.slice p n c, .int .i64 s.sent, .int .i64 s.dice] 29) := ⟨_, rfl⟩
  have hb1 : Below w.heap.size w W1 := by rw [hW1]; exact (Below.refl _ w).alloc (Nat.le_refl _) _
  have hB1 : Blk W1 w.heap.size 29 #[.slice p n c, .int .i64 s.sent, .int .i64 s.dice] := by rw [hW1]; exact Blk.new w _ _
  have hs1 : W1.heap.size = w.heap.size + 1 := by rw [hW1]; simp
  have HC := hid (count_yes s.sent ⟨h1, h2⟩ W1)
  have HD := hid (count_yes s.dice ⟨h3, h4⟩ W1)
  have HONE := hid (one_any (n : Int) (by omega) W1)
  rw [hW1] at HC HD HONE
  have hn8 : ¬ (8 : Int) < (n : Int) := by omega
  have hn8' : (n : Int) ≤ 8 := by omega
  have HX := hid (⟨hb1, hB1, hv, hn, ho, hs1⟩ : _ ∧ _ ∧ _ ∧ _ ∧ _ ∧ _)
  have HW1 := hid hW1
  have HP := hid (fun (z : Int) (hz : -9223372036854775808 ≤ z ∧ z < 9223372036854775808) W => packI_any z W hz.1 hz.2)
  clear hv hn h0 ho hb1 hB1 hW1 hs1
  go_enter Tryz.func79, Tryz.ntmps79
  go_wp2_with fail
  (with_reducible refine HC.out.mono ?_)
  rintro r w1 ⟨rfl, rfl⟩
  go_wp2_with fail
  (with_reducible refine HD.out.mono ?_)
  rintro r w1 ⟨rfl, rfl⟩
  go_wp2_with fail
  (with_reducible refine HONE.out.mono ?_)
  rintro r W2 ⟨rfl, hb2⟩
  rw [← HW1.out] at hb2
  obtain ⟨v3, W3, hcv, hby, hb3⟩ := byr_of W2 (oneB n)
  obtain ⟨p3, n3, c3, rfl⟩ := hby.slice
  have hb13 := hb2.trans (hb3.mono hb2.size)
  have hB3 := HX.out.2.1.below hb13 HX.out.2.1.lt
  have d0 : W3.cell? ⟨w.heap.size, 0, none⟩ = some (.slice p n c) := hB3.cell 0
  have H3 := hid (⟨hby, hb13, hb2.size⟩ : _ ∧ _ ∧ _)
  clear hby hb2 hb3 hb13 hB3
  go_wp2
  obtain ⟨B, hBd⟩ : ∃ B, B = W2.heap.size := ⟨_, rfl⟩
  rw [← hBd] at H3
  clear hBd
  have HI0 : Hid (Byr B W3 (.slice p3 n3 c3) (oneB n ++ wordsB (s.words.take 0)) ∧ Below W1.heap.size W1 W3 ∧ B ≤ W3.heap.size) := hid ⟨by simpa [wordsB] using H3.out.1, H3.out.2.1, by obtain ⟨g, c, _, g1, g2, _⟩ := H3.out.1.form; omega⟩
  go_loopg [4, 31] n (fun gg s4 s31 wr => ∃ (j : Nat) (p' : Option Addr) (n' c' : Nat), j ≤ n ∧ n - j ≤ gg ∧ s31 = .int .i64 j ∧ s4 = .slice p' n' c' ∧ Hid (Byr B wr (.slice p' n' c') (oneB n ++ wordsB (s.words.take j)) ∧ Below W1.heap.size W1 wr ∧ B ≤ wr.heap.size))
  case atStart => exact ⟨0, _, _, _, by omega, by omega, rfl, rfl, HI0⟩
  case round =>
    obtain ⟨j, p', n', c', hj, hgg, rfl, rfl, HI⟩ := hrel
    by_cases hjn : j < n
    · obtain ⟨z, hz⟩ : ∃ z, s.words[j]? = some z := ⟨_, List.getElem?_eq_getElem (by rw [← HX.out.2.2.2.1]; exact hjn)⟩
      obtain ⟨b, off, cc, e, _, hbl, hcx⟩ := HX.out.2.2.1.ex (by intro h0; rw [h0] at hz; simp at hz)
      injection e with e1 e2 e3
      subst e1
      clear e2 e3
      have hbw : Below w.heap.size w wr := HX.out.1.trans (HI.out.2.1.mono HX.out.1.size)
      have m0 : wr.cell? ⟨b, off + j, none⟩ = some (.int .i64 z) := by
        have := hcx j z hz 0 _ rfl
        rw [Nat.mul_one, Nat.add_zero] at this
        exact (World.cell?_of_block (hbw.block b hbl)).trans this
      have HPZ := hid (HP.out z (HX.out.2.2.2.2.1 z (List.mem_of_getElem? hz)))
      have hst : oneB n ++ wordsB (s.words.take (j + 1)) = (oneB n ++ wordsB (s.words.take j)) ++ encI z := by
        rw [List.take_add_one, hz, Option.toList_some]
        simp [wordsB]
      have HST := hid hst
      have hji : (j : Int) < (n : Int) := by omega
      clear hz hbl hcx hbw hst
      go_wp2_with fail
      (with_reducible refine (HPZ.out _).mono ?_)
      rintro r W4 ⟨rfl, hb4⟩
      have hby4 := HI.out.1.below hb4
      have H4 := hid (⟨HI.out.2.1.trans (hb4.mono HI.out.2.1.size), Nat.le_trans HI.out.2.2 hb4.size⟩ : _ ∧ _)
      clear hb4
      go_wp2_with (with_reducible refine stopAt .append rfl ?_)
      with_reducible refine goOn ?_
      refine wpL_appByr rfl _ _ rfl hby4 H4.out.2 (by simp; have := HX.out.2.2.2.1; have := List.length_take_le j s.words; omega) rfl rfl ?_
      intro v5 W5 hby5 hb5
      rw [← HST.out] at hby5
      obtain ⟨p5, n5, c5, rfl⟩ := hby5.slice
      have HI5 : Hid (Byr B W5 (.slice p5 n5 c5) (oneB n ++ wordsB (s.words.take (j + 1))) ∧ Below W1.heap.size W1 W5 ∧ B ≤ W5.heap.size) := hid ⟨hby5, H4.out.1.trans (hb5.mono (by have := H3.out.2.2; omega)), Nat.le_trans H4.out.2 hb5.size⟩
      clear hby4 hby5 hb5
      go_wp2
      go_roundg (n - (j + 1))
      case measure => omega
      case rel => exact ⟨j + 1, p5, n5, c5, by omega, by omega, by go_num, rfl, HI5⟩
    · have hji : ¬ (j : Int) < (n : Int) := by omega
      have hjn' : j = n := by omega
      obtain ⟨L, hL⟩ : ∃ L, L = oneB n ++ wordsB s.words := ⟨_, rfl⟩
      have hby : Byr B wr (.slice p' n' c') L := by
        have := HI.out.1
        rwa [hjn', HX.out.2.2.2.1, List.take_length, ← HX.out.2.2.2.1, ← hL] at this
      have hLl : L.length ≤ 100 := by rw [hL]; simp; have := HX.out.2.2.2.1; omega
      have hst : staB s = L ++ encI s.sent ++ encI s.dice := by rw [hL]; unfold staB; rw [HX.out.2.2.2.1]
      have HST := hid hst
      have hB := HX.out.2.1.below HI.out.2.1 HX.out.2.1.lt
      have HCL : Hid (∀ W, BelC wr W → W.cell? ⟨w.heap.size, 1, none⟩ = some (.int .i64 s.sent) ∧ W.cell? ⟨w.heap.size, 2, none⟩ = some (.int .i64 s.dice) ∧ (convert 129 9 (.slice p' n' c')).run Tryz.prog W = .ok (.string (S L)) W) := hid fun W hW => by
        have h1 := hW.blk hB
        exact ⟨h1.cell 1, h1.cell 2, (hby.below hW.out).string⟩
      have H1 := hid (BelC.call (W1 := wr) (HP.out s.sent (by omega)))
      have H2 := hid (BelC.call (W1 := wr) (HP.out s.dice (by omega)))
      have HF : Hid (∀ W, BelC wr W → Below w.heap.size w W) := hid fun W hW => HX.out.1.trans ((HI.out.2.1.trans (hW.out.mono HI.out.2.1.size)).mono HX.out.1.size)
      have hc1 : ¬ 9223372036854775807 < L.length + 8 := by omega
      have hc2 : ¬ 9223372036854775807 < L.length + 8 + 8 := by omega
      have hc3 : ¬ 9223372036854775807 < L.length + 16 := by omega
      clear hjn' hL hby hLl hst hB
      go_wp2
      refine qC_region (by kernel_rfl) (by kernel_rfl) (BelC wr) (BelC.drew wr) ?_
      repeat (first | (refine qC_none rfl (fun K hK => ?_); apply Exists.intro; refine ⟨fun w0 hw0 => ?_, ?_⟩; (focus (obtain ⟨q0, q1, q2⟩ := HCL.out w0 hw0; go_simp; first | exact rfl | exact ⟨rfl, rfl⟩ | (first | exact H1.out w0 hw0 | exact H2.out w0 hw0))); go_simp; refine hK _ ?_; clear hK K) | (refine qC_yes _ _ _ rfl rfl (by rfl) (fun K hK => ?_); apply Exists.intro; refine ⟨fun w0 hw0 => ?_, ?_⟩; (focus (obtain ⟨q0, q1, q2⟩ := HCL.out w0 hw0; go_simp; first | exact rfl | exact ⟨rfl, rfl⟩ | (first | exact H1.out w0 hw0 | exact H2.out w0 hw0))); go_simp; refine hK _ ?_; clear hK K) | (refine qC_no _ _ _ rfl rfl (by rfl) (fun K hK => ?_); go_simp; refine hK _ ?_; clear hK K) | (refine qC_undef _ _ _ rfl rfl (by rfl) (fun K hK => ?_); go_simp; refine hK _ ?_; clear hK K))
      refine qC_nil ?_
      intro w5 hw5
      have HW5 := hid (HF.out w5 hw5)
      clear hw5
      go_wp2
      go_ret2
      exact ⟨by rw [HST.out, List.append_assoc]; rfl, HW5.out⟩
end Go.Proofs.YtnnghcooidjlhaaGreat
end
section
set_option linter.unusedSimpArgs false
set_option linter.unusedVariables false
set_option maxRecDepth 100000
namespace Go.Proofs.YtnnghcooidjlhaaGreat
open Go.RowKit Go.Lib
theorem wordsB_at : ∀ (l : List Int) (j : Nat) (z : Int) (rest : Bs), l[j]? = some z → ((wordsB l ++ rest).drop (8 * j)).take 8 = encI z
  | [], j, z, rest, h => by simp at h
  | x :: l, 0, z, rest, h => by
    simp at h; subst h
    rw [show wordsB (x :: l) = encI x ++ wordsB l from rfl, List.append_assoc, Nat.mul_zero, List.drop_zero, List.take_append_of_le_length (by simp), List.take_of_length_le (by simp)]
  | x :: l, j + 1, z, rest, h => by
    rw [show wordsB (x :: l) = encI x ++ wordsB l from rfl, List.append_assoc, List.drop_append, List.drop_eq_nil_of_le (by simp; omega), List.nil_append, encI_length, show 8 * (j + 1) - 8 = 8 * j by omega]
    exact wordsB_at l j z rest (by simpa using h)
theorem staB_word {s : Sta} {j : Nat} {z : Int} (h : s.words[j]? = some z) : ((staB s).drop (1 + 8 * j)).take 8 = encI z := by
  have := wordsB_at s.words j z (encI s.sent ++ encI s.dice) h
  unfold staB
  rw [List.append_assoc, List.append_assoc, List.drop_append, List.drop_eq_nil_of_le (by simp), List.nil_append, oneB_length, show 1 + 8 * j - 1 = 8 * j by omega]
  exact this
theorem staB_sent (s : Sta) : ((staB s).drop (1 + 8 * s.words.length)).take 8 = encI s.sent := by
  have := mid_eq (a := oneB s.words.length ++ wordsB s.words) (b := encI s.sent) (c := encI s.dice) (n := 1 + 8 * s.words.length) (m := 8) (by first | (simp; done) | (simp; omega)) (by simp)
  exact this
theorem staB_dice (s : Sta) : ((staB s).drop (1 + 8 * s.words.length + 8)).take 8 = encI s.dice := by
  have := mid_eq (a := oneB s.words.length ++ wordsB s.words ++ encI s.sent) (b := encI s.dice) (c := []) (n := 1 + 8 * s.words.length + 8) (m := 8) (by first | (simp; done) | (simp; omega)) (by simp)
  rwa [List.append_nil] at this
theorem staB_count {s : Sta} (h : s.words.length ≤ 8) : (((staB s).getD 0 0).toNat : Int) = (s.words.length : Int) := by
  unfold staB
  simp [List.getD, oneB]
  omega
theorem intC1 : (Tryz.prog.info? 3).map (fun i => (i.zero, i.size, i.bytes)) = some (some (.int .i64 0), 1, 8) := by kernel_rfl
theorem wC_one (z : Int) : ∀ u ∈ wC z, u.oneCell' = true := by
  intro u hu
  simp [wC] at hu
  rw [hu]; rfl
def GsI (w : World) (s : Sta) (j : Nat) (W : World) (v : Value) : Prop :=
  RdI W (w.heap.size + 1) (staB s) (1 + 8 * j) ∧ Blk W (w.heap.size + 2) 29 #[v, .int .i64 0, .int .i64 0] ∧ W.ownsRow (w.heap.size + 3) 3 1 v j (rowV wC (s.words.take j)) ∧
  Blk W w.heap.size 29 #[.slice none 0 0, .int .i64 0, .int .i64 0] ∧ Below w.heap.size w W
set_option maxHeartbeats 8000000 in
theorem getsta_any (s : Sta) (h : s.right) (ho : s.ok) (w : World) :
    Calls Tryz.prog 83 #[.string (S (staB s))] w fun r w' => ∃ p n c, r = .returned (.tuple #[staV p n c s, .int .i64 0]) ∧ n = s.words.length ∧ Vw 1 wC w' (.slice p n c) s.words ∧ (∀ b, (Value.slice p n c).ownBlock = some b → w.heap.size ≤ b) ∧ Below w.heap.size w w' := by
  obtain ⟨n, hn⟩ : ∃ n, n = s.words.length := ⟨_, rfl⟩
  have hlen : (staB s).length = 17 + 8 * n := by rw [hn]; simp
  have hn8 : n ≤ 8 := by rw [hn]; exact h.1
  have hcnt := staB_count h.1
  rw [← hn] at hcnt
  have HBY := hid (fun W (hW : RdI W (w.heap.size + 1) (staB s) 0) => rbyte_any hW (by omega) (by omega))
  rw [hcnt] at HBY
  obtain ⟨W3, hW3⟩ : ∃ W3, W3 = ((w.alloc (.cells #[.slice none 0 0, .int .i64 0, .int .i64 0] 29)).alloc (.cells #[.string (S (staB s)), .int .i64 0, .bool false] 246)).alloc (.cells #[.slice none 0 0, .int .i64 0, .int .i64 0] 29) := ⟨_, rfl⟩
  have hb3 : Below w.heap.size w W3 := by rw [hW3]; exact (((Below.refl _ w).alloc (Nat.le_refl _) _).alloc (by simp) _).alloc (by simp; omega) _
  have hX3 : Blk W3 (w.heap.size + 2) 29 #[.slice none 0 0, .int .i64 0, .int .i64 0] := by
    rw [hW3]
    have := Blk.new ((w.alloc (.cells #[.slice none 0 0, .int .i64 0, .int .i64 0] 29)).alloc (.cells #[.string (S (staB s)), .int .i64 0, .bool false] 246)) 29 #[.slice none 0 0, .int .i64 0, .int .i64 0]
    simpa using this
  have hR3 : RdI W3 (w.heap.size + 1) (staB s) 0 := by
    rw [hW3]
    have := (Blk.new (w.alloc (.cells #[.slice none 0 0, .int .i64 0, .int .i64 0] 29)) 246 #[.string (S (staB s)), .int .i64 0, .bool false]).alloc (.cells #[.slice none 0 0, .int .i64 0, .int .i64 0] 29)
    unfold RdI
    simpa using this
  have hB3 : Blk W3 w.heap.size 29 #[.slice none 0 0, .int .i64 0, .int .i64 0] := by
    rw [hW3]
    exact ((Blk.new w 29 #[.slice none 0 0, .int .i64 0, .int .i64 0]).alloc _).alloc _
  have HBY3 := hid (HBY.out W3 hR3)
  have hs3 : W3.heap.size = w.heap.size + 3 := by rw [hW3]; simp
  rw [hW3] at HBY3
  have HX := hid (⟨hb3, hX3, hB3, hs3⟩ : _ ∧ _ ∧ _ ∧ _)
  have HW3 := hid hW3
  have HS := hid (⟨h, ho, hn, hlen, hn8⟩ : _ ∧ _ ∧ _ ∧ _ ∧ _)
  clear h ho hn hlen hcnt HBY hW3 hb3 hX3 hR3 hB3 hs3
  unfold staV
  go_enter Tryz.func83, Tryz.ntmps83
  go_wp2_with fail
  (with_reducible refine HBY3.out.mono ?_)
  rintro r W4 ⟨rfl, hR4, hk4⟩
  rw [← HW3.out] at hk4
  have HI0 : Hid (GsI w s 0 W4 (.slice none 0 0)) := hid ⟨hR4, HX.out.2.1.kp hk4 (by simp), ⟨rfl, .inl ⟨rfl, rfl⟩⟩, HX.out.2.2.1.kp hk4 (by simp), HX.out.1.trans (hk4.to_below HX.out.1.size (fun x hx => by simp at hx; omega))⟩
  clear hR4 hk4
  go_wp2
  go_loopg [15] n (fun gg s15 wr => ∃ (j : Nat) (v : Value), j ≤ n ∧ n - j ≤ gg ∧ s15 = .int .i64 j ∧ Hid (GsI w s j wr v))
  case atStart => exact ⟨0, _, by omega, by omega, rfl, HI0⟩
  case round =>
    obtain ⟨j, v, hj, hgg, rfl, HI⟩ := hrel
    by_cases hjn : j < n
    · have hji : (j : Int) < (n : Int) := by omega
      obtain ⟨hR, hX, hO, hB, hb⟩ := HI.out
      obtain ⟨pa, pc, rfl⟩ := own_slice2 hO
      obtain ⟨z, hz⟩ : ∃ z, s.words[j]? = some z := ⟨_, List.getElem?_eq_getElem (by rw [← HS.out.2.2.1]; exact hjn)⟩
      have hzo := HS.out.2.1 z (List.mem_of_getElem? hz)
      have HINT := hid (fun W (hW : RdI W (w.heap.size + 1) (staB s) (1 + 8 * j)) => rint_any hW (by have := HS.out.2.2.2.1; omega) (by have := HS.out.2.2.2.1; have := HS.out.2.2.2.2; omega))
      rw [staB_word hz, decI_encI hzo.1 hzo.2] at HINT
      have c1 : wr.cell? ⟨w.heap.size + 2, 0, none⟩ = some (.slice pa j pc) := hX.cell 0
      have f1 := hX.frozen 0
      have hlt := hX.lt
      have hst : s.words.take (j + 1) = s.words.take j ++ [z] := by rw [List.take_add_one, hz]; rfl
      have HST := hid hst
      clear hR hX hO hB hb hz hzo hst
      go_wp2
      go_region_law (first
        | (refine step_app_one rfl _ _ 27 rfl wC intC1 Tryz.underlying27 rfl (by decide) (by decide) wC_len wC_one z (hOE : World.ownsRow _ _ _ _ _ _ _) (by have := HS.out.2.2.2.2; omega) hszE rfl rfl ?_; intro v' w5 hO5 hk5 hg5; obtain ⟨g2, c2, rfl, hg21, hg22, hg23⟩ := own_form hO5 (by omega); have hX5 := hXE.kp hk5 (fun hm => by have := (hOE.lt _ (Option.mem_toList.1 hm)).1; omega); have c5 := hX5.cell 0; have f5 := hX5.frozen 0; have l5 := hX5.lt)
        | (go_simp; refine (HINT.out _ (HI.out.1.drew)).mono ?_; rintro e wE ⟨rfl, hRE, hkE⟩; have hOE := row_of HI.out.2.2.1 (fun b hb => hkE.block b (HI.out.2.2.1.lt b hb).2 (fun hm => by have := (HI.out.2.2.1.lt b hb).1; simp at hm; omega)); have hXE := HI.out.2.1.drew.kp hkE (by simp); have hszE : w.heap.size + 3 ≤ wE.heap.size := Nat.le_trans (show w.heap.size + 3 ≤ wr.heap.size by omega) hkE.size; have cE := hXE.cell 0; have fE := hXE.frozen 0; have lE := hXE.lt; dsimp only)
        | (go_simp; refine (HINT.out _ HI.out.1).mono ?_; rintro e wE ⟨rfl, hRE, hkE⟩; have hOE := row_of HI.out.2.2.1 (fun b hb => hkE.block b (HI.out.2.2.1.lt b hb).2 (fun hm => by have := (HI.out.2.2.1.lt b hb).1; simp at hm; omega)); have hXE := HI.out.2.1.kp hkE (by simp); have hszE : w.heap.size + 3 ≤ wE.heap.size := Nat.le_trans (show w.heap.size + 3 ≤ wr.heap.size by omega) hkE.size; have cE := hXE.cell 0; have fE := hXE.frozen 0; have lE := hXE.lt; dsimp only))
      all_goals
        have hRE' : RdI w5 (w.heap.size + 1) (staB s) (1 + 8 * (j + 1)) := Blk.kp hRE hk5 (fun hm => by have := (hOE.lt _ (Option.mem_toList.1 hm)).1; omega)
        have hBE := (HI.out.2.2.2.1.drew.kp hkE (by simp)).kp hk5 (fun hm => by have := (hOE.lt _ (Option.mem_toList.1 hm)).1; omega)
        have hbE : Below w.heap.size w wE := (below_drewN HI.out.2.2.2.2 1).trans (hkE.to_below HI.out.2.2.2.2.size (fun x hx => by simp at hx; omega))
        have hb5 : Below w.heap.size w w5 := hbE.trans (hk5.to_below hbE.size (fun x hx => by have := (hOE.lt x (Option.mem_toList.1 hx)).1; omega))
        rw [← HST.out] at hO5
        have HI5 : Hid (GsI w s (j + 1) (w5.setCell ⟨w.heap.size + 2, 0, none⟩ (.slice (some ⟨g2, 0, none⟩) (j + 1) c2)) (.slice (some ⟨g2, 0, none⟩) (j + 1) c2)) := hid ⟨Blk.far hRE' (by show w.heap.size + 1 ≠ w.heap.size + 2; omega) _, by simpa using hX5.set_ 0 (.slice (some ⟨g2, 0, none⟩) (j + 1) c2), row_of hO5 (fun b hb => by
            simp [Value.ownBlock] at hb
            subst hb
            exact Below.heap_setCell _ _ _ _ (by show g2 ≠ w.heap.size + 2; have := hg21; omega)), Blk.far hBE (by show w.heap.size ≠ w.heap.size + 2; omega) _, hb5.setCell (by show w.heap.size ≤ w.heap.size + 2; omega) _⟩
        clear hRE' hBE hbE hb5 hO5 hk5 hg5 hX5 hOE hXE hRE hkE
        go_wp2
        go_roundg (n - (j + 1))
        case measure => omega
        case rel => exact ⟨j + 1, _, by omega, by omega, by go_num, HI5⟩
    · have hji : ¬ (j : Int) < (n : Int) := by omega
      have hjn' : j = n := by omega
      subst hjn'
      obtain ⟨hR, hX, hO, hB, hb⟩ := HI.out
      rw [HS.out.2.2.1, List.take_length, ← HS.out.2.2.1] at hO
      obtain ⟨pa, pc, rfl⟩ := own_slice2 hO
      have HI1 := hid (rint_any hR (by have := HS.out.2.2.2.1; omega) (by have := HS.out.2.2.2.1; have := HS.out.2.2.2.2; omega))
      rw [HS.out.2.2.1, staB_sent, decI_encI (by have := HS.out.1.2.1; omega) (by have := HS.out.1.2.2.1; omega), ← HS.out.2.2.1] at HI1
      have HI2 := hid (fun W (hW : RdI W (w.heap.size + 1) (staB s) (1 + 8 * j + 8)) => rint_any hW (by have := HS.out.2.2.2.1; omega) (by have := HS.out.2.2.2.1; have := HS.out.2.2.2.2; omega))
      rw [HS.out.2.2.1, staB_dice, decI_encI (by have := HS.out.1.2.2.2.1; omega) (by have := HS.out.1.2.2.2.2; omega), ← HS.out.2.2.1] at HI2
      have HC1 := hid (fun W => count_yes s.sent ⟨HS.out.1.2.1, HS.out.1.2.2.1⟩ W)
      have HC2 := hid (fun W => count_yes s.dice ⟨HS.out.1.2.2.2.1, HS.out.1.2.2.2.2⟩ W)
      have HEND := hid (fun W (hW : RdI W (w.heap.size + 1) (staB s) (staB s).length) => rend_any hW (by have := HS.out.2.2.2.1; have := HS.out.2.2.2.2; omega) true)
      rw [if_pos rfl] at HEND
      have hj8 : (j : Int) ≤ 8 := by have := HS.out.2.2.2.2; omega
      have HZ := hid (⟨hX, hO, hB, hb⟩ : _ ∧ _ ∧ _ ∧ _)
      clear hR hX hO hB hb
      go_wp2_with fail
      (with_reducible refine HI1.out.mono ?_)
      rintro r W5 ⟨rfl, hR5, hk5⟩
      have HI25 := hid (HI2.out W5 hR5)
      have H5 := hid hk5
      clear hR5 hk5
      go_wp2_with fail
      (with_reducible refine HI25.out.mono ?_)
      rintro r W6 ⟨rfl, hR6, hk6⟩
      obtain ⟨hX, hO, hB, hb⟩ := HZ.out
      have hk46 := H5.out.trans hk6
      have hX6 := hX.kp hk46 (by simp)
      have hB6 := hB.kp hk46 (by simp)
      have hO6 := row_of hO (fun b hb => hk46.block b (hO.lt b hb).2 (fun hm => by have := (hO.lt b hb).1; simp at hm; omega))
      have hb6 : Below w.heap.size w W6 := hb.trans (hk46.to_below hb.size (fun x hx => by simp at hx; omega))
      have x0 : W6.cell? ⟨w.heap.size + 2, 0, none⟩ = some (.slice pa j pc) := hX6.cell 0
      have x1 : W6.cell? ⟨w.heap.size + 2, 1, none⟩ = some (.int .i64 0) := hX6.cell 1
      have x2 : W6.cell? ⟨w.heap.size + 2, 2, none⟩ = some (.int .i64 0) := hX6.cell 2
      have f1 := hX6.frozen 1
      have f2 := hX6.frozen 2
      have hl6 := hX6.lt
      obtain ⟨W7, hW7⟩ : ∃ W7, W7 = (W6.setCell ⟨w.heap.size + 2, 1, none⟩ (.int .i64 s.sent)).setCell ⟨w.heap.size + 2, 2, none⟩ (.int .i64 s.dice) := ⟨_, rfl⟩
      have hR7 : RdI W7 (w.heap.size + 1) (staB s) (staB s).length := by
        rw [hW7, HS.out.2.2.2.1]
        have := (Blk.far hR6 (p := ⟨w.heap.size + 2, 1, none⟩) (by show w.heap.size + 1 ≠ w.heap.size + 2; omega) (.int .i64 s.sent)).far (p := ⟨w.heap.size + 2, 2, none⟩) (by show w.heap.size + 1 ≠ w.heap.size + 2; omega) (.int .i64 s.dice)
        unfold RdI
        rwa [show 1 + 8 * j + 8 + 8 = 17 + 8 * j by omega] at this
      have hX7 : Blk W7 (w.heap.size + 2) 29 #[.slice pa j pc, .int .i64 s.sent, .int .i64 s.dice] := by
        rw [hW7]
        simpa using (hX6.set_ 1 (.int .i64 s.sent)).set_ 2 (.int .i64 s.dice)
      have hB7 : Blk W7 w.heap.size 29 #[.slice none 0 0, .int .i64 0, .int .i64 0] := by
        rw [hW7]
        exact (hB6.far (p := ⟨w.heap.size + 2, 1, none⟩) (by show w.heap.size ≠ w.heap.size + 2; omega) _).far (p := ⟨w.heap.size + 2, 2, none⟩) (by show w.heap.size ≠ w.heap.size + 2; omega) _
      have hO7 : W7.ownsRow (w.heap.size + 3) 3 1 (.slice pa j pc) j (rowV wC s.words) := by
        rw [hW7]
        refine row_of hO6 (fun b hb => ?_)
        have := (hO6.lt b hb).1
        exact (Below.heap_setCell _ ⟨w.heap.size + 2, 2, none⟩ _ _ (by show b ≠ w.heap.size + 2; omega)).trans (Below.heap_setCell _ ⟨w.heap.size + 2, 1, none⟩ _ _ (by show b ≠ w.heap.size + 2; omega))
      have hb7 : Below w.heap.size w W7 := by rw [hW7]; exact (hb6.setCell (by show w.heap.size ≤ w.heap.size + 2; omega) _).setCell (by show w.heap.size ≤ w.heap.size + 2; omega) _
      have HE7 := hid (HEND.out W7 hR7)
      have H7 := hid (⟨hX7, hB7, hO7, hb7⟩ : _ ∧ _ ∧ _ ∧ _)
      rw [hW7] at HE7
      have HW7 := hid hW7
      clear hX hO hB hb hk46 hX6 hB6 hO6 hb6 hR6 hk6 hW7 hR7 hX7 hB7 hO7 hb7
      go_wp2_with (first
        | (go_at_call 127; refine (HC1.out _).mono ?_; rintro r w' ⟨rfl, rfl⟩)
        | (go_at_call 127; refine (HC2.out _).mono ?_; rintro r w' ⟨rfl, rfl⟩))
      (with_reducible refine HE7.out.mono ?_)
      rintro r W8 ⟨rfl, hb8⟩
      rw [← HW7.out] at hb8
      obtain ⟨hX7, hB7, hO7, hb7⟩ := H7.out
      have hX8 := hX7.below hb8 hX7.lt
      have hB8 := hB7.below hb8 hB7.lt
      have hO8 := row_of hO7 (fun b hb => hb8.block b (hO7.lt b hb).2)
      have hb08 := hb7.trans (hb8.mono hb7.size)
      have y0 : W8.cell? ⟨w.heap.size + 2, 0, none⟩ = some (.slice pa j pc) := hX8.cell 0
      have y1 : W8.cell? ⟨w.heap.size + 2, 1, none⟩ = some (.int .i64 s.sent) := hX8.cell 1
      have y2 : W8.cell? ⟨w.heap.size + 2, 2, none⟩ = some (.int .i64 s.dice) := hX8.cell 2
      have b0 : W8.cell? ⟨w.heap.size, 0, none⟩ = some (.slice none 0 0) := hB8.cell 0
      have b1 : W8.cell? ⟨w.heap.size, 1, none⟩ = some (.int .i64 0) := hB8.cell 1
      have b2 : W8.cell? ⟨w.heap.size, 2, none⟩ = some (.int .i64 0) := hB8.cell 2
      have bf0 := hB8.frozen 0
      have bf1 := hB8.frozen 1
      have bf2 := hB8.frozen 2
      have bl := hB8.lt
      have yl := hX8.lt
      have H8 := hid (⟨hB8, hO8, hb08⟩ : _ ∧ _ ∧ _)
      clear hX7 hB7 hO7 hb7 hX8 hB8 hO8 hb08 hb8 x0 x1 x2 f1 f2 hl6
      go_wp2
      have hr8 := (((H8.out.1.set_ 0 (.slice pa j pc)).set_ 1 (.int .i64 s.sent)).set_ 2 (.int .i64 s.dice))
      have v0 := hr8.cell 0
      have v1 := hr8.cell 1
      have v2 := hr8.cell 2
      simp only [List.setIfInBounds_toArray, List.set_cons_zero, List.set_cons_succ, List.getElem?_toArray, List.getElem?_cons_zero, List.getElem?_cons_succ] at v0 v1 v2
      refine bodyPost_ret (v := .tuple #[.agg #[.slice pa j pc, .int .i64 s.sent, .int .i64 s.dice], .int .i64 0]) (by simp [results, Tryz.results83, go_sem, v0, v1, v2]) rfl ?_
      have hO9 := row_of H8.out.2.1 (w' := ((W8.setCell ⟨w.heap.size, 0, none⟩ (.slice pa j pc)).setCell ⟨w.heap.size, 1, none⟩ (.int .i64 s.sent)).setCell ⟨w.heap.size, 2, none⟩ (.int .i64 s.dice)) (fun b hb => by
        have := (H8.out.2.1.lt b hb).1
        exact ((Below.heap_setCell _ ⟨w.heap.size, 2, none⟩ _ _ (by show b ≠ w.heap.size; omega)).trans (Below.heap_setCell _ ⟨w.heap.size, 1, none⟩ _ _ (by show b ≠ w.heap.size; omega))).trans (Below.heap_setCell _ ⟨w.heap.size, 0, none⟩ _ _ (by show b ≠ w.heap.size; omega)))
      exact ⟨pa, j, pc, rfl, HS.out.2.2.1, Vw.of_own wC_len hO9 HS.out.2.2.1, fun b hb => by have := (hO9.lt b hb).1; omega, ((H8.out.2.2.setCell (Nat.le_refl _) _).setCell (Nat.le_refl _) _).setCell (Nat.le_refl _) _⟩
end Go.Proofs.YtnnghcooidjlhaaGreat
end
section
set_option linter.unusedSimpArgs false
set_option linter.unusedVariables false
set_option maxRecDepth 100000
namespace Go.Proofs.YtnnghcooidjlhaaGreat
open Go.RowKit Go.Lib
def SnX (w : World) (xb : Nat) (s : SL) (lp : Int) : Prop := Blk w xb 165 #[.pointer (some ⟨s.sb, 0, none⟩), .int .i64 lp]
theorem snof_any (s : SL) (lp : Int) (h : 0 ≤ lp ∧ lp < 6) (w : World) : Calls Tryz.prog 27 #[.pointer (some ⟨s.sb, 0, none⟩), .int .i64 lp] w fun e w' => e = .returned (.tuple #[.pointer (some ⟨w.heap.size, 0, none⟩), .int .i64 0]) ∧ w.alloc (.cells #[.pointer (some ⟨s.sb, 0, none⟩), .int .i64 lp] 165) = w' := by
  have h0 : ¬ lp < 0 := by omega
  have h1 : ¬ 6 ≤ lp := by omega
  clear h
  go_enter Tryz.func27, Tryz.ntmps27
  go_wp2
  go_ret2
  exact ⟨rfl, rfl⟩
theorem snof_nil (lp : Int) (w : World) : Calls Tryz.prog 27 #[.pointer none, .int .i64 lp] w fun e w' => e = .returned (.tuple #[.pointer none, .int .i64 1]) ∧ w = w' := by
  go_enter Tryz.func27, Tryz.ntmps27
  go_wp2
  go_ret2
  exact ⟨rfl, rfl⟩
theorem snof_bad (p : Addr) (lp : Int) (h : ¬ (0 ≤ lp ∧ lp < 6)) (w : World) : Calls Tryz.prog 27 #[.pointer (some p), .int .i64 lp] w fun e w' => e = .returned (.tuple #[.pointer none, .int .i64 2]) ∧ w = w' := by
  have hc : lp < 0 ∨ (¬ lp < 0 ∧ 6 ≤ lp) := by omega
  clear h
  rcases hc with h0 | ⟨h0, h1⟩
  all_goals
    go_enter Tryz.func27, Tryz.ntmps27
    go_wp2
    go_ret2
    exact ⟨rfl, rfl⟩
theorem snmay_ok (p : Addr) (k : Bs) (h : k.length ≤ 29) (w : World) : Calls Tryz.prog 78 #[.pointer (some p), .string (S k)] w fun e w' => e = .returned (.int .i64 0) ∧ w = w' := by
  have h0 : ¬ (29 : Int) < (k.length : Int) := by omega
  go_enter Tryz.func78, Tryz.ntmps78
  go_wp2
  go_ret
  exact ⟨rfl, rfl⟩
theorem snmay_long (p : Addr) (k : Bs) (h : 29 < k.length) (w : World) : Calls Tryz.prog 78 #[.pointer (some p), .string (S k)] w fun e w' => e = .returned (.int .i64 2) ∧ w = w' := by
  have h0 : (29 : Int) < (k.length : Int) := by omega
  go_enter Tryz.func78, Tryz.ntmps78
  go_wp2
  go_ret
  exact ⟨rfl, rfl⟩
theorem snmay_nil (k : ByteArray) (w : World) : Calls Tryz.prog 78 #[.pointer none, .string k] w fun e w' => e = .returned (.int .i64 1) ∧ w = w' := by
  go_enter Tryz.func78, Tryz.ntmps78
  go_wp2
  go_ret
  exact ⟨rfl, rfl⟩
section
variable {w : World} {xb : Nat} {s : SL} {lp : Int} {O : List Nat} {N : Nat} {M : List KV}
set_option maxHeartbeats 4000000 in
theorem stake_no (q : Addr) (k : Bs) (p : Option Addr) (n c : Nat) (st : Sta) (hn : n = st.words.length) (h : ¬ (k.length ≤ 29 ∧ st.right)) (w : World) :
    Calls Tryz.prog 22 #[.pointer (some q), .string (S k), staV p n c st] w fun e w' => e = .returned (.int .i64 2) ∧ Below w.heap.size w w' := by
  have HB := hid ((Below.refl _ w).alloc (Nat.le_refl _) (.cells #[.slice p n c, .int .i64 st.sent, .int .i64 st.dice] 29))
  by_cases hk : k.length ≤ 29
  · have hr : ¬ st.right := fun hr => h ⟨hk, hr⟩
    have HM := hid (fun W => snmay_ok q k hk W)
    have HP := hid (fun W => putsta_no p n c st hn hr W)
    unfold staV at HP ⊢
    clear h hk hr hn
    go_enter Tryz.func22, Tryz.ntmps22
    go_wp2_with fail
    (with_reducible refine (HM.out _).mono ?_)
    rintro r w1 ⟨rfl, rfl⟩
    go_wp2_with fail
    (with_reducible refine (HP.out _).mono ?_)
    rintro r W2 ⟨rfl, hb2⟩
    have HF := hid (HB.out.trans (hb2.mono (by simp)))
    clear hb2
    go_wp2
    go_ret
    exact ⟨rfl, HF.out⟩
  · have HM := hid (fun W => snmay_long q k (by omega) W)
    unfold staV
    clear h hk hn
    go_enter Tryz.func22, Tryz.ntmps22
    go_wp2_with fail
    (with_reducible refine (HM.out _).mono ?_)
    rintro r w1 ⟨rfl, rfl⟩
    go_wp2
    go_ret
    exact ⟨rfl, HB.out⟩
theorem stake_nil (k : ByteArray) (p : Option Addr) (n c : Nat) (st : Sta) (w : World) :
    Calls Tryz.prog 22 #[.pointer none, .string k, staV p n c st] w fun e w' => e = .returned (.int .i64 1) ∧ Below w.heap.size w w' := by
  have HB := hid ((Below.refl _ w).alloc (Nat.le_refl _) (.cells #[.slice p n c, .int .i64 st.sent, .int .i64 st.dice] 29))
  have HM := hid (fun W => snmay_nil k W)
  unfold staV
  go_enter Tryz.func22, Tryz.ntmps22
  go_wp2_with fail
  (with_reducible refine (HM.out _).mono ?_)
  rintro r w1 ⟨rfl, rfl⟩
  go_wp2
  go_ret
  exact ⟨rfl, HB.out⟩
set_option maxHeartbeats 8000000 in
theorem stake_any (hX : SnX w xb s lp) (hS : StI w s O N M) (hxO : xb ∉ O) (hlp : 0 ≤ lp ∧ lp < 6) {k : Bs} (hk : k.length ≤ 29) {p : Option Addr} {n c : Nat} {st : Sta} (hv : Vw 1 wC w (.slice p n c) st.words) (hn : n = st.words.length) (hr : st.right) (ho : st.ok) (hroom : Roomy N M.length (longs M)) :
    Calls Tryz.prog 22 #[.pointer (some ⟨xb, 0, none⟩), .string (S k), staV p n c st] w fun e w' => ∃ O', e = .returned (.int .i64 0) ∧ StI w' s O' (N + 1) (setM M (hdP 3 lp ++ k) (staB st)) ∧ Kp O w w' ∧ Gr O w.heap.size O' := by
  have HM := hid (fun W => snmay_ok ⟨xb, 0, none⟩ k hk W)
  obtain ⟨W1, hW1⟩ : ∃ W1, W1 = w.alloc (.cells #[.slice p n c, .int .i64 st.sent, .int .i64 st.dice] 29) := ⟨_, rfl⟩
  have hb1 : Below w.heap.size w W1 := by rw [hW1]; exact (Below.refl _ w).alloc (Nat.le_refl _) _
  have HP := hid (putsta_any (hv.below hb1) hn hr ho)
  rw [hW1] at HP
  have HSET : Hid (∀ W, Below w.heap.size w W → Calls Tryz.prog 80 #[.pointer (some ⟨s.sb, 0, none⟩), .int .i64 3, .int .i64 lp, .string (S k), .string (S (staB st))] W fun e w' => ∃ O', e = .returned (.int .i64 0) ∧ StI w' s O' (N + 1) (setM M (hdP 3 lp ++ k) (staB st)) ∧ Kp O W w' ∧ Gr O W.heap.size O') := hid fun W hW =>
    sset_any (hS.below hW) (by unfold okP; omega) (by omega) (by rw [staB_length]; have := hr.1; omega) hroom
  have HX := hid (⟨hX, hxO, hb1⟩ : _ ∧ _ ∧ _)
  have HW1 := hid hW1
  unfold staV at HP ⊢
  clear hX hS hxO hlp hk hv hn hr ho hroom hb1 hW1
  go_enter Tryz.func22, Tryz.ntmps22
  go_wp2_with fail
  (with_reducible refine (HM.out _).mono ?_)
  rintro r w1 ⟨rfl, rfl⟩
  go_wp2_with fail
  (with_reducible refine HP.out.mono ?_)
  rintro r W2 ⟨rfl, hb2⟩
  rw [← HW1.out] at hb2
  have hb02 : Below w.heap.size w W2 := HX.out.2.2.trans (hb2.mono HX.out.2.2.size)
  have hX2 : SnX W2 xb s lp := Blk.below HX.out.1 hb02 (Blk.lt HX.out.1)
  have c0 : W2.cell? ⟨xb, 0, none⟩ = some (.pointer (some ⟨s.sb, 0, none⟩)) := Blk.cell hX2 0
  have c1 : W2.cell? ⟨xb, 1, none⟩ = some (.int .i64 lp) := Blk.cell hX2 1
  have HS2 := hid (HSET.out W2.drew (below_drewN hb02 1))
  have HX2 := hid (⟨hX2, hb02⟩ : _ ∧ _)
  have HCK : Hid (∀ W', Kp O W2.drew W' → W'.cell? ⟨xb, 0, none⟩ = some (.pointer (some ⟨s.sb, 0, none⟩)) ∧ W'.cell? ⟨xb, 1, none⟩ = some (.int .i64 lp)) := hid fun W' hk => by
    have := (Blk.drew hX2).kp hk HX.out.2.1
    exact ⟨this.cell 0, this.cell 1⟩
  clear hb2 hb02 hX2
  go_wp2
  go_region_held3 (fun W => W.cell? ⟨xb, 0, none⟩ = some (.pointer (some ⟨s.sb, 0, none⟩)) ∧ W.cell? ⟨xb, 1, none⟩ = some (.int .i64 lp)) (first | exact hck5 | exact ⟨c0, c1⟩)
    (first
      | (go_at_call 80; refine HS2.out.mono ?_; rintro r W5 ⟨O5, rfl, hS5, hk5, hg5⟩; have hck5 := HCK.out W5 hk5))
  all_goals
    have HF := hid (⟨hS5, (Kp.of_below HX2.out.2).trans ((Kp.refl O W2).drew.trans hk5), hg5.mono HX2.out.2.size⟩ : _ ∧ _ ∧ _)
    clear hS5 hk5 hg5 hck5
    go_wp2
    go_ret
    exact ⟨O5, rfl, HF.out⟩
end
end Go.Proofs.YtnnghcooidjlhaaGreat
end
