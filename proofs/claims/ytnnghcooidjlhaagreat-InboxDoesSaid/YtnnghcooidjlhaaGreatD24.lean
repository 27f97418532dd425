/- Parts of the proof: Ma Jj Mb. -/
import Derived.Test.YtnnghcooidjlhaaGreatD21
import Derived.Test.YtnnghcooidjlhaaGreatD23
set_option linter.all false
set_option maxRecDepth 100000
namespace Go.Proofs.YtnnghcooidjlhaaGreat
section
def inR (fr to k : Bs) : Bool := decide (¬ k < fr) && decide (to = [] ∨ k < to)
theorem runF_take {fr to : Bs} (n : Int) : ∀ {es xs : List En}, Asc es → (runF (fun l => decide ((l.length : Int) < n)) fr to xs es).take n.toNat = (xs ++ es.filter (fun x => inR fr to x.key)).take n.toNat
 | [], xs, _ => by simp [runF]
 | x :: t, xs, ha => by
  have ha' := Asc.cons.1 ha
  by_cases h : x.key < fr
  ·rw [runF_lt h, runF_take n ha'.2, List.filter_cons_of_neg (by simp [inR, h])]
  ·by_cases h2 : to ≠ [] ∧ ¬ x.key < to
   ·rw [runF_out h h2, List.filter_eq_nil_iff.2, List.append_nil]
    intro y hy
    have : ¬ y.key < to := by
     rcases List.mem_cons.1 hy with rfl | hy
     ·exact h2.2
     ·exact fun hlt => h2.2 (blt_trans (ha'.1 y hy) hlt)
    simp [inR, h2.1, this]
   ·have h3 : to = [] ∨ x.key < to := by
     by_cases e : to = []
     ·exact .inl e
     ·exact .inr (Classical.byContradiction fun hn => h2 ⟨e, hn⟩)
    rw [List.filter_cons_of_pos (by simp [inR, h, h3])]
    by_cases hm : ((xs ++ [x]).length : Int) < n
    ·rw [runF_go h h2 (by simpa using hm), runF_take n ha'.2]
     simp
    ·rw [runF_end h h2 (by simpa using hm)]
     have : n.toNat ≤ (xs ++ [x]).length := by omega
     rw [show xs ++ x :: t.filter (fun x => inR fr to x.key) = (xs ++ [x]) ++ t.filter (fun x => inR fr to x.key) by simp, List.take_append_of_le_length this]
theorem runF_whole {fr to : Bs} {more : List En → Bool} (hm : ∀ l, more l = true) {es : List En} (ha : Asc es) : runF more fr to [] es = es.filter (fun x => inR fr to x.key) := by
 rw [runF_all hm ha]
 rfl
/-! maps -/
theorem AscM.filter {M : List KV} (h : AscM M) (p : KV → Bool) : AscM (M.filter p) := List.Pairwise.filter _ h
theorem AscM.inj {M : List KV} (h : AscM M) {a b : KV} (ha : a ∈ M) (hb : b ∈ M) (e : a.1 = b.1) : a = b := by
 induction M with
 | nil => simp at ha
 | cons x t ih =>
  have h' := List.pairwise_cons.1 h
  rcases List.mem_cons.1 ha with rfl | ha1 <;> rcases List.mem_cons.1 hb with rfl | hb1
  ·rfl
  ·exact absurd (h'.1 b hb1) (by rw [e]; exact blt_irrefl _)
  ·exact absurd (h'.1 a ha1) (by rw [e]; exact blt_irrefl _)
  ·exact ih h'.2 ha1 hb1
theorem setM_asc {M : List KV} (h : AscM M) (k v : Bs) : AscM (setM M k v) := by
 unfold setM AscM
 rw [List.pairwise_append]
 refine ⟨h.filter _, List.pairwise_cons.2 ⟨fun a ha => ?_, h.filter _⟩, fun a ha b hb => ?_⟩
 ·simpa using (List.mem_filter.1 ha).2
 ·have h1 : a.1 < k := by simpa using (List.mem_filter.1 ha).2
  rcases List.mem_cons.1 hb with rfl | hb
  ·exact h1
  ·exact blt_trans h1 (by simpa using (List.mem_filter.1 hb).2)
theorem mem_setM {M : List KV} {k v : Bs} {a : KV} : a ∈ setM M k v ↔ a = (k, v) ∨ (a ∈ M ∧ a.1 ≠ k) := by
 unfold setM
 simp only [List.mem_append, List.mem_filter, List.mem_cons, decide_eq_true_eq]
 constructor
 ·rintro (⟨h, h1⟩ | rfl | ⟨h, h1⟩)
  ·exact .inr ⟨h, fun e => blt_irrefl k (e ▸ h1)⟩
  ·exact .inl rfl
  ·exact .inr ⟨h, fun e => blt_irrefl k (e ▸ h1)⟩
 ·rintro (rfl | ⟨h, h1⟩)
  ·exact .inr (.inl rfl)
  ·rcases blt_tri a.1 k with h2 | h2 | h2
   ·exact .inl ⟨h, h2⟩
   ·exact absurd h2 h1
   ·exact .inr (.inr ⟨h, h2⟩)
theorem getM_mem {M : List KV} {k v : Bs} (h : getM M k = some v) : (k, v) ∈ M := by
 unfold getM at h
 cases e : M.find? fun a => decide (a.1 = k) with
 | none => rw [e] at h; cases h
 | some x =>
  rw [e] at h
  have h1 := List.mem_of_find?_eq_some e
  have h2 : x.1 = k := by simpa using List.find?_some e
  injection h with h
  obtain ⟨x1, x2⟩ := x
  simp only at h h2
  subst h h2
  exact h1
theorem getM_iff {M : List KV} (h : AscM M) {k v : Bs} : getM M k = some v ↔ (k, v) ∈ M := by
 refine ⟨getM_mem, fun hm => ?_⟩
 unfold getM
 cases e : M.find? fun a => decide (a.1 = k) with
 | none =>
  have := List.find?_eq_none.1 e _ hm
  simp at this
 | some x =>
  have h1 := List.mem_of_find?_eq_some e
  have h2 : x.1 = k := by simpa using List.find?_some e
  rw [h.inj h1 hm h2]
  rfl
theorem getM_none_iff {M : List KV} {k : Bs} : getM M k = none ↔ ∀ a ∈ M, a.1 ≠ k := by
 refine ⟨fun h a ha e => ?_, getM_none⟩
 unfold getM at h
 have h1 : M.find? (fun a => decide (a.1 = k)) = none := by
  cases e : M.find? fun a => decide (a.1 = k) with
  | none => rfl
  | some x => rw [e] at h; cases h
 have := List.find?_eq_none.1 h1 a ha
 simp [e] at this
theorem asc_ext {M M' : List KV} (h : AscM M) (h' : AscM M') (e : ∀ a, a ∈ M ↔ a ∈ M') : M = M' := by
 induction M generalizing M' with
 | nil =>
  cases M' with
  | nil => rfl
  | cons y t => exact absurd ((e y).2 (by simp)) (by simp)
 | cons x t ih =>
  cases M' with
  | nil => exact absurd ((e x).1 (by simp)) (by simp)
  | cons y t' =>
   have hx := List.pairwise_cons.1 h
   have hy := List.pairwise_cons.1 h'
   have hxy : x = y := by
    rcases List.mem_cons.1 ((e x).1 (by simp)) with h1 | h1
    ·exact h1
    ·rcases List.mem_cons.1 ((e y).2 (by simp)) with h2 | h2
     ·exact h2.symm
     ·exact absurd (hx.1 y h2) (blt_asymm (hy.1 x h1))
   subst hxy
   rw [ih hx.2 hy.2 (fun a => ?_)]
   constructor
   ·intro ha
    rcases List.mem_cons.1 ((e a).1 (by simp [ha])) with h1 | h1
    ·subst h1; exact absurd (hx.1 _ ha) (blt_irrefl _)
    ·exact h1
   ·intro ha
    rcases List.mem_cons.1 ((e a).2 (by simp [ha])) with h1 | h1
    ·subst h1; exact absurd (hy.1 _ ha) (blt_irrefl _)
    ·exact h1
theorem delM_sub (M : List KV) (k : Bs) : (delM M k).Sublist M := List.filter_sublist
theorem setM_perm {M : List KV} (h : AscM M) (k v : Bs) : (setM M k v).Perm ((k, v) :: delM M k) := by
 unfold setM
 rw [delM_eq h]
 exact List.perm_middle
theorem longs_set {M : List KV} (h : AscM M) (k v : Bs) : longs (setM M k v) ≤ longs M + if 40 < v.length then 1 else 0 := by
 unfold longs
 rw [(setM_perm h k v).countP_eq, List.countP_cons]
 have := (delM_sub M k).countP_le (p := fun a => decide (40 < a.2.length))
 by_cases hv : 40 < v.length <;> simp [hv] <;> omega
theorem longs_sub {M M' : List KV} (h : M'.Sublist M) : longs M' ≤ longs M := h.countP_le
/-! all of some keys taken out -/
theorem fold_del : ∀ (l : List Bs) (M : List KV), l.foldl delM M = M.filter fun a => decide (a.1 ∉ l)
 | [], M => by
  rw [List.foldl_nil, List.filter_eq_self.2 (by simp)]
 | k :: l, M => by
  rw [List.foldl_cons, fold_del l]
  unfold delM
  rw [List.filter_filter]
  refine List.filter_congr fun a _ => ?_
  simp only [List.mem_cons, not_or, ← Bool.decide_and]
  rw [decide_eq_decide]
  exact And.comm
theorem filter_out {M : List KV} (p : Bs → Bool) : M.filter (fun a => decide (a.1 ∉ (M.filter fun a => p a.1).map Prod.fst)) = M.filter fun a => !p a.1 := by
 refine List.filter_congr fun a ha => ?_
 cases h : p a.1
 ·simp only [Bool.not_false, decide_eq_true_eq]
  intro hm
  obtain ⟨b, hb, e⟩ := List.mem_map.1 hm
  have := (List.mem_filter.1 hb).2
  rw [e, h] at this
  cases this
 ·simp only [Bool.not_true, decide_eq_false_iff_not, Classical.not_not]
  exact List.mem_map.2 ⟨a, List.mem_filter.2 ⟨ha, h⟩, rfl⟩
/-! parts -/
def pre2 (p k : Bs) : Bool := decide (k.take 2 = p)
def partM (M : List KV) (p : Bs) : List KV := (M.filter fun a => pre2 p a.1).map fun a => (a.1.drop 2, a.2)
def addP (p : Bs) (a : KV) : KV := (p ++ a.1, a.2)
theorem pre2_app {p : Bs} (hp : p.length = 2) (k : Bs) : pre2 p (p ++ k) = true := by
 unfold pre2
 rw [decide_eq_true_eq, ← hp, List.take_left]
theorem drop2_app {p : Bs} (hp : p.length = 2) (k : Bs) : (p ++ k).drop 2 = k := by rw [← hp, List.drop_left]
theorem pre2_form {p k : Bs} (h : pre2 p k = true) : k = p ++ k.drop 2 := by
 have : k.take 2 = p := by simpa [pre2] using h
 conv => lhs; rw [← List.take_append_drop 2 k, this]
theorem part_filter {M : List KV} {p : Bs} (r q : Bs → Bool) (h : ∀ k, r (p ++ k) = q k) : partM (M.filter fun a => r a.1) p = (partM M p).filter fun a => q a.1 := by
 unfold partM
 rw [List.filter_map, List.filter_filter, List.filter_filter]
 congr 1
 refine List.filter_congr fun a _ => ?_
 cases hp : pre2 p a.1
 ·simp
 ·have := h (a.1.drop 2)
  rw [← pre2_form hp] at this
  simp [this]
theorem part_range {M : List KV} {p : Bs} (r q : Bs → Bool) (h : ∀ k, r k = (pre2 p k && q (k.drop 2))) : M.filter (fun a => r a.1) = ((partM M p).filter fun a => q a.1).map (addP p) := by
 unfold partM
 rw [List.filter_map, List.map_map, List.filter_filter]
 have : M.filter (fun a => r a.1) = M.filter (fun a => (fun a => q a.1) (a.1.drop 2, a.2) && pre2 p a.1) := List.filter_congr fun a _ => by
  rw [h, Bool.and_comm]
 rw [this]
 refine Eq.symm ((List.map_congr_left fun a ha => ?_).trans (List.map_id _))
 have := (List.mem_filter.1 ha).2
 simp only [Bool.and_eq_true] at this
 simp only [Function.comp, addP, id]
 rw [← pre2_form this.2]
theorem app2_lt {p : Bs} (a b : Bs) : (p ++ a < p ++ b) ↔ a < b := by
 induction p with
 | nil => simp
 | cons x p ih =>
  rw [List.cons_append, List.cons_append, List.cons_lt_cons_iff]
  constructor
  ·rintro (h | ⟨_, h⟩)
   ·exact absurd h (by exact UInt8.lt_irrefl x)
   ·exact ih.1 h
  ·exact fun h => .inr ⟨rfl, ih.2 h⟩
theorem partM_asc {M : List KV} (h : AscM M) (p : Bs) : AscM (partM M p) := by
 unfold partM AscM
 rw [List.pairwise_map]
 refine List.Pairwise.imp_of_mem ?_ (h.filter _)
 intro a b ha hb hab
 have h1 := pre2_form (List.mem_filter.1 ha).2
 have h2 := pre2_form (List.mem_filter.1 hb).2
 rw [h1, h2] at hab
 exact (app2_lt _ _).1 hab
section
variable {M : List KV} {p q : Bs} (hp : p.length = 2)
include hp
theorem mem_part {k v : Bs} : (k, v) ∈ partM M p ↔ (p ++ k, v) ∈ M := by
 unfold partM
 rw [List.mem_map]
 constructor
 ·rintro ⟨a, ha, e⟩
  have h1 := List.mem_filter.1 ha
  have h2 := pre2_form h1.2
  injection e with e1 e2
  rw [← e1, ← h2, ← e2]
  exact h1.1
 ·intro h
  exact ⟨(p ++ k, v), List.mem_filter.2 ⟨h, pre2_app hp k⟩, by rw [drop2_app hp]⟩
theorem getM_part (h : AscM M) (k : Bs) : getM M (p ++ k) = getM (partM M p) k := by
 cases e : getM (partM M p) k with
 | none =>
  rw [getM_none_iff] at e ⊢
  intro a ha h1
  have : (k, a.2) ∈ partM M p := (mem_part hp).2 (by rw [← h1]; exact ha)
  exact e _ this rfl
 | some v =>
  rw [getM_iff h]
  exact (mem_part hp).1 (getM_mem e)
theorem setM_part (h : AscM M) (k v : Bs) : partM (setM M (p ++ k) v) p = setM (partM M p) k v := by
 refine asc_ext (partM_asc (setM_asc h _ _) _) (setM_asc (partM_asc h _) _ _) fun a => ?_
 obtain ⟨a1, a2⟩ := a
 rw [mem_part hp, mem_setM, mem_setM, mem_part hp]
 simp only [Prod.mk.injEq, ne_eq, List.append_cancel_left_eq]
theorem delM_part (k : Bs) : partM (delM M (p ++ k)) p = delM (partM M p) k := part_filter (fun a => decide (a ≠ p ++ k)) (fun a => decide (a ≠ k)) fun k' => by simp
end
def toK (p to : Bs) : Bs := if to = [] then [p.headD 0, p.getD 1 0 + 1] else p ++ to
theorem u8_lt_succ {y : UInt8} (h : y.toNat < 255) (b : UInt8) : b < y + 1 ↔ b < y ∨ b = y := by
 rw [UInt8.lt_iff_toNat_lt, UInt8.lt_iff_toNat_lt, UInt8.toNat_add, ← UInt8.toNat_inj]
 have : (1 : UInt8).toNat = 1 := rfl
 rw [this]
 omega
theorem inR_part {x y : UInt8} (hy : y.toNat < 255) (fr to k : Bs) : inR ([x, y] ++ fr) (toK [x, y] to) k = (pre2 [x, y] k && inR fr to (k.drop 2)) := by
 have hne : toK [x, y] to ≠ [] := by unfold toK; split <;> simp
 unfold inR
 simp only [hne, false_or]
 match k with
 | [] => simp [pre2]
 | [a] =>
  have h1 : pre2 [x, y] [a] = false := by simp [pre2]
  rw [h1, Bool.false_and]
  have h2 : ∀ l : Bs, ([a] < toK [x, y] to) → [a] < [x, y] ++ fr := fun l h => by
   unfold toK at h
   split at h
   ·simp only [List.headD_cons, List.cons_append, List.cons_lt_cons_iff] at h ⊢
    rcases h with h | ⟨h, _⟩
    ·exact .inl h
    ·exact .inr ⟨h, by simp⟩
   ·simp only [List.cons_append, List.cons_lt_cons_iff] at h ⊢
    rcases h with h | ⟨h, _⟩
    ·exact .inl h
    ·exact .inr ⟨h, by simp⟩
  by_cases h : [a] < toK [x, y] to
  ·rw [decide_eq_false (fun hn => hn (h2 [] h)), Bool.false_and]
  ·rw [decide_eq_false h, Bool.and_false]
 | a :: b :: r =>
  by_cases e : a = x ∧ b = y
  ·obtain ⟨rfl, rfl⟩ := e
   have h1 : pre2 [a, b] (a :: b :: r) = true := by simp [pre2]
   rw [h1, Bool.true_and]
   have h2 : (a :: b :: r < [a, b] ++ fr) ↔ r < fr := app2_lt (p := [a, b]) r fr
   have h3 : (a :: b :: r < toK [a, b] to) ↔ (to = [] ∨ r < to) := by
    unfold toK
    split
    ·next h => simp [h, List.cons_lt_cons_iff, u8_lt_succ hy]
    ·next h =>
     rw [show a :: b :: r = [a, b] ++ r from rfl, app2_lt]
     simp [h]
   simp only [h2, h3, List.drop_succ_cons, List.drop_zero]
  ·have h1 : pre2 [x, y] (a :: b :: r) = false := by
    unfold pre2
    rw [decide_eq_false_iff_not]
    intro h
    simp only [List.take_succ_cons, List.take_zero] at h
    injection h with h3 h4
    injection h4 with h4
    exact e ⟨h3, h4⟩
   rw [h1, Bool.false_and]
   have h2 : (a :: b :: r < toK [x, y] to) → a :: b :: r < [x, y] ++ fr := fun h => by
    unfold toK at h
    split at h
    ·simp only [List.headD_cons, List.cons_append, List.cons_lt_cons_iff, List.nil_append] at h ⊢
     rcases h with h | ⟨rfl, h⟩
     ·exact .inl h
     ·refine .inr ⟨rfl, ?_⟩
      rcases h with h | ⟨h, h'⟩
      ·rw [show ([a, y] : Bs).getD 1 0 = y from rfl, u8_lt_succ hy] at h
       rcases h with h | h
       ·exact .inl h
       ·exact absurd ⟨rfl, h⟩ e
      ·simp at h'
    ·simp only [List.cons_append, List.cons_lt_cons_iff, List.nil_append] at h ⊢
     rcases h with h | ⟨rfl, h⟩
     ·exact .inl h
     ·refine .inr ⟨rfl, ?_⟩
      rcases h with h | ⟨rfl, h'⟩
      ·exact .inl h
      ·exact absurd ⟨rfl, rfl⟩ e
   by_cases h : a :: b :: r < toK [x, y] to
   ·rw [decide_eq_false (fun hn => hn (h2 h)), Bool.false_and]
   ·rw [decide_eq_false h, Bool.and_false]
theorem filter_part {M : List KV} {x y : UInt8} (hy : y.toNat < 255) (fr to : Bs) : M.filter (fun a => inR ([x, y] ++ fr) (toK [x, y] to) a.1) = ((partM M [x, y]).filter fun a => inR fr to a.1).map (addP [x, y]) :=
 part_range _ _ (inR_part hy fr to)
theorem clear_part {M : List KV} {x y : UInt8} (hy : y.toNat < 255) (fr to : Bs) : partM (M.filter fun a => !inR ([x, y] ++ fr) (toK [x, y] to) a.1) [x, y] = (partM M [x, y]).filter fun a => !inR fr to a.1 :=
 part_filter (fun k => !inR ([x, y] ++ fr) (toK [x, y] to) k) (fun k => !inR fr to k) fun k => by
  rw [inR_part hy, pre2_app (by rfl), Bool.true_and, drop2_app (by rfl)]
end
section
open Go.RowKit Go.Lib
structure Ei where
 sb : Nat
 xb : Nat
 fb : Nat
 ob : Nat
 db : Nat
 kb : Nat
def Ei.caps (i : Ei) : Array Value := #[.pointer (some ⟨i.sb, 0, none⟩), .pointer (some ⟨i.xb, 0, none⟩), .pointer (some ⟨i.fb, 0, none⟩), .pointer (some ⟨i.ob, 0, none⟩), .pointer (some ⟨i.db, 0, none⟩), .pointer (some ⟨i.kb, 0, none⟩)]
def Ei.l (i : Ei) (tb : Nat) : List Nat := [tb, i.xb, i.fb, i.ob, i.db, i.kb]
structure EvI (W : World) (i : Ei) (tb : Nat) (fr to : Bs) (df : Nat) (caps : Array Value) : Prop where
 t : W.cell? ⟨i.xb, 0, none⟩ = some (.pointer (some ⟨tb, 0, none⟩))
 f : W.cell? ⟨i.fb, 0, none⟩ = some (.string (S fr))
 o : W.cell? ⟨i.ob, 0, none⟩ = some (.string (S to))
 d : W.cell? ⟨i.db, 0, none⟩ = some (.func (.func df) #[] caps)
 k : W.cell? ⟨i.kb, 0, none⟩ = some (.func (.func 206) #[] i.caps)
structure EW (P : PL) (O : List Nat) (tb : Nat) (pgs : List (Option Bs)) (i : Ei) (fr to : Bs) (df : Nat) (caps : Array Value) (W : World) (Z : List Nat) (s : Nat) : Prop where
 hp : PoI W P O pgs
 ht : TrI W P tb
 ev : EvI W i tb fr to df caps
 sn : Blk W i.sb 3 #[.int .i64 s]
 dj : ∀ z ∈ Z, z < W.heap.size ∧ z ∉ O ∧ z ≠ i.sb ∧ z ∉ i.l tb
structure Sep (i : Ei) (tb : Nat) (O : List Nat) : Prop where
 s : i.sb ∉ O ∧ i.sb ∉ i.l tb
 l : ∀ b ∈ i.l tb, b ∉ O
section
variable {P : PL} {O : List Nat} {tb : Nat} {pgs : List (Option Bs)} {i : Ei} {fr to : Bs} {df : Nat} {caps : Array Value} {W W' : World} {Z Z' : List Nat} {s : Nat}
theorem gr_own (h : Gr Z W.heap.size Z') : Gr (i.sb :: (Z ++ O)) W.heap.size (i.sb :: (Z' ++ O)) := fun x hx => by
 rcases List.mem_cons.1 hx with rfl | hx
 ·exact .inl (by simp)
 ·rcases List.mem_append.1 hx with hx | hx
  ·exact (h x hx).imp (fun h => by simp [h]) id
  ·exact .inl (by simp [hx])
theorem EvI.move (h : EvI W i tb fr to df caps) (e : ∀ b ∈ i.l tb, W'.heap[b]? = W.heap[b]?) : EvI W' i tb fr to df caps :=
 ⟨(World.cell?_of_block (a := ⟨i.xb, 0, none⟩) (e i.xb (by simp [Ei.l]))).trans h.t, (World.cell?_of_block (a := ⟨i.fb, 0, none⟩) (e i.fb (by simp [Ei.l]))).trans h.f, (World.cell?_of_block (a := ⟨i.ob, 0, none⟩) (e i.ob (by simp [Ei.l]))).trans h.o,
  (World.cell?_of_block (a := ⟨i.db, 0, none⟩) (e i.db (by simp [Ei.l]))).trans h.d, (World.cell?_of_block (a := ⟨i.kb, 0, none⟩) (e i.kb (by simp [Ei.l]))).trans h.k⟩
theorem EvI.lts (h : EvI W i tb fr to df caps) (ht : TrI W P tb) : ∀ b ∈ i.l tb, b < W.heap.size := by
 intro b hb
 simp only [Ei.l, List.mem_cons, List.not_mem_nil, or_false] at hb
 rcases hb with rfl | rfl | rfl | rfl | rfl | rfl
 ·exact Blk.lt ht
 ·exact block_lt_of_cell h.t
 ·exact block_lt_of_cell h.f
 ·exact block_lt_of_cell h.o
 ·exact block_lt_of_cell h.d
 ·exact block_lt_of_cell h.k
theorem EW.step {s' : Nat} (h : EW P O tb pgs i fr to df caps W Z s) (hs : Sep i tb O) (hk : Kp (i.sb :: (Z ++ O)) W W') (hp : PoI W' P O pgs) (hn : Blk W' i.sb 3 #[.int .i64 s']) (hg : Gr Z W.heap.size Z') (hz : ∀ z ∈ Z', z < W'.heap.size) : EW P O tb pgs i fr to df caps W' Z' s' := by
 have keep : ∀ b ∈ i.l tb, W'.heap[b]? = W.heap[b]? := fun b hb => by
  refine hk.block b (h.ev.lts h.ht b hb) (fun hm => ?_)
  rcases List.mem_cons.1 hm with e | hm
  ·exact hs.s.2 (e ▸ hb)
  ·rcases List.mem_append.1 hm with hm | hm
   ·exact (h.dj b hm).2.2.2 hb
   ·exact hs.l b hb hm
 refine ⟨hp, (keep tb (by simp [Ei.l])).trans h.ht, h.ev.move keep, hn, fun z hz' => ⟨hz z hz', ?_⟩⟩
 rcases hg z hz' with h1 | h1
 ·exact (h.dj z h1).2
 ·refine ⟨fun hm => ?_, fun e => ?_, fun hm => ?_⟩
  ·have := h.hp.lts z hm; omega
  ·have := h.sn.lt; omega
  ·have := h.ev.lts h.ht z hm; omega
theorem EW.quiet (h : EW P O tb pgs i fr to df caps W Z s) (hb : Below W.heap.size W W') : EW P O tb pgs i fr to df caps W' Z s :=
 ⟨h.hp.below hb, Blk.below h.ht hb (Blk.lt h.ht), h.ev.move (fun b hx => hb.block b (h.ev.lts h.ht b hx)), h.sn.below hb h.sn.lt, fun z hz => by have := h.dj z hz; have := hb.size; exact ⟨by omega, (h.dj z hz).2⟩⟩
end
structure DoI (more : List En → Bool) (df : Nat) (caps : Array Value) (R : List En → World → List Nat → Prop) : Prop where
 keep : ∀ xs W W' Z, R xs W Z → (∀ b ∈ Z, W'.heap[b]? = W.heap[b]?) → R xs W' Z
 lts : ∀ xs W Z, R xs W Z → ∀ b ∈ Z, b < W.heap.size
 en : ∀ vs W, Sem.run Tryz.prog (callFunc df vs) W = .ok (.enter df vs) W
 go : ∀ xs x W Z, R xs W Z → xs.length ≤ 90000 → Calls Tryz.prog df (#[enV x] ++ caps) W fun e w' => ∃ Z', e = .returned (.bool (more (xs ++ [x]))) ∧ R (xs ++ [x]) w' Z' ∧ Kp Z W w' ∧ Gr Z W.heap.size Z'
section
variable {P : PL} {O : List Nat} {tb : Nat} {pgs : List (Option Bs)} {i : Ei} {fr to : Bs} {df : Nat} {caps : Array Value} {more : List En → Bool} {R : List En → World → List Nat → Prop}
def WalkPost (P : PL) (O : List Nat) (tb : Nat) (pgs : List (Option Bs)) (i : Ei) (fr to : Bs) (df : Nat) (caps : Array Value) (more : List En → Bool) (R : List En → World → List Nat → Prop) (W : World) (Z : List Nat) (s n : Nat) (xs es : List En) (e : Ending) (w' : World) : Prop :=
 ∃ b ys Z' s1, e = .returned (.tuple #[.bool b, .int .i64 0]) ∧ R ys w' Z' ∧ Went more fr to xs es b ys ∧ EW P O tb pgs i fr to df caps w' Z' s1 ∧ s1 ≤ s + n ∧ Kp (i.sb :: (Z ++ O)) W w' ∧ Gr Z W.heap.size Z' ∧ ys.length ≤ xs.length + es.length
set_option maxHeartbeats 8000000 in
theorem walk_leaf (hDo : DoI more df caps R) (hs : Sep i tb O) {W : World} {Z : List Nat} {s q dp : Nat} {es xs : List En} (hW : EW P O tb pgs i fr to df caps W Z s) (hR : R xs W Z) (hn : NdAt (pg pgs) q ⟨true, es⟩) (hdp : 0 < dp) (hdp2 : dp ≤ 16) (hs2 : s + 1 ≤ 512) (hx : xs.length + es.length ≤ 90000) :
  Calls Tryz.prog 206 (#[.int .i64 q, .int .i64 dp] ++ i.caps) W fun e w' => WalkPost P O tb pgs i fr to df caps more R W Z s 1 xs es e w' := by
 have hlen : es.length ≤ 40 := leaf_len hn.2.2
 have s0 : W.cell? ⟨i.sb, 0, none⟩ = some (.int .i64 s) := hW.sn.cell 0
 have sf := hW.sn.frozen 0
 have hsl := hW.sn.lt
 have hso : (s : Int) + 1 ≤ 512 := by omega
 have hdn : ¬ dp = 0 := by omega
 have hso2 : ¬ (512 < (s : Int) + 1) := by omega
 have hkA : Kp (i.sb :: (Z ++ O)) W (W.setCell ⟨i.sb, 0, none⟩ (.int .i64 ((s : Int) + 1))) := (Kp.refl _ W).setCell (.inl (by simp)) _
 have hnA := hW.sn.set_ 0 (.int .i64 ((s : Int) + 1))
 have hpA : PoI (W.setCell ⟨i.sb, 0, none⟩ (.int .i64 ((s : Int) + 1))) P O pgs := hW.hp.of_blocks (fun b hb => Below.heap_setCell W ⟨i.sb, 0, none⟩ _ b (fun e => hs.s.1 (by rw [← show b = i.sb from e]; exact hb)))
 have hWA : EW P O tb pgs i fr to df caps (W.setCell ⟨i.sb, 0, none⟩ (.int .i64 ((s : Int) + 1))) Z (s + 1) := hW.step hs hkA hpA (by simpa using hnA) (Gr.refl _ _) (fun z hz => by have := (hW.dj z hz).1; simpa [World.setCell] using this)
 have c1 := hWA.ev.t
 have HRD := hid (read_any hWA.ht hWA.hp (pg_some.1 hn.1) hn.2.1 hn.2.2)
 have HX := hid (⟨hW, hR, hWA, hkA, hs, hDo, hx, hlen, hn.2.1.2⟩ : _ ∧ _ ∧ _ ∧ _ ∧ _ ∧ _ ∧ _ ∧ _ ∧ _)
 clear hDo hs hW hR hn hs2 hx hlen hkA hnA hpA hWA
 unfold Ei.caps
 go_enter Tryz.func206, Tryz.ntmps206
 go_wp2_with fail
 (with_reducible refine HRD.out.mono ?_)
 rintro e W1 ⟨v1, rfl, hO1, hk1, hp1⟩
 unfold ndV
 obtain ⟨hW, hR, hWA, hkA, hs, hDo, hx, hlen, hasc⟩ := HX.out
 obtain ⟨a1, c1, rfl⟩ := own_slice2 hO1
 have hk01 : Kp (i.sb :: (Z ++ O)) W W1 := hkA.trans (hk1.mono (fun x hx => .inl (by simp [hx])))
 have hsz01 := hk01.size
 have hno : ∀ b, W.heap.size ≤ b → b ∉ i.sb :: (Z ++ O) := fun b hb hm => by
  rcases List.mem_cons.1 hm with e | hm
  ·have := hW.sn.lt; omega
  ·rcases List.mem_append.1 hm with hm | hm
   ·have := (hW.dj b hm).1; omega
   ·have := hW.hp.lts b hm; omega
 have hn1 : Blk W1 i.sb 3 #[.int .i64 ((s + 1 : Nat) : Int)] := hWA.sn.kp hk1 hs.s.1
 have hW1 : EW P O tb pgs i fr to df caps W1 Z (s + 1) := hW.step hs hk01 hp1 hn1 (Gr.refl _ _) (fun z hz => by have := (hW.dj z hz).1; omega)
 have hR1 : R xs W1 Z := hDo.keep _ _ _ _ hR (fun b hb => by
  rw [hk1.block b (by have := (hWA.dj b hb).1; exact this) (hW.dj b hb).2.1]
  exact Below.heap_setCell W ⟨i.sb, 0, none⟩ _ b (hW.dj b hb).2.2.1)
 have hb2 : Below W1.heap.size W1 (W1.alloc (.cells #[.bool true, .slice a1 es.length c1] 292)) := (Below.refl _ W1).alloc (Nat.le_refl _) _
 have hN2 := Blk.new W1 292 #[.bool true, .slice a1 es.length c1]
 have hE2 := (EnI.of_own hO1).below hb2
 have HI0 : Hid (EW P O tb pgs i fr to df caps (W1.alloc (.cells #[.bool true, .slice a1 es.length c1] 292)) Z (s + 1) ∧ R xs (W1.alloc (.cells #[.bool true, .slice a1 es.length c1] 292)) Z ∧ Kp (i.sb :: (Z ++ O)) W (W1.alloc (.cells #[.bool true, .slice a1 es.length c1] 292)) ∧ Gr Z (W1.heap.size + 1) Z ∧ Went more fr to xs (es.take 0) true xs ∧ xs.length ≤ xs.length + 0) :=
  hid ⟨hW1.quiet hb2, hDo.keep _ _ _ _ hR1 (fun b hb => hb2.block b (hDo.lts _ _ _ hR1 b hb)), hk01.trans (Kp.of_below hb2), Gr.refl _ _, by simpa using Went.nil xs, Nat.le_refl _⟩
 have hrow : ∀ b, (Value.slice a1 es.length c1).ownBlock = some b → W.heap.size ≤ b ∧ b < W1.heap.size := fun b hb => by
  have := hO1.lt b hb
  exact ⟨by simpa [World.setCell] using this.1, this.2⟩
 have HN := hid (⟨hN2, hE2, hno, hsz01, hrow⟩ : _ ∧ _ ∧ _ ∧ _ ∧ _)
 have n0 : (W1.alloc (.cells #[.bool true, .slice a1 es.length c1] 292)).cell? ⟨W1.heap.size, 0, none⟩ = some (.bool true) := hN2.cell 0
 have n1 : (W1.alloc (.cells #[.bool true, .slice a1 es.length c1] 292)).cell? ⟨W1.heap.size, 1, none⟩ = some (.slice a1 es.length c1) := hN2.cell 1
 have hlI : (es.length : Int) ≤ 40 := by omega
 clear hW hR hWA hkA hs hDo hx hlen hasc hO1 hk1 hp1 hk01 hsz01 hno hn1 hW1 hR1 hb2 hN2 hE2 s0 sf hsl hrow
 go_wp2
 go_loopg [45] es.length (fun gg s45 wr => ∃ (j : Nat) (ys : List En) (Zr : List Nat), j ≤ es.length ∧ es.length - j ≤ gg ∧ s45 = .int .i64 j ∧ Hid (EW P O tb pgs i fr to df caps wr Zr (s + 1) ∧ R ys wr Zr ∧ Kp (i.sb :: (Z ++ O)) W wr ∧ Gr Z (W1.heap.size + 1) Zr ∧ Went more fr to xs (es.take j) true ys ∧ ys.length ≤ xs.length + j) ∧ Hid (Blk wr W1.heap.size 292 #[.bool true, .slice a1 es.length c1] ∧ EnI wr (.slice a1 es.length c1) es))
 case atStart => exact ⟨0, xs, Z, Nat.zero_le _, by omega, rfl, HI0, hid ⟨HN.out.1, HN.out.2.1⟩⟩
 case round =>
  obtain ⟨j, ys, Zr, hj, hgg, rfl, HI, HB⟩ := hrel
  by_cases hje : j < es.length
  ·obtain ⟨x, hx⟩ : ∃ x, es[j]? = some x := ⟨_, List.getElem?_eq_getElem hje⟩
   obtain ⟨hE, hR, hkp, hgr, hwent, hys⟩ := HI.out
   obtain ⟨hN, hEn⟩ := HB.out
   obtain ⟨g1, o1, c2, e1, e2, hg1, hA1⟩ := hEn.form (by rintro rfl; simp at hje)
   injection e1 with e1 _ e3
   subst e1 e3
   obtain ⟨m0, m1, m2⟩ := hA1 j x hx
   have n0 : wr.cell? ⟨W1.heap.size, 0, none⟩ = some (.bool true) := hN.cell 0
   have c2 := hE.ev.f
   have c3 := hE.ev.o
   have c4 := hE.ev.d
   have hji : (j : Int) < (es.length : Int) := by omega
   have hlt2 := block_lt_of_cell c2
   have hlt3 := block_lt_of_cell c3
   have hlt4 := block_lt_of_cell c4
   have hltN := hN.lt
   have htk : es.take (j + 1) = es.take j ++ [x] := by rw [List.take_add_one, hx]; rfl
   obtain ⟨wo, hwo⟩ : ∃ wo, wo = wr := ⟨_, rfl⟩
   subst hwo
   have hb3 : Below wo.heap.size wo (wo.alloc (.cells #[.string (S x.key), .string (S x.val), .int .i64 x.far] 299)) := (Below.refl _ wo).alloc (Nat.le_refl _) _
   have hsz := hkp.size
   have hE3 := hE.quiet hb3
   have hDo := HX.out.2.2.2.2.2.1
   have hR3 : R ys (wo.alloc (.cells #[.string (S x.key), .string (S x.val), .int .i64 x.far] 299)) Zr := hDo.keep _ _ _ _ hR (fun b hb => hb3.block b (hDo.lts _ _ _ hR b hb))
   have hkp3 := hkp.trans (Kp.of_below hb3)
   have hN3 := hN.below hb3 hN.lt
   have hEn3 := hEn.below hb3
   have hysl : ys.length ≤ 90000 := by have := HX.out.2.2.2.2.2.2.1; omega
   have HGO := hid (hDo.go ys x _ Zr hR3 hysl)
   unfold enV at HGO
   have hen := hDo.en
   have H3 := hid (⟨hE3, hR3, hkp3, hN3, hEn3, htk, hb3, hsz⟩ : _ ∧ _ ∧ _ ∧ _ ∧ _ ∧ _ ∧ _ ∧ _)
   clear hE hR hkp hgr hwent hys hN hEn hA1 hx htk hb3 hE3 hDo hR3 hkp3 hN3 hEn3 hysl hsz
   by_cases h1 : x.key < fr
   ·have hb1 : Op.bytesLess x.key fr = true := by rw [bl]; exact decide_eq_true h1
    have H1 := hid h1
    clear hen h1
    go_wp2
    go_roundg (es.length - (j + 1))
    case measure => omega
    case rel =>
     obtain ⟨hE, hR, hkp, hgr, hwent, hys⟩ := HI.out
     obtain ⟨hE3, hR3, hkp3, hN3, hEn3, htk, hb3, hsz⟩ := H3.out
     refine ⟨j + 1, ys, Zr, by omega, by omega, by go_num, hid ⟨hE3, hR3, hkp3, hgr, ?_, by omega⟩, hid ⟨hN3, hEn3⟩⟩
     rw [htk]
     exact hwent.step (Went.one_lt H1.out)
   ·have hb1 : Op.bytesLess x.key fr = false := by rw [bl]; exact decide_eq_false h1
    have hb0 : (0 : Int) ≤ (j : Int) := by omega
    by_cases h2 : to ≠ [] ∧ ¬ x.key < to
    ·have hb2 : Op.bytesLess x.key to = false := by rw [bl]; exact decide_eq_false h2.2
     have hto := h2.1
     have htoe : to.isEmpty = false := by cases to with
      | nil => exact absurd rfl hto
      | cons a t => rfl
     have H1 := hid h1
     have H2 := hid h2
     clear hen h1 h2
     go_wp2
     go_ret2
     obtain ⟨hE, hR, hkp, hgr, hwent, hys⟩ := HI.out
     obtain ⟨hE3, hR3, hkp3, hN3, hEn3, htk, hb3, hsz⟩ := H3.out
     refine ⟨false, ys, Zr, s + 1, rfl, hR3, ?_, hE3, by omega, hkp3, hgr.mono (by have := HN.out.2.2.2.1; omega), by omega⟩
     have hw := hwent.step (Went.one_out H1.out H2.out)
     rw [← htk] at hw
     have := hw.more_false (es2 := es.drop (j + 1))
     rwa [List.take_append_drop] at this
    ·have h3 : to = [] ∨ (¬ to = [] ∧ x.key < to) := by
      by_cases e : to = []
      ·exact .inl e
      ·exact .inr ⟨e, Classical.byContradiction fun hn => h2 ⟨e, hn⟩⟩
     have H1 := hid h1
     have H2 := hid h2
     clear h1 h2
     rcases h3 with h3 | ⟨hto, h3⟩
     case' inr =>
      have hb2 : Op.bytesLess x.key to = true := by rw [bl]; exact decide_eq_true h3
      have htoe : to.isEmpty = false := by cases to with
       | nil => exact absurd rfl hto
       | cons a t => rfl
      clear h3
     all_goals
      go_wp2_with fail
      (with_reducible refine HGO.out.mono ?_)
      rintro e W4 ⟨Z4, rfl, hR4, hk4, hg4⟩
      obtain ⟨hE, hR, hkp, hgr, hwent, hys⟩ := HI.out
      obtain ⟨hE3, hR3, hkp3, hN3, hEn3, htk, hb3, hsz⟩ := H3.out
      obtain ⟨hW, _, _, _, hs, hDo, _, _, _⟩ := HX.out
      obtain ⟨hN2, hE2, hno, hsz01, hrow⟩ := HN.out
      have hnz : ∀ b, W.heap.size ≤ b → b < W1.heap.size + 1 → b ∉ Zr := fun b hb1 hb2 hz => by
       rcases hgr b hz with h | h
       ·have := (hW.dj b h).1; omega
       ·omega
      have hk4' : Kp (i.sb :: (Zr ++ O)) _ W4 := hk4.mono (fun y hy => .inl (by simp [hy]))
      have hE4 := hE3.step hs hk4' (hE3.hp.kp hk4 (fun b hb hz => (hE3.dj b hz).2.1 hb)) (hE3.sn.kp hk4 (fun hz => (hE3.dj _ hz).2.2.1 rfl)) hg4 (hDo.lts _ _ _ hR4)
      have hgr4 : Gr Z (W1.heap.size + 1) Z4 := hgr.trans hg4 (by have := hN3.lt; omega)
      have hkp4 : Kp (i.sb :: (Z ++ O)) W W4 := hkp3.trans_gr (gr_own (hgr.mono (by omega))) hk4'
      have hN4 := hN3.kp hk4 (hnz _ hsz01 (by omega))
      have hEn4 := hEn3.kp hk4 (fun b hb => hnz b (hrow b hb).1 (by have := (hrow b hb).2; omega))
      have hw4 := hwent.step (Went.one_do (x := x) H1.out H2.out)
      rw [← htk] at hw4
      have HF := hid (⟨hE4, hR4, hkp4, hgr4, hw4, hN4, hEn4, hys, hsz01⟩ : _ ∧ _ ∧ _ ∧ _ ∧ _ ∧ _ ∧ _ ∧ _ ∧ _)
      clear hR4 hk4 hg4 hE hR hkp hgr hwent hys hE3 hR3 hkp3 hN3 hEn3 htk hb3 hsz hW hs hDo hN2 hE2 hno hsz01 hrow hnz hk4' hE4 hgr4 hkp4 hN4 hEn4 hw4
      cases hm : more (ys ++ [x])
      ·have HM := hid hm
       clear hm
       go_wp2
       go_ret2
       obtain ⟨hE4, hR4, hkp4, hgr4, hw4, hN4, hEn4, hys, hsz01⟩ := HF.out
       rw [HM.out] at hw4
       refine ⟨false, ys ++ [x], Z4, s + 1, rfl, hR4, ?_, hE4, by omega, hkp4, hgr4.mono (by omega), by simp; omega⟩
       have := hw4.more_false (es2 := es.drop (j + 1))
       rwa [List.take_append_drop] at this
      ·have HM := hid hm
       clear hm
       go_wp2
       go_roundg (es.length - (j + 1))
       case measure => omega
       case rel =>
        obtain ⟨hE4, hR4, hkp4, hgr4, hw4, hN4, hEn4, hys, hsz01⟩ := HF.out
        rw [HM.out] at hw4
        exact ⟨j + 1, ys ++ [x], Z4, by omega, by omega, by go_num, hid ⟨hE4, hR4, hkp4, hgr4, hw4, by simp; omega⟩, hid ⟨hN4, hEn4⟩⟩
  ·have hjl : j = es.length := by omega
   subst hjl
   go_wp2
   go_ret2
   obtain ⟨hE, hR, hkp, hgr, hwent, hys⟩ := HI.out
   rw [List.take_length] at hwent
   exact ⟨true, ys, Zr, s + 1, rfl, hR, hwent, hE, by omega, hkp, hgr.mono (by have := HN.out.2.2.2.1; omega), hys⟩
end
end
section
open Go.RowKit Go.Lib
def ScR (n : Int) (lb nb : Nat) (xs : List En) (W : World) (Z : List Nat) : Prop :=
 nb < lb ∧ ∃ v, Blk W lb 290 #[v] ∧ Blk W nb 3 #[.int .i64 n] ∧ W.ownsRow (lb + 1) 299 3 v (xs.take n.toNat).length (rowV enC (xs.take n.toNat)) ∧ Z = lb :: nb :: v.ownBlock.toList
set_option maxHeartbeats 4000000 in
theorem scan1_any (n : Int) (lb nb : Nat) (xs : List En) (x : En) (W : World) (Z : List Nat) (h : ScR n lb nb xs W Z) (hx : xs.length ≤ 90000) :
  Calls Tryz.prog 176 (#[enV x] ++ #[.pointer (some ⟨lb, 0, none⟩), .pointer (some ⟨nb, 0, none⟩)]) W fun e w' => ∃ Z', e = .returned (.bool (decide (((xs ++ [x]).length : Int) < n))) ∧ ScR n lb nb (xs ++ [x]) w' Z' ∧ Kp Z W w' ∧ Gr Z W.heap.size Z' := by
 obtain ⟨hnl, v, hL, hN, hO, rfl⟩ := h
 obtain ⟨k, hk⟩ : ∃ k, k = (xs.take n.toNat).length := ⟨_, rfl⟩
 have hk2 : k = min n.toNat xs.length := by rw [hk, List.length_take]
 rw [← hk] at hO
 obtain ⟨a1, c1, rfl⟩ := own_slice2 hO
 have l0 : W.cell? ⟨lb, 0, none⟩ = some (.slice a1 k c1) := hL.cell 0
 have lf := hL.frozen 0
 have n0 : W.cell? ⟨nb, 0, none⟩ = some (.int .i64 n) := hN.cell 0
 have hlt := hL.lt
 have hnt := hN.lt
 have HX := hid (⟨hL, hN, hO, hk, hx⟩ : _ ∧ _ ∧ _ ∧ _ ∧ _)
 unfold enV
 by_cases hc : (xs.length : Int) < n
 ·have hkl : k = xs.length := by omega
  have hb : (k : Int) < n := by omega
  have hm : decide (((xs ++ [x]).length : Int) < n) = decide ((k : Int) + 1 < n) := by simp [hkl]
  have hw1 : IntKind.i64.wrap ((k : Int) + 1) = (k : Int) + 1 := by rw [IntKind.wrap_i64]; omega
  rw [hm]
  have HC := hid hc
  have HK := hid (⟨hkl, hk2⟩ : _ ∧ _)
  have HM := hid hm
  clear hL hN hO hc hkl hk hk2 hm hx
  go_enter Tryz.func176, Tryz.ntmps176
  go_wp2_with (with_reducible refine stopAt .append rfl ?_)
  with_reducible refine goOn ?_
  obtain ⟨W1, hW1⟩ : ∃ W1, W1 = W.alloc (.cells #[.string (S x.key), .string (S x.val), .int .i64 x.far] 299) := ⟨_, rfl⟩
  have hs1 : W1.heap.size = W.heap.size + 1 := by rw [hW1]; simp
  have hb1 : Below W.heap.size W W1 := by rw [hW1]; exact (Below.refl _ W).alloc (Nat.le_refl _) _
  rw [← hW1, ← hs1]
  clear hW1
  obtain ⟨hL, hN, hO, hk0, hx0⟩ := HX.out
  have hO1 : W1.ownsRow (lb + 1) 299 3 (.slice a1 k c1) k (rowV enC (xs.take n.toNat)) := row_of hO (fun b hb => hb1.block b (hO.lt b hb).2)
  have hkx := HX.out.2.2.2.2
  obtain ⟨hkl, hkm⟩ := HK.out
  have hc := HC.out
  refine app_one rfl _ _ 290 rfl enC infEn Tryz.underlying290 rfl (by decide) (by decide) enC_len enC_one x hO1 (by omega) (by omega) rfl rfl ?_
  intro v' W2 hO2 hk2 hg2
  obtain ⟨g2, c2, rfl, hg21, hg22, hg23⟩ := own_form hO2 (by omega)
  have hL1 : Blk W1 lb 290 #[.slice a1 k c1] := hL.below hb1 hlt
  have hN1 : Blk W1 nb 3 #[.int .i64 n] := hN.below hb1 hnt
  have hno : ∀ b, b ≤ lb → b ∉ (Value.slice a1 k c1).ownBlock.toList := fun b hb hm => by
   have := (hO.lt b (Option.mem_toList.1 hm)).1
   omega
  have hL2 : Blk W2 lb 290 #[.slice a1 k c1] := hL1.kp hk2 (hno lb (Nat.le_refl _))
  have hN2 : Blk W2 nb 3 #[.int .i64 n] := hN1.kp hk2 (hno nb (by omega))
  have l2 : W2.cell? ⟨lb, 0, none⟩ = some (.slice a1 k c1) := hL2.cell 0
  have lf2 := hL2.frozen 0
  have n2 : W2.cell? ⟨nb, 0, none⟩ = some (.int .i64 n) := hN2.cell 0
  have lt2 := hL2.lt
  have nt2 := hN2.lt
  have hne : nb ≠ lb := by omega
  have hres : ∀ e, ScR n lb nb (xs ++ [x]) (W2.setCell ⟨lb, 0, none⟩ (.slice (some ⟨g2, 0, none⟩) (k + 1) c2)) (lb :: nb :: [g2]) ∧ Kp (lb :: nb :: (Value.slice a1 k c1).ownBlock.toList) W (W2.setCell ⟨lb, 0, none⟩ (.slice (some ⟨g2, 0, none⟩) (k + 1) c2)) ∧ Gr (lb :: nb :: (Value.slice a1 k c1).ownBlock.toList) W.heap.size (lb :: nb :: [g2]) := fun (e : Unit) => by
   refine ⟨⟨hnl, _, by simpa using hL2.set_ 0 _, hN2.far (by simpa using hne) _, ?_, rfl⟩, ?_, ?_⟩
   ·have ht : (xs ++ [x]).take n.toNat = xs.take n.toNat ++ [x] := by
     rw [List.take_of_length_le (by simp; omega), List.take_of_length_le (by omega)]
    have hl : ((xs ++ [x]).take n.toNat).length = k + 1 := by rw [ht]; simp; omega
    rw [hl, ht]
    exact row_of hO2 (fun b hb => by
     simp [Value.ownBlock] at hb
     subst hb
     exact Below.heap_setCell _ _ _ _ (by simp; omega))
   ·have hKA : Kp (lb :: nb :: (Value.slice a1 k c1).ownBlock.toList) W W2 := (Kp.of_below hb1).trans (hk2.mono (fun y hy => .inl (List.mem_cons_of_mem _ (List.mem_cons_of_mem _ hy))))
    exact hKA.setCell (.inl (by simp)) _
   ·intro y hy
    simp only [List.mem_cons, List.not_mem_nil, or_false] at hy
    rcases hy with rfl | rfl | rfl
    ·exact .inl (by simp)
    ·exact .inl (by simp)
    ·rcases hg2 _ rfl with h | h
     ·exact .inl (by simp [h])
     ·exact .inr (Nat.le_trans (by omega) h)
  have HR := hid (hres ())
  clear hres hO1 hkx hkl hkm hk0 hx0 hc hO hL hN hL1 hN1 hno hL2 hN2 hO2 hk2 hg2 hg21 hg22 hg23 hs1 hb1 l0 lf n0
  go_wp2
  go_ret
  exact ⟨_, rfl, HR.out⟩
 ·have hb : ¬ (k : Int) < n := by omega
  have hb' : n ≤ (k : Int) := by omega
  have hm : decide (((xs ++ [x]).length : Int) < n) = false := by simp; omega
  rw [hm]
  have ht : (xs ++ [x]).take n.toNat = xs.take n.toNat := by rw [List.take_append_of_le_length (by omega)]
  have HR : Hid (∀ W', Below W.heap.size W W' → ScR n lb nb (xs ++ [x]) W' (lb :: nb :: (Value.slice a1 k c1).ownBlock.toList) ∧ Kp (lb :: nb :: (Value.slice a1 k c1).ownBlock.toList) W W' ∧ Gr (lb :: nb :: (Value.slice a1 k c1).ownBlock.toList) W.heap.size (lb :: nb :: (Value.slice a1 k c1).ownBlock.toList)) := hid fun W' hw => by
   refine ⟨⟨hnl, _, hL.below hw hlt, hN.below hw hnt, ?_, rfl⟩, Kp.of_below hw, Gr.refl _ _⟩
   rw [ht, ← hk]
   exact row_of hO (fun b hb => hw.block b (hO.lt b hb).2)
  clear hL hN hO hc hk hk2 hm hx ht
  go_enter Tryz.func176, Tryz.ntmps176
  go_wp2
  go_ret
  exact ⟨rfl, _, HR.out _ ((Below.refl _ W).alloc (Nat.le_refl _) _)⟩
theorem scan_do (n : Int) (lb nb : Nat) : DoI (fun l => decide ((l.length : Int) < n)) 176 #[.pointer (some ⟨lb, 0, none⟩), .pointer (some ⟨nb, 0, none⟩)] (ScR n lb nb) where
 keep := fun xs W W' Z h e => by
  obtain ⟨h1, v, h2, h3, h4, rfl⟩ := h
  exact ⟨h1, v, (e lb (by simp)).trans h2, (e nb (by simp)).trans h3, row_of h4 (fun b hb => e b (by simp [hb])), rfl⟩
 lts := fun xs W Z h b hb => by
  obtain ⟨h1, v, h2, h3, h4, rfl⟩ := h
  simp only [List.mem_cons, Option.mem_toList] at hb
  rcases hb with rfl | rfl | hb
  ·exact h2.lt
  ·exact h3.lt
  ·exact (h4.lt b hb).2
 en := fun vs W => Tryz.call176 vs W
 go := fun xs x W Z h hx => scan1_any n lb nb xs x W Z h hx
end
end Go.Proofs.YtnnghcooidjlhaaGreat
