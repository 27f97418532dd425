/- Parts of the proof: Xb Xc Gs Mm. -/
import Derived.Test.YtnnghcooidjlhaaGreatD01
import Derived.Test.YtnnghcooidjlhaaGreatD03
import Derived.Test.YtnnghcooidjlhaaGreatD27
set_option linter.all false
set_option maxRecDepth 100000
namespace Go.Proofs.YtnnghcooidjlhaaGreat
section
theorem cntI_setI {l : List Ix} (h : AscI l) (x : Ix) (k : Bs) : cntI (setI l x) k = if k = x.key then x.n else cntI l k := by
 by_cases hk : k = x.key
 ·rw [if_pos hk, hk]
  exact cntI_mem (setI_asc h x) (mem_setI_iff.2 (.inl rfl))
 ·rw [if_neg hk]
  by_cases hm : ∃ y ∈ l, y.key = k
  ·obtain ⟨y, hy, rfl⟩ := hm
   rw [cntI_mem h hy]
   exact cntI_mem (setI_asc h x) (mem_setI_iff.2 (.inr ⟨hy, hk⟩))
  ·rw [cntI_none (fun y hy e => hm ⟨y, hy, e⟩), cntI_none (fun y hy e => ?_)]
   rcases mem_setI_iff.1 hy with rfl | hy
   ·exact hk e.symm
   ·exact hm ⟨y, hy.1, e⟩
theorem cntI_delI {l : List Ix} (h : AscI l) (k' k : Bs) : cntI (delI l k') k = if k = k' then 0 else cntI l k := by
 by_cases hk : k = k'
 ·rw [if_pos hk, hk]
  exact cntI_none fun y hy e => (mem_delI_iff.1 hy).2 e
 ·rw [if_neg hk]
  by_cases hm : ∃ y ∈ l, y.key = k
  ·obtain ⟨y, hy, rfl⟩ := hm
   rw [cntI_mem h hy]
   exact cntI_mem (h.filter _) (mem_delI_iff.2 ⟨hy, hk⟩)
  ·rw [cntI_none (fun y hy e => hm ⟨y, hy, e⟩), cntI_none (fun y hy e => hm ⟨y, (mem_delI_iff.1 hy).1, e⟩)]
theorem cntI_addI {l : List Ix} (h : AscI l) (e : Ev) (d : Int) (k : Bs) : cntI (addI l e d) k = cntI l k + if k = keyB e then d else 0 := by
 unfold addI
 split
 ·next hz =>
  rw [cntI_delI h]
  split
  ·next hk => rw [hk]; omega
  ·omega
 ·next hz =>
  rw [cntI_setI h]
  show (if k = keyB e.nrm then _ else _) = _
  rw [keyB_nrm]
  split
  ·next hk => rw [hk]
  ·omega
theorem Ix.eq_of {lp : Int} {x y : Ix} (hx : x.fit lp) (hy : y.fit lp) (hk : x.key = y.key) (hn : x.n = y.n) : x = y := by
 have := keyB_inj hx.1 hx.2.1 hy.1 hy.2.1 (hx.2.2.2.1.trans hy.2.2.2.1.symm) hk
 rw [hx.2.2.1, hy.2.2.1] at this
 cases x; cases y
 simp_all
theorem ascI_ext {lp : Int} : ∀ {l l' : List Ix}, AscI l → AscI l' → (∀ x ∈ l, x.fit lp) → (∀ x ∈ l', x.fit lp) → (∀ k, cntI l k = cntI l' k) → l = l' := by
 have one : ∀ {l l' : List Ix}, AscI l → AscI l' → (∀ x ∈ l, x.fit lp) → (∀ x ∈ l', x.fit lp) → (∀ k, cntI l k = cntI l' k) → ∀ x ∈ l, x ∈ l' := fun {l l'} h h' f f' e x hx => by
  have h1 := e x.key
  rw [cntI_mem h hx] at h1
  by_cases hm : ∃ y ∈ l', y.key = x.key
  ·obtain ⟨y, hy, ek⟩ := hm
   rw [← ek, cntI_mem h' hy] at h1
   rw [Ix.eq_of (f x hx) (f' y hy) ek.symm h1]
   exact hy
  ·rw [cntI_none (fun y hy e => hm ⟨y, hy, e⟩)] at h1
   exact absurd h1 (f x hx).2.2.2.2
 have ext : ∀ {l l' : List Ix}, AscI l → AscI l' → (∀ x, x ∈ l ↔ x ∈ l') → l = l' := by
  intro M
  induction M with
  | nil =>
   intro M' h h' e
   cases M' with
   | nil => rfl
   | cons y t => exact absurd ((e y).2 (by simp)) (by simp)
  | cons x t ih =>
   intro M' h h' e
   cases M' with
   | nil => exact absurd ((e x).1 (by simp)) (by simp)
   | cons y t' =>
    have hx := List.pairwise_cons.1 h
    have hy := List.pairwise_cons.1 h'
    have hxy : x = y := by
     rcases List.mem_cons.1 ((e x).1 (by simp)) with h1 | h1
     ·exact h1
     ·rcases List.mem_cons.1 ((e y).2 (by simp)) with h2 | h2
      ·exact h2.symm
      ·exact absurd (hx.1 y h2) (blt_asymm (hy.1 x h1))
    subst hxy
    rw [ih hx.2 hy.2 (fun a => ?_)]
    constructor
    ·intro ha
     rcases List.mem_cons.1 ((e a).1 (by simp [ha])) with h1 | h1
     ·subst h1; exact absurd (hx.1 _ ha) (blt_irrefl _)
     ·exact h1
    ·intro ha
     rcases List.mem_cons.1 ((e a).2 (by simp [ha])) with h1 | h1
     ·subst h1; exact absurd (hy.1 _ ha) (blt_irrefl _)
     ·exact h1
 intro l l' h h' f f' e
 exact ext h h' fun x => ⟨one h h' f f' e x, one h' h f' f (fun k => (e k).symm) x⟩
/-! calls of Add -/
def sgI (a : Bool) : Int := if a = true then -1 else 1
def stepI (lp : Int) (l : List Ix) (x : Ev × Bool) : List Ix := if x.1.right ∧ x.1.dst = lp then addI l x.1 (sgI x.2) else l
def upI (lp : Int) (l : List Ix) (xs : List (Ev × Bool)) : List Ix := xs.foldl (stepI lp) l
def wgt (lp : Int) (k : Bs) (x : Ev × Bool) : Int := if (x.1.right ∧ x.1.dst = lp) ∧ k = keyB x.1 then sgI x.2 else 0
def sumI (lp : Int) (k : Bs) (xs : List (Ev × Bool)) : Int := (xs.map (wgt lp k)).sum
theorem stepI_asc {l : List Ix} (h : AscI l) (lp : Int) (x : Ev × Bool) : AscI (stepI lp l x) := by
 unfold stepI
 split
 ·exact addI_asc h _ _
 ·exact h
theorem addI_fit {l : List Ix} {lp : Int} (h : ∀ x ∈ l, x.fit lp) {e : Ev} (hr : e.right) (ho : e.ok) (hd : e.dst = lp) (d : Int) : ∀ x ∈ addI l e d, x.fit lp := by
 intro x hx
 unfold addI at hx
 split at hx
 ·exact h x (mem_delI_iff.1 hx).1
 ·next hn =>
  rcases mem_setI_iff.1 hx with rfl | hx
  ·exact ⟨Ev.nrm_right hr, Ev.nrm_ok ho, Ev.nrm_nrm _, hd, hn⟩
  ·exact h x hx.1
theorem addI_le {l : List Ix} {c : Nat} (h : ∀ x ∈ l, x.n.natAbs ≤ c) (e : Ev) {d : Int} (hd : d.natAbs ≤ 1) : ∀ x ∈ addI l e d, x.n.natAbs ≤ c + 1 := by
 intro x hx
 unfold addI at hx
 split at hx
 ·exact Nat.le_succ_of_le (h x (mem_delI_iff.1 hx).1)
 ·next hn =>
  rcases mem_setI_iff.1 hx with rfl | hx
  ·have := cntI_le h (keyB e)
   show (cntI l (keyB e) + d).natAbs ≤ c + 1
   omega
  ·exact Nat.le_succ_of_le (h x hx.1)
theorem addI_length (l : List Ix) (e : Ev) (d : Int) : (addI l e d).length ≤ l.length + 1 := by
 unfold addI
 split
 ·exact Nat.le_succ_of_le (List.length_filter_le _ _)
 ·exact setI_length _ _
theorem sgI_abs (a : Bool) : (sgI a).natAbs ≤ 1 := by cases a <;> decide
theorem upI_all {lp : Int} : ∀ {xs : List (Ev × Bool)} {l : List Ix}, AscI l → (∀ x ∈ l, x.fit lp) → (∀ x ∈ xs, x.1.ok) → AscI (upI lp l xs) ∧ (∀ x ∈ upI lp l xs, x.fit lp) ∧ ∀ k, cntI (upI lp l xs) k = cntI l k + sumI lp k xs
 | [], l, h, f, _ => ⟨h, f, fun k => by simp [upI, sumI]⟩
 | x :: t, l, h, f, ho => by
  have h1 := stepI_asc h lp x
  have f1 : ∀ y ∈ stepI lp l x, y.fit lp := by
   unfold stepI
   split
   ·next hr => exact addI_fit f hr.1 (ho x (by simp)) hr.2 _
   ·exact f
  obtain ⟨g1, g2, g3⟩ := upI_all (xs := t) h1 f1 (fun y hy => ho y (by simp [hy]))
  refine ⟨g1, g2, fun k => ?_⟩
  show cntI (upI lp (stepI lp l x) t) k = _
  rw [g3]
  have : cntI (stepI lp l x) k = cntI l k + wgt lp k x := by
   unfold stepI wgt
   split
   ·next hr =>
    rw [cntI_addI h]
    simp only [hr.1, hr.2, and_self, true_and]
   ·next hr =>
    rw [if_neg (fun h => hr h.1)]
    omega
  rw [this]
  unfold sumI
  rw [List.map_cons, List.sum_cons]
  omega
theorem sumI_append (lp : Int) (k : Bs) (xs ys : List (Ev × Bool)) : sumI lp k (xs ++ ys) = sumI lp k xs + sumI lp k ys := by
 unfold sumI
 rw [List.map_append, List.sum_append_int]
theorem upI_turn {lp : Int} (xs ys : List (Ev × Bool)) (ho : ∀ x ∈ xs ++ ys, x.1.ok) : upI lp [] (xs ++ ys) = upI lp [] (ys ++ xs) := by
 obtain ⟨a1, a2, a3⟩ := upI_all (lp := lp) (xs := xs ++ ys) (l := []) List.Pairwise.nil (by simp) ho
 obtain ⟨b1, b2, b3⟩ := upI_all (lp := lp) (xs := ys ++ xs) (l := []) List.Pairwise.nil (by simp) (fun x hx => ho x (by
  rcases List.mem_append.1 hx with h | h
  ·simp [h]
  ·simp [h]))
 refine ascI_ext a1 b1 a2 b2 fun k => ?_
 rw [a3, b3, sumI_append, sumI_append]
 omega
def flipA (x : Ev × Bool) : Ev × Bool := (x.1, !x.2)
theorem wgt_flip (lp : Int) (k : Bs) (x : Ev × Bool) : wgt lp k (flipA x) = - wgt lp k x := by
 unfold wgt flipA sgI
 cases x.2 <;> simp <;> split <;> simp_all
theorem sumI_flip (lp : Int) (k : Bs) : ∀ xs : List (Ev × Bool), sumI lp k (xs.map flipA).reverse = - sumI lp k xs
 | [] => by simp [sumI]
 | x :: t => by
  have ih := sumI_flip lp k t
  rw [List.map_cons, List.reverse_cons, sumI_append, ih]
  unfold sumI
  rw [List.map_cons, List.map_nil, List.sum_cons, List.sum_nil, List.map_cons, List.sum_cons, wgt_flip]
  omega
theorem upI_back {lp : Int} (xs : List (Ev × Bool)) (ho : ∀ x ∈ xs, x.1.ok) : upI lp [] (xs ++ (xs.map flipA).reverse) = [] := by
 obtain ⟨a1, a2, a3⟩ := upI_all (lp := lp) (xs := xs ++ (xs.map flipA).reverse) (l := []) List.Pairwise.nil (by simp) (fun x hx => by
  rcases List.mem_append.1 hx with h | h
  ·exact ho x h
  ·obtain ⟨y, hy, rfl⟩ := List.mem_map.1 (List.mem_reverse.1 h)
   exact ho y hy)
 refine ascI_ext a1 List.Pairwise.nil a2 (by simp) fun k => ?_
 rw [a3, sumI_append, sumI_flip]
 simp [cntI]
 omega
/-! the reference -/
def cutI (l : List Ix) (k : Bs) : Nat := (l.takeWhile fun y => decide (y.key < k)).length
theorem cutI_le (l : List Ix) (k : Bs) : cutI l k ≤ l.length := (List.takeWhile_prefix _).length_le
theorem cutI_nil (k : Bs) : cutI [] k = 0 := rfl
theorem cutI_cons (x : Ix) (t : List Ix) (k : Bs) : cutI (x :: t) k = if x.key < k then cutI t k + 1 else 0 := by
 unfold cutI
 by_cases h : x.key < k
 ·rw [List.takeWhile_cons_of_pos (by simpa using h), if_pos h]; rfl
 ·rw [List.takeWhile_cons_of_neg (by simpa using h), if_neg h]; rfl
theorem cutI_lt {l : List Ix} {k : Bs} {i : Nat} {x : Ix} (hx : l[i]? = some x) (hi : i < cutI l k) : x.key < k := by
 induction l generalizing i with
 | nil => simp at hx
 | cons y t ih =>
  rw [cutI_cons] at hi
  by_cases h : y.key < k
  ·rw [if_pos h] at hi
   cases i with
   | zero => simp at hx; rw [← hx]; exact h
   | succ i => exact ih (by simpa using hx) (by omega)
  ·rw [if_neg h] at hi; omega
theorem cutI_at {l : List Ix} {k : Bs} {x : Ix} (hx : l[cutI l k]? = some x) : ¬ x.key < k := by
 induction l with
 | nil => simp at hx
 | cons y t ih =>
  rw [cutI_cons] at hx
  by_cases h : y.key < k
  ·rw [if_pos h] at hx
   exact ih (by simpa using hx)
  ·rw [if_neg h] at hx
   simp at hx
   rw [← hx]; exact h
theorem cutI_parts {l : List Ix} (h : AscI l) (k : Bs) : l.take (cutI l k) = l.filter (fun y => decide (y.key < k)) ∧ (∀ x, l[cutI l k]? = some x → x.key = k → cntI l k = x.n ∧ l.drop (cutI l k + 1) = l.filter fun y => decide (k < y.key)) ∧ ((∀ x, l[cutI l k]? = some x → x.key ≠ k) → cntI l k = 0 ∧ l.drop (cutI l k) = l.filter fun y => decide (k < y.key)) := by
 induction l with
 | nil => simp [cutI, cntI]
 | cons y t ih =>
  have h' := List.pairwise_cons.1 h
  obtain ⟨i1, i2, i3⟩ := ih h'.2
  rw [cutI_cons]
  by_cases hy : y.key < k
  ·rw [if_pos hy]
   have hne : ¬ y.key = k := fun e => by rw [e] at hy; exact blt_irrefl _ hy
   have e2 : cntI (y :: t) k = cntI t k := by unfold cntI; rw [List.find?_cons_of_neg (by simpa using hne)]
   have e3 : ((y :: t).filter fun z => decide (k < z.key)) = t.filter fun z => decide (k < z.key) := List.filter_cons_of_neg (by simpa using blt_asymm hy)
   rw [List.filter_cons_of_pos (by simpa using hy), e2, e3]
   refine ⟨by rw [List.take_succ_cons, i1], fun x hx hk => ?_, fun hx => ?_⟩
   ·exact i2 x (by simpa using hx) hk
   ·exact i3 fun x hx' => hx x (by simpa using hx')
  ·rw [if_neg hy]
   have hall : ∀ z ∈ t, ¬ z.key < k := fun z hz e => hy (blt_trans (h'.1 z hz) e)
   have hgt : ∀ z ∈ t, y.key = k ∨ k < z.key := fun z hz => by
    rcases blt_tri y.key k with g | g | g
    ·exact absurd g hy
    ·exact .inl g
    ·exact .inr (blt_trans g (h'.1 z hz))
   refine ⟨?_, fun x hx hk => ?_, fun hx => ?_⟩
   ·rw [List.filter_eq_nil_iff.2 (fun z hz => by
     rcases List.mem_cons.1 hz with rfl | hz
     ·simpa using hy
     ·simpa using hall z hz)]
    rfl
   ·simp at hx
    subst hx
    refine ⟨by rw [← hk]; exact cntI_mem h (by simp), ?_⟩
    rw [List.filter_cons_of_neg (by rw [hk]; simpa using blt_irrefl k)]
    show t = _
    exact (List.filter_eq_self.2 fun z hz => by rw [← hk]; simpa using h'.1 z hz).symm
   ·have hk : y.key ≠ k := hx y (by simp)
    have hky : k < y.key := by
     rcases blt_tri y.key k with g | g | g
     ·exact absurd g hy
     ·exact absurd g hk
     ·exact g
    have hall2 : ∀ z ∈ y :: t, k < z.key := fun z hz => by
     rcases List.mem_cons.1 hz with rfl | hz
     ·exact hky
     ·exact blt_trans hky (h'.1 z hz)
    refine ⟨cntI_none fun z hz e => ?_, (List.filter_eq_self.2 fun z hz => by simpa using hall2 z hz).symm⟩
    have := hall2 z hz
    rw [e] at this
    exact blt_irrefl _ this
theorem delI_eq {l : List Ix} (h : AscI l) (k : Bs) : delI l k = l.filter (fun y => decide (y.key < k)) ++ l.filter fun y => decide (k < y.key) := by
 unfold delI
 induction l with
 | nil => rfl
 | cons y t ih =>
  have h' := List.pairwise_cons.1 h
  have ih := ih h'.2
  rcases blt_tri y.key k with g | g | g
  ·have hne : y.key ≠ k := fun e => by rw [e] at g; exact blt_irrefl _ g
   rw [List.filter_cons_of_pos (by simpa using hne), List.filter_cons_of_pos (by simpa using g), List.filter_cons_of_neg (by simpa using blt_asymm g), ih, List.cons_append]
  ·have e0 : (t.filter fun z => decide (z.key < k)) = [] := List.filter_eq_nil_iff.2 fun z hz => by
    have := h'.1 z hz
    rw [g] at this
    simpa using blt_asymm this
   rw [List.filter_cons_of_neg (by simpa using g), List.filter_cons_of_neg (by rw [g]; simpa using blt_irrefl k), List.filter_cons_of_neg (by rw [g]; simpa using blt_irrefl k), ih]
  ·have hne : y.key ≠ k := fun e => by rw [e] at g; exact blt_irrefl _ g
   have e0 : (t.filter fun z => decide (z.key < k)) = [] := List.filter_eq_nil_iff.2 fun z hz => by simpa using blt_asymm (blt_trans g (h'.1 z hz))
   rw [List.filter_cons_of_pos (by simpa using hne), List.filter_cons_of_neg (by simpa using blt_asymm g), List.filter_cons_of_pos (by simpa using g), ih, e0]
   rfl
def wasR (l : List Ix) (k : Bs) : Int := match l[cutI l k]? with | some x => if x.key = k then x.n else 0 | none => 0
def endR (l : List Ix) (k : Bs) : Nat := match l[cutI l k]? with | some x => if x.key = k then cutI l k + 1 else cutI l k | none => cutI l k
theorem wasR_eq {l : List Ix} (h : AscI l) (k : Bs) : wasR l k = cntI l k := by
 obtain ⟨_, h2, h3⟩ := cutI_parts h k
 unfold wasR
 cases e : l[cutI l k]? with
 | none => exact (h3 (fun x hx => by rw [e] at hx; simp at hx)).1.symm
 | some x =>
  show (if x.key = k then x.n else 0) = _
  split
  ·next hk => exact (h2 x e hk).1.symm
  ·next hk => exact (h3 (fun y hy => by rw [e] at hy; injection hy with hy; rw [← hy]; exact hk)).1.symm
theorem endR_drop {l : List Ix} (h : AscI l) (k : Bs) : l.drop (endR l k) = l.filter fun y => decide (k < y.key) := by
 obtain ⟨_, h2, h3⟩ := cutI_parts h k
 unfold endR
 cases e : l[cutI l k]? with
 | none => exact (h3 (fun x hx => by rw [e] at hx; simp at hx)).2
 | some x =>
  show l.drop (if x.key = k then cutI l k + 1 else cutI l k) = _
  split
  ·next hk => exact (h2 x e hk).2
  ·next hk => exact (h3 (fun y hy => by rw [e] at hy; injection hy with hy; rw [← hy]; exact hk)).2
theorem addR_eq {l : List Ix} (h : AscI l) (e : Ev) (d : Int) : addI l e d = if cntI l (keyB e) + d = 0 then l.take (cutI l (keyB e)) ++ l.drop (endR l (keyB e)) else l.take (cutI l (keyB e)) ++ ⟨e.nrm, cntI l (keyB e) + d⟩ :: l.drop (endR l (keyB e)) := by
 unfold addI
 rw [(cutI_parts h (keyB e)).1, endR_drop h]
 split
 ·exact delI_eq h _
 ·unfold setI
  show List.filter (fun y => decide (y.key < keyB e.nrm)) l ++ _ = _
  show List.filter (fun y => decide (y.key < keyB e.nrm)) l ++ _ :: List.filter (fun y => decide (keyB e.nrm < y.key)) l = _
  rw [keyB_nrm]
/-! what is asked -/
def betI (l : List Ix) (a u : Bs) : List Ev := (l.filter fun x => decide (0 < x.n) && (decide (a < x.key) && !decide (u < x.key))).map Ix.e
def nextI (l : List Ix) (a : Bs) : Option Ev := (l.find? fun x => decide (0 < x.n) && decide (a < x.key)).map Ix.e
def aheadI (l : List Ix) (o : Bs) : Option Bs := ((l.filter fun x => decide (0 < x.n) && decide (x.key < o)).getLast?).map Ix.key
def moreI (l : List Ix) : Nat := l.countP fun x => decide (0 < x.n)
def forgI (l : List Ix) (u : Bs) : List Ix := l.filter fun x => decide (u < x.key)
end
section
theorem blt_snoc : ∀ {a k : Bs}, ¬ k < a ++ [0] ↔ a < k
 | [], [] => by decide
 | [], x :: t => by
  simp only [List.nil_append, List.cons_lt_cons_iff]
  have h1 : ¬ x < 0 := by
   intro h
   have := UInt8.lt_iff_toNat_lt.1 h
   simp at this
  have h2 : ¬ t < ([] : Bs) := by simp
  have h3 : ([] : Bs) < x :: t := by simp
  simp [h1, h2, h3]
 | y :: s, [] => by simp
 | y :: s, x :: t => by
  have ih := blt_snoc (a := s) (k := t)
  simp only [List.cons_append, List.cons_lt_cons_iff]
  have t1 : ∀ a b : UInt8, a < b ↔ a.toNat < b.toNat := fun a b => UInt8.lt_iff_toNat_lt
  have t2 : ∀ a b : UInt8, a = b ↔ a.toNat = b.toNat := fun a b => UInt8.toNat_inj.symm
  rw [← ih, t1, t1, t2 x y, t2 y x]
  constructor
  ·intro h
   by_cases h1 : y.toNat < x.toNat
   ·exact .inl h1
   ·by_cases h2 : x.toNat < y.toNat
    ·exact absurd (.inl h2) h
    ·exact .inr ⟨by omega, fun g => h (.inr ⟨by omega, g⟩)⟩
  ·rintro (h | ⟨h, g⟩) (k | ⟨k, m⟩)
   ·omega
   ·omega
   ·omega
   ·exact g m
def fromI (a : Bs) : Bs := if a = [] then [] else a ++ [0]
theorem keyB_ne (e : Ev) : keyB e ≠ [] := by
 intro h
 have := congrArg List.length h
 simp at this
theorem nil_blt {k : Bs} (h : k ≠ []) : ([] : Bs) < k := by
 cases k with
 | nil => exact absurd rfl h
 | cons x t => exact List.Lex.nil
theorem inR_from (a b : Bs) {k : Bs} (hk : k ≠ []) : inR (fromI a) b k = (decide (a < k) && decide (b = [] ∨ k < b)) := by
 unfold inR fromI
 congr 1
 split
 ·next h =>
  rw [h]
  exact decide_eq_decide.2 ⟨fun _ => nil_blt hk, fun _ h => by cases h⟩
 ·exact decide_eq_decide.2 blt_snoc
def rngI (l : List Ix) (a b : Bs) : List Ix := l.filter fun x => decide (a < x.key) && decide (b = [] ∨ x.key < b)
theorem rngI_eq (l : List Ix) (a b : Bs) : (l.filter fun y => inR (fromI a) b y.key) = rngI l a b := by
 unfold rngI
 exact List.filter_congr fun x _ => inR_from a b (keyB_ne x.e)
def goX (more : Ix → Bool) : List Ix → List Ix
 | [] => []
 | x :: t => if more x = true then x :: goX more t else [x]
theorem goX_all {more : Ix → Bool} : ∀ {L : List Ix}, (∀ x ∈ L, more x = true) → goX more L = L
 | [], _ => rfl
 | x :: t, h => by
  unfold goX
  rw [if_pos (h x (by simp)), goX_all fun y hy => h y (by simp [hy])]
theorem goX_end {more : Ix → Bool} : ∀ {L : List Ix} {j : Nat} {x : Ix}, L[j]? = some x → (∀ y ∈ L.take j, more y = true) → ¬ more x = true → goX more L = L.take (j + 1)
 | [], j, x, h, _, _ => by simp at h
 | y :: t, 0, x, h, _, hx => by
  simp at h
  subst h
  unfold goX
  rw [if_neg hx]
  rfl
 | y :: t, j + 1, x, h, ha, hx => by
  unfold goX
  rw [if_pos (ha y (by simp)), goX_end (j := j) (by simpa using h) (fun z hz => ha z (by simp [hz])) hx]
  rfl
theorem goX_sub (more : Ix → Bool) : ∀ (L : List Ix), ∀ x ∈ goX more L, x ∈ L
 | [], x, h => by simp [goX] at h
 | y :: t, x, h => by
  unfold goX at h
  split at h
  ·rcases List.mem_cons.1 h with rfl | h
   ·simp
   ·exact List.mem_cons_of_mem _ (goX_sub more t x h)
  ·rw [List.mem_singleton.1 h]; simp
def lastI (xs : List Ix) : Bs := xs.foldl (fun k x => if 0 < x.n then x.key else k) []
theorem lastI_snoc (xs : List Ix) (x : Ix) : lastI (xs ++ [x]) = if 0 < x.n then x.key else lastI xs := by
 unfold lastI
 rw [List.foldl_append]
 rfl
theorem lastI_go (L : List Ix) : lastI (goX (fun x => decide (x.n ≤ 0)) L) = match L.find? (fun x => decide (0 < x.n)) with | some x => x.key | none => [] := by
 have main : ∀ (L : List Ix) (k : Bs), (goX (fun x => decide (x.n ≤ 0)) L).foldl (fun k x => if 0 < x.n then x.key else k) k = match L.find? (fun x => decide (0 < x.n)) with | some x => x.key | none => k := by
  intro L
  induction L with
  | nil => intro k; rfl
  | cons x t ih =>
   intro k
   unfold goX
   by_cases h : 0 < x.n
   ·rw [if_neg (by simp; omega), List.find?_cons_of_pos (by simpa using h)]
    simp [h]
   ·rw [if_pos (by simp; omega), List.find?_cons_of_neg (by simpa using h), List.foldl_cons, if_neg h]
    exact ih k
 exact main L []
theorem nextI_eq (l : List Ix) (a : Bs) : nextI l a = ((rngI l a []).find? fun x => decide (0 < x.n)).map Ix.e := by
 unfold nextI rngI
 congr 1
 rw [List.find?_filter]
 congr 1
 funext x
 simp only [true_or, decide_true, Bool.and_true]
 cases decide (a < x.key) <;> cases decide (0 < x.n) <;> rfl
theorem lastI_ahead (l : List Ix) (o : Bs) : lastI (rngI l [] o) = if o = [] then lastI (rngI l [] []) else (aheadI l o).getD [] := by
 split
 ·next h => rw [h]
 ·next h =>
  unfold aheadI rngI
  have main : ∀ (L : List Ix), lastI (L.filter fun x => decide (([] : Bs) < x.key) && decide (o = [] ∨ x.key < o)) = (((L.filter fun x => decide (0 < x.n) && decide (x.key < o)).getLast?).map Ix.key).getD [] := by
   intro L
   rw [← List.reverse_reverse L]
   induction L.reverse with
   | nil => rfl
   | cons x t ih =>
    rw [List.reverse_cons, List.filter_append, List.filter_append]
    have hk : ([] : Bs) < x.key := nil_blt (keyB_ne x.e)
    by_cases h1 : x.key < o
    ·rw [List.filter_cons_of_pos (by simp [hk, h1]), List.filter_nil, lastI_snoc]
     by_cases h2 : 0 < x.n
     ·rw [if_pos h2, List.filter_cons_of_pos (by simp [h2, h1]), List.filter_nil, List.getLast?_append]
      rfl
     ·rw [if_neg h2, List.filter_cons_of_neg (by simp [h2]), List.filter_nil, List.append_nil]
      exact ih
    ·rw [List.filter_cons_of_neg (by simp [h1, h]), List.filter_cons_of_neg (by simp [h1]), List.filter_nil, List.filter_nil, List.append_nil, List.append_nil]
     exact ih
  exact main l
def keysI (u : Bs) (xs : List Ix) : List Ix := xs.filter fun x => decide (0 < x.n) && !decide (u < x.key)
theorem keysI_snoc (u : Bs) (xs : List Ix) (x : Ix) : keysI u (xs ++ [x]) = if 0 < x.n ∧ ¬ u < x.key then keysI u xs ++ [x] else keysI u xs := by
 unfold keysI
 rw [List.filter_append]
 split
 ·next h => rw [List.filter_cons_of_pos (by simp [h])]; rfl
 ·next h =>
  rw [List.filter_cons_of_neg (by
   intro g
   simp only [Bool.and_eq_true, decide_eq_true_eq, Bool.not_eq_true', decide_eq_false_iff_not] at g
   exact h g), List.filter_nil, List.append_nil]
theorem keysI_go {l : List Ix} (h : AscI l) (a u : Bs) : (keysI u (goX (fun x => !decide (u < x.key)) (rngI l a []))).map Ix.e = betI l a u := by
 have main : ∀ (L : List Ix), AscI L → keysI u (goX (fun x => !decide (u < x.key)) L) = keysI u L := by
  intro L
  induction L with
  | nil => intro _; rfl
  | cons x t ih =>
   intro hL
   have h' := List.pairwise_cons.1 hL
   unfold goX
   by_cases hu : u < x.key
   ·rw [if_neg (by simp [hu])]
    unfold keysI
    rw [List.filter_cons_of_neg (by simp [hu]), List.filter_cons_of_neg (by simp [hu]), List.filter_nil, List.filter_eq_nil_iff.2]
    intro y hy
    have := blt_trans hu (h'.1 y hy)
    simp [this]
   ·rw [if_pos (by simp [hu])]
    unfold keysI at ih ⊢
    by_cases hn : 0 < x.n
    ·rw [List.filter_cons_of_pos (by simp [hu, hn]), List.filter_cons_of_pos (by simp [hu, hn]), ih h'.2]
    ·rw [List.filter_cons_of_neg (by simp [hn]), List.filter_cons_of_neg (by simp [hn]), ih h'.2]
 have hr : AscI (rngI l a []) := h.filter _
 rw [main _ hr]
 unfold betI keysI rngI
 rw [List.filter_filter]
 congr 1
 refine List.filter_congr fun x _ => ?_
 simp only [true_or, decide_true, Bool.and_true]
 cases decide (0 < x.n) <;> cases decide (u < x.key) <;> cases decide (a < x.key) <;> rfl
theorem rngI_all (l : List Ix) : rngI l [] [] = l := List.filter_eq_self.2 fun x _ => by
 have := nil_blt (keyB_ne x.e)
 simp [Ix.key, this]
theorem moreI_snoc (xs : List Ix) (x : Ix) : moreI (xs ++ [x]) = if 0 < x.n then moreI xs + 1 else moreI xs := by
 unfold moreI
 rw [List.countP_append]
 by_cases h : 0 < x.n <;> simp [h]
theorem moreI_le (xs : List Ix) : moreI xs ≤ xs.length := List.countP_le_length
theorem forg_eq (l : List Ix) (u : Bs) : (l.filter fun y => !inR [] (u ++ [0]) y.key) = forgI l u := by
 unfold forgI
 refine List.filter_congr fun x _ => ?_
 have h1 : ¬ x.key < ([] : Bs) := fun h => by cases h
 have h2 : ¬ (u ++ [0] = ([] : Bs)) := by simp
 have h3 := blt_snoc (a := u) (k := x.key)
 unfold inR
 by_cases h : u < x.key
 ·have := h3.2 h
  simp [h1, this, h]
 ·have : x.key < u ++ [0] := Classical.byContradiction fun g => h (h3.1 g)
  simp [h1, this, h]
end
section
open Go.RowKit
def BelC (W1 : World) (W : World) : Prop := Below W1.heap.size W1 W
theorem BelC.out {W1 W : World} (h : BelC W1 W) : Below W1.heap.size W1 W := h
theorem BelC.refl (W1 : World) : BelC W1 W1 := Below.refl _ _
theorem BelC.drew (W1 : World) : BelC W1 W1.drew := below_drewN (Below.refl _ W1) 1
theorem BelC.call {P : Program} {W1 : World} {f : FuncId} {vs : Array Value} {v : Value} (hc : ∀ W, Calls P f vs W fun e w' => e = .returned v ∧ Below W.heap.size W w') : ∀ W, BelC W1 W → Calls P f vs W fun e w' => e = .returned v ∧ BelC W1 w' := fun W hW => by
 refine (hc W).mono ?_
 rintro e w' ⟨rfl, hb⟩
 exact ⟨rfl, hW.out.trans (hb.mono hW.out.size)⟩
theorem BelC.call_same {P : Program} {W1 : World} {f : FuncId} {vs : Array Value} {v : Value} (hc : ∀ W, Calls P f vs W fun e w' => e = .returned v ∧ W = w') : ∀ W, BelC W1 W → Calls P f vs W fun e w' => e = .returned v ∧ BelC W1 w' := fun W hW => by
 refine (hc W).mono ?_
 rintro e w' ⟨rfl, rfl⟩
 exact ⟨rfl, hW⟩
theorem BelC.blk {W1 W : World} {g : Nat} {t : TypeId} {cs : Array Value} (h : BelC W1 W) (hB : Blk W1 g t cs) : Blk W g t cs := hB.below h.out hB.lt
theorem BelC.alloc {W1 W : World} (h : BelC W1 W) (o : Obj) : BelC W1 (W.alloc o) := Below.alloc h (Below.size h) o
theorem BelC.drew_of {W1 W : World} (h : BelC W1 W) : BelC W1 W.drew := below_drewN h 1
theorem BelC.trans {W1 W2 W3 : World} (h : BelC W1 W2) (k : BelC W2 W3) : BelC W1 W3 := Below.trans h (k.out.mono h.out.size)
theorem BelC.of {W1 W2 : World} (h : Below W1.heap.size W1 W2) : BelC W1 W2 := h
theorem BelC.set_new {W1 W : World} (h : BelC W1 W) (p : Addr) (hp : W1.heap.size ≤ p.block) (u : Value) : BelC W1 (W.setCell p u) := Below.setCell h hp u
attribute [irreducible] BelC
end
section
open Go.RowKit Go.Lib
set_option maxHeartbeats 8000000 in
theorem reckey_any (e : Ev) (h : e.right) (ho : e.ok) (w : World) :
  Calls Tryz.prog 106 #[evV e] w fun r w' => r = .returned (.tuple #[.string (S (keyB e)), .int .i64 0]) ∧ Below w.heap.size w w' := by
 have HR := hid (fun W => rightv_any e W)
 rw [decide_eq_true h] at HR
 have hw1 : IntKind.i64.wrap (e.src + 1) = e.src + 1 := by
  have := h.2.1; have := h.2.2.1
  rw [IntKind.wrap_i64]; omega
 have HCC := hid (fun (W1 : World) => (⟨BelC.call (W1 := W1) (rtime_any e h ho), BelC.call (W1 := W1) (one_any (e.src + 1) (by have := h.2.1; have := h.2.2.1; omega)), BelC.call (W1 := W1) (fun W => packI_any e.n W ho.2.2.1.1 ho.2.2.1.2), BelC.call (W1 := W1) (fun W => packI_any e.pay W ho.2.2.2.2.1 ho.2.2.2.2.2)⟩ : _ ∧ _ ∧ _ ∧ _))
 unfold evV at HCC HR ⊢
 clear h ho
 go_enter Tryz.func106, Tryz.ntmps106
 go_wp2_with fail
 (with_reducible refine (HR.out _).mono ?_)
 rintro r W1 ⟨rfl, hb1⟩
 have hB := (Blk.new w 67 #[.float .f64 e.t, .int .i64 e.src, .int .i64 e.n, .int .i64 e.dst, .int .i64 e.pay]).below hb1 (Blk.new _ _ _).lt
 have HB := hid (((Below.refl _ w).alloc (Nat.le_refl _) (.cells #[.float .f64 e.t, .int .i64 e.src, .int .i64 e.n, .int .i64 e.dst, .int .i64 e.pay] 67)).trans (hb1.mono (by simp)))
 have HCL : Hid (∀ W, BelC W1 W → W.cell? ⟨w.heap.size, 0, none⟩ = some (.float .f64 e.t) ∧ W.cell? ⟨w.heap.size, 1, none⟩ = some (.int .i64 e.src) ∧ W.cell? ⟨w.heap.size, 2, none⟩ = some (.int .i64 e.n) ∧ W.cell? ⟨w.heap.size, 3, none⟩ = some (.int .i64 e.dst) ∧ W.cell? ⟨w.heap.size, 4, none⟩ = some (.int .i64 e.pay)) := hid fun W hW => by
  have h1 := hW.blk hB
  exact ⟨h1.cell 0, h1.cell 1, h1.cell 2, h1.cell 3, h1.cell 4⟩
 have H1 := hid (HCC.out W1).1
 have H2 := hid (HCC.out W1).2.1
 have H3 := hid (HCC.out W1).2.2.1
 have H4 := hid (HCC.out W1).2.2.2
 have HF : Hid (∀ W, BelC W1 W → Below w.heap.size w W) := hid fun W hW => HB.out.trans (hW.out.mono HB.out.size)
 clear hb1 hB
 go_wp2
 refine qC_region (by kernel_rfl) (by kernel_rfl) (BelC W1) (BelC.drew W1) ?_
 repeat (first | (refine qC_none rfl (fun K hK => ?_); apply Exists.intro; refine ⟨fun w0 hw0 => ?_, ?_⟩; (focus (obtain ⟨q0, q1, q2, q3, q4⟩ := HCL.out w0 hw0; go_simp; first | exact rfl | exact ⟨rfl, rfl⟩ | (first | exact H1.out w0 hw0 | exact H2.out w0 hw0 | exact H3.out w0 hw0 | exact H4.out w0 hw0))); go_simp; refine hK _ ?_; clear hK K) | (refine qC_yes _ _ _ rfl rfl (by rfl) (fun K hK => ?_); apply Exists.intro; refine ⟨fun w0 hw0 => ?_, ?_⟩; (focus (obtain ⟨q0, q1, q2, q3, q4⟩ := HCL.out w0 hw0; go_simp; first | exact rfl | exact ⟨rfl, rfl⟩ | (first | exact H1.out w0 hw0 | exact H2.out w0 hw0 | exact H3.out w0 hw0 | exact H4.out w0 hw0))); go_simp; refine hK _ ?_; clear hK K) | (refine qC_no _ _ _ rfl rfl (by rfl) (fun K hK => ?_); go_simp; refine hK _ ?_; clear hK K) | (refine qC_undef _ _ _ rfl rfl (by rfl) (fun K hK => ?_); go_simp; refine hK _ ?_; clear hK K))
 refine qC_nil ?_
 intro w5 hw5
 have HW5 := hid (HF.out w5 hw5)
 clear hw5
 go_wp2
 go_ret2
 exact ⟨rfl, HW5.out⟩
set_option maxHeartbeats 2000000 in
theorem reckey_no (e : Ev) (h : ¬ e.right) (w : World) :
  Calls Tryz.prog 106 #[evV e] w fun r w' => r = .returned (.tuple #[.string ⟨#[]⟩, .int .i64 2]) ∧ Below w.heap.size w w' := by
 have HR := hid (fun W => rightv_any e W)
 rw [decide_eq_false h] at HR
 unfold evV at HR ⊢
 clear h
 go_enter Tryz.func106, Tryz.ntmps106
 go_wp2_with fail
 (with_reducible refine (HR.out _).mono ?_)
 rintro r W1 ⟨rfl, hb1⟩
 have HB := hid (((Below.refl _ w).alloc (Nat.le_refl _) (.cells #[.float .f64 e.t, .int .i64 e.src, .int .i64 e.n, .int .i64 e.dst, .int .i64 e.pay] 67)).trans (hb1.mono (by simp)))
 clear hb1
 go_wp2
 go_ret2
 exact ⟨rfl, HB.out⟩
def msgV (e : Ev) (a : Bool) : Value := .agg #[.float .f64 e.t, .int .i64 e.src, .int .i64 e.n, .int .i64 e.dst, .int .i64 e.pay, .bool a]
end
end Go.Proofs.YtnnghcooidjlhaaGreat
