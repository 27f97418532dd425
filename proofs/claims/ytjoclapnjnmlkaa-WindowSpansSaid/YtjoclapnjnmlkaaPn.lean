/- Plain laws: the first and the last time; near pairs. -/
import Derived.Test.YtjoclapnjnmlkaaPm
import Derived.Test.YtjoclapnjnmlkaaCb
set_option linter.unusedSimpArgs false
namespace Go.Proofs.Ytjoclapnjnmlkaa

theorem low_spec {l : List Nat} (hl : ∀ x ∈ l, fkept x) : ∀ k, k < l.length → lowTo l (k + 1) ∈ l ∧ ∀ i, i ≤ k → fK (lowTo l (k + 1)) ≤ fK (l.getD i 0) := by
  intro k
  induction k with
  | zero =>
    intro h
    refine ⟨get_mem h, fun i hi => ?_⟩
    have : i = 0 := by omega
    subst this
    exact Int.le_refl _
  | succ k ih =>
    intro h
    obtain ⟨h1, h2⟩ := ih (by omega)
    have hx := get_mem h
    have e : lowTo l (k + 1 + 1) = if (k + 1 == 0 || flt (l.getD (k + 1) 0) (lowTo l (k + 1))) = true then l.getD (k + 1) 0 else lowTo l (k + 1) := rfl
    have e0 : (k + 1 == 0) = false := by simp
    rw [e0, Bool.false_or, flt_K (hl _ hx) (hl _ h1)] at e
    simp only [decide_eq_true_eq] at e
    by_cases hg : fK (l.getD (k + 1) 0) < fK (lowTo l (k + 1))
    · rw [if_pos hg] at e
      rw [e]
      refine ⟨hx, fun i hi => ?_⟩
      rcases Nat.lt_or_ge i (k + 1) with h3 | h3
      · have := h2 i (by omega); omega
      · have : i = k + 1 := by omega
        subst this; exact Int.le_refl _
    · rw [if_neg hg] at e
      rw [e]
      refine ⟨h1, fun i hi => ?_⟩
      rcases Nat.lt_or_ge i (k + 1) with h3 | h3
      · exact h2 i (by omega)
      · have : i = k + 1 := by omega
        subst this; omega
theorem high_spec {l : List Nat} (hl : ∀ x ∈ l, fkept x) : ∀ k, k < l.length → highTo l (k + 1) ∈ l ∧ ∀ i, i ≤ k → fK (l.getD i 0) ≤ fK (highTo l (k + 1)) := by
  intro k
  induction k with
  | zero =>
    intro h
    refine ⟨get_mem h, fun i hi => ?_⟩
    have : i = 0 := by omega
    subst this
    exact Int.le_refl _
  | succ k ih =>
    intro h
    obtain ⟨h1, h2⟩ := ih (by omega)
    have hx := get_mem h
    have e : highTo l (k + 1 + 1) = if (k + 1 == 0 || fgt (l.getD (k + 1) 0) (highTo l (k + 1))) = true then l.getD (k + 1) 0 else highTo l (k + 1) := rfl
    have e0 : (k + 1 == 0) = false := by simp
    rw [e0, Bool.false_or, fgt_K (hl _ hx) (hl _ h1)] at e
    simp only [decide_eq_true_eq] at e
    by_cases hg : fK (highTo l (k + 1)) < fK (l.getD (k + 1) 0)
    · rw [if_pos hg] at e
      rw [e]
      refine ⟨hx, fun i hi => ?_⟩
      rcases Nat.lt_or_ge i (k + 1) with h3 | h3
      · have := h2 i (by omega); omega
      · have : i = k + 1 := by omega
        subst this; exact Int.le_refl _
    · rw [if_neg hg] at e
      rw [e]
      refine ⟨h1, fun i hi => ?_⟩
      rcases Nat.lt_or_ge i (k + 1) with h3 | h3
      · exact h2 i (by omega)
      · have : i = k + 1 := by omega
        subst this; omega

theorem span_eq {xs ks : List Nat} (hk : ∀ x ∈ ks, fkept x) (hp : xs.Perm ks) (hs : Srt xs) : spanV xs = rspanV ks := by
  have hlen := hp.length_eq
  unfold spanV rspanV
  by_cases h0 : xs = []
  · subst h0
    have : ks = [] := List.length_eq_zero_iff.1 hlen.symm
    subst this
    rfl
  · rw [if_neg h0]
    have hlp : 0 < xs.length := List.length_pos_iff.2 h0
    obtain ⟨n, hn⟩ : ∃ n, ks.length = n + 1 := ⟨ks.length - 1, by omega⟩
    obtain ⟨l1, l2⟩ := low_spec hk n (by omega)
    obtain ⟨u1, u2⟩ := high_spec hk n (by omega)
    have hx0 : xs.getD 0 0 ∈ xs := get_mem hlp
    have hxn : xs.getD (xs.length - 1) 0 ∈ xs := get_mem (by omega)
    have e1 : xs.getD 0 0 = lowTo ks ks.length := by
      rw [hn]
      refine fK_inj (hk _ (hp.mem_iff.1 hx0)) (hk _ l1) (Int.le_antisymm ?_ ?_)
      · obtain ⟨i, hi, he⟩ := mem_get (hp.mem_iff.2 l1)
        have := srt_get hs (Nat.zero_le i) hi
        rw [he] at this
        exact this
      · obtain ⟨i, hi, he⟩ := mem_get (hp.mem_iff.1 hx0)
        have := l2 i (by omega)
        rw [he] at this
        exact this
    have e2 : xs.getD (xs.length - 1) 0 = highTo ks ks.length := by
      rw [hn]
      refine fK_inj (hk _ (hp.mem_iff.1 hxn)) (hk _ u1) (Int.le_antisymm ?_ ?_)
      · obtain ⟨i, hi, he⟩ := mem_get (hp.mem_iff.1 hxn)
        have := u2 i (by omega)
        rw [he] at this
        exact this
      · obtain ⟨i, hi, he⟩ := mem_get (hp.mem_iff.2 u1)
        have := srt_get hs (i := i) (j := xs.length - 1) (by omega) (by omega)
        rw [he] at this
        exact this
    have e3 : decide (0 < ks.length) = true := by simp; omega
    rw [e1, e2, e3]

/-! near pairs -/
def pc (f : Nat → Nat → Bool) : List Nat → Nat
  | [] => 0
  | x :: l => l.countP (f x) + pc f l
theorem pc_perm {f : Nat → Nat → Bool} {l m : List Nat} (h : l.Perm m) (hl : ∀ x ∈ l, fkept x) (hf : ∀ x y, fkept x → fkept y → f x y = f y x) : pc f l = pc f m := by
  induction h with
  | nil => rfl
  | @cons x l m hp ih =>
    show l.countP (f x) + pc f l = m.countP (f x) + pc f m
    rw [ih (fun y hy => hl y (List.mem_cons_of_mem _ hy)), hp.countP_eq]
  | swap x y l =>
    show (x :: l).countP (f y) + (l.countP (f x) + pc f l) = (y :: l).countP (f x) + (l.countP (f y) + pc f l)
    rw [List.countP_cons, List.countP_cons, hf y x (hl y (by simp)) (hl x (by simp))]
    omega
  | trans h1 h2 i1 i2 => rw [i1 hl, i2 (fun x hx => hl x (h1.mem_iff.2 hx))]

theorem pairs_pc (f : Nat → Nat → Bool) (xs : List Nat) : ∀ j, j ≤ xs.length → pairs f xs j = pc f (xs.take j).reverse := by
  intro j
  induction j with
  | zero => intro _; simp [pairs, pc]
  | succ j ih =>
    intro h
    rw [List.take_succ_eq_append_getElem (by omega), List.reverse_append]
    show pairs f xs j + (xs.take j).countP (f (xs.getD j 0)) = (xs.take j).reverse.countP (f xs[j]) + pc f (xs.take j).reverse
    rw [ih (by omega), List.countP_reverse]
    have e : xs.getD j 0 = xs[j] := by simp [List.getD, show j < xs.length by omega]
    rw [e]
    omega
theorem nearM_symm (d : Nat) (x y : Nat) (hx : fkept x) (hy : fkept y) : nearM d x y = nearM d y x := by
  unfold nearM fmx fmn
  rw [flt_K hx hy, flt_K hy hx]
  by_cases h1 : fK x < fK y
  · have h2 : ¬ fK y < fK x := by omega
    simp [h1, h2]
  · by_cases h2 : fK y < fK x
    · simp [h1, h2]
    · have : x = y := fK_inj hx hy (by omega)
      subst this; rfl
theorem pairs_congr (f g : Nat → Nat → Bool) (xs : List Nat) : ∀ j, j ≤ xs.length → (∀ i k, k < i → i < xs.length → f (xs.getD i 0) (xs.getD k 0) = g (xs.getD i 0) (xs.getD k 0)) → pairs f xs j = pairs g xs j := by
  intro j
  induction j with
  | zero => intro _ _; rfl
  | succ j ih =>
    intro h hfg
    show pairs f xs j + (xs.take j).countP (f (xs.getD j 0)) = pairs g xs j + (xs.take j).countP (g (xs.getD j 0))
    rw [ih (by omega) hfg]
    congr 1
    apply List.countP_congr
    intro a ha
    obtain ⟨k, hk, rfl⟩ := mem_get ha
    have hkj : k < j := Nat.lt_of_lt_of_le hk (List.length_take_le _ _)
    have e : (xs.take j).getD k 0 = xs.getD k 0 := by simp [List.getD, List.getElem?_take, hkj]
    rw [e, hfg j k hkj (by omega)]
theorem close_eq (d : Nat) {xs ks : List Nat} (hk : ∀ x ∈ ks, fkept x) (hp : xs.Perm ks) (hs : Srt xs) : pairs (nearS d) xs xs.length = pairs (nearM d) ks ks.length := by
  have hkx : ∀ x ∈ xs, fkept x := fun x hx => hk x (hp.mem_iff.1 hx)
  rw [pairs_congr (nearS d) (nearM d) xs _ (Nat.le_refl _) (fun i k hki hi => ?_), pairs_pc _ _ _ (Nat.le_refl _), pairs_pc _ _ _ (Nat.le_refl _)]
  · refine pc_perm ?_ (fun x hx => hkx x ?_) (nearM_symm d)
    · simpa using ((List.reverse_perm xs).trans hp).trans (List.reverse_perm ks).symm
    · simpa using hx
  · have h1 := srt_get hs (Nat.le_of_lt hki) hi
    have k1 := hkx _ (get_mem hi)
    have k2 := hkx _ (get_mem (xs := xs) (i := k) (by omega))
    unfold nearS nearM fmx fmn
    have : flt (xs.getD i 0) (xs.getD k 0) = false := by rw [flt_K k1 k2]; exact decide_eq_false (by omega)
    rw [this]
    rfl
end Go.Proofs.Ytjoclapnjnmlkaa
