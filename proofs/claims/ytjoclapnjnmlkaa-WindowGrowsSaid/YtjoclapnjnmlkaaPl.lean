/- Plain laws on the times of a history: the sorted row and the row as it came answer alike. -/
import Derived.Test.YtjoclapnjnmlkaaWh
import Derived.Test.YtjoclapnjnmlkaaSo
set_option linter.unusedSimpArgs false
namespace Go.Proofs.Ytjoclapnjnmlkaa

theorem kept_of {ds : List Done} (hd : ∀ x ∈ ds, x.t < 18446744073709551616) {x : Nat} (h : x ∈ keep ds) : fkept x := by
  have hn := kept_nan h
  unfold keep at h
  rw [List.mem_filterMap] at h
  obtain ⟨y, hy1, hy⟩ := h
  have hy6 := hd y hy1
  cases hn' : fnan y.t
  · simp only [hn', Bool.false_eq_true, if_false, Option.some.injEq] at hy
    refine ⟨hn, ?_, ?_⟩
    · intro h9
      rw [h9] at hy
      unfold normR at hy
      rw [hn'] at hy
      simp only [Bool.false_eq_true, if_false] at hy
      split at hy
      · omega
      · rename_i h0
        rw [hy] at h0
        exact h0 (by decide)
    · rw [← hy]
      unfold normR
      rw [hn']
      simp only [Bool.false_eq_true, if_false]
      split <;> omega
  · simp [hn'] at hy

theorem fK_key {x : Nat} (h : fkept x) : fK x = fkey x := by unfold fK; rw [h.1]; rfl
theorem fK_inj {x y : Nat} (hx : fkept x) (hy : fkept y) (h : fK x = fK y) : x = y := by
  rw [fK_key hx, fK_key hy] at h
  exact fkey_inj hx hy h
theorem flt_K {x y : Nat} (hx : fkept x) (hy : fkept y) : flt x y = decide (fK x < fK y) := by rw [flt_key hx.1 hy.1, fK_key hx, fK_key hy]
theorem fgt_K {x y : Nat} (hx : fkept x) (hy : fkept y) : fgt x y = decide (fK y < fK x) := by rw [fgt_key hx.1 hy.1, fK_key hx, fK_key hy]

def Srt (xs : List Nat) : Prop := xs.Pairwise (fun x y => fK x ≤ fK y)
theorem srt_of {xs : List Nat} (h : xs.Pairwise (fun x y => 0 ≤ cmpT y x)) : Srt xs :=
  h.imp fun {x y} hxy => by have := cmpT_lt y x; omega

/-- one sorted row alone has these times -/
theorem srt_unique {xs ys : List Nat} (hx : ∀ x ∈ xs, fkept x) (hp : xs.Perm ys) (h1 : Srt xs) (h2 : Srt ys) : xs = ys := by
  refine List.Perm.eq_of_pairwise (le := fun x y => fK x ≤ fK y) (fun a b ha hb hab hba => ?_) h1 h2 hp
  exact fK_inj (hx a ha) (hx b (hp.mem_iff.2 hb)) (by omega)

/-! the best window -/
def GoodBest (f : Nat → Nat) (l : List Nat) (s : Nat × Nat) : Prop :=
  (s = (0, 0) ∧ ∀ a ∈ l, f a = 0) ∨ (s.2 ∈ l ∧ f s.2 = s.1 ∧ 0 < s.1 ∧ ∀ a ∈ l, f a < s.1 ∨ (f a = s.1 ∧ fK s.2 ≤ fK a))

theorem goodBest_unique {f : Nat → Nat} {l : List Nat} {s t : Nat × Nat} (hl : ∀ x ∈ l, fkept x) (h1 : GoodBest f l s) (h2 : GoodBest f l t) : s = t := by
  obtain ⟨s1, s2⟩ := s
  obtain ⟨t1, t2⟩ := t
  rcases h1 with ⟨e1, z1⟩ | ⟨m1, v1, p1, g1⟩ <;> rcases h2 with ⟨e2, z2⟩ | ⟨m2, v2, p2, g2⟩
  · rw [e1, e2]
  · have := z1 t2 m2; simp only at *; omega
  · have := z2 s2 m1; simp only at *; omega
  · simp only at *
    have a1 := g1 t2 m2
    have a2 := g2 s2 m1
    have e1 : s1 = t1 := by omega
    have e2 : fK s2 = fK t2 := by omega
    rw [e1, fK_inj (hl _ m1) (hl _ m2) e2]

theorem goodBest_mem {f : Nat → Nat} {l m : List Nat} {s : Nat × Nat} (h : ∀ x, x ∈ l ↔ x ∈ m) (hg : GoodBest f l s) : GoodBest f m s := by
  rcases hg with ⟨e, z⟩ | ⟨a, b, c, d⟩
  · exact .inl ⟨e, fun x hx => z x ((h x).2 hx)⟩
  · exact .inr ⟨(h _).1 a, b, c, fun x hx => d x ((h x).2 hx)⟩

theorem rbest_good (f : Nat → Nat) (l : List Nat) (hl : ∀ x ∈ l, fkept x) : GoodBest f l (rbest f l (0, 0)) := by
  have key : ∀ (l m : List Nat) (s : Nat × Nat), (∀ x ∈ m ++ l, fkept x) → GoodBest f m s → GoodBest f (m ++ l) (rbest f l s) := by
    intro l
    induction l with
    | nil => intro m s _ h; simpa [rbest] using h
    | cons a l ih =>
      intro m s hk h
      have e : rbest f (a :: l) s = rbest f l (rstep f s a) := rfl
      rw [e]
      have e2 : m ++ a :: l = (m ++ [a]) ++ l := by simp
      rw [e2] at hk ⊢
      refine ih (m ++ [a]) _ hk ?_
      have ha : fkept a := hk a (by simp)
      unfold rstep
      split
      · rename_i hc
        refine .inr ⟨by simp, rfl, ?_, ?_⟩
        · rcases hc with h1 | ⟨_, h1, _⟩
          · show 0 < f a; omega
          · exact h1
        · intro x hx
          rw [List.mem_append] at hx
          rcases hx with hx | hx
          · rcases h with ⟨e0, z⟩ | ⟨m1, v1, p1, g1⟩
            · have := z x hx
              rw [e0] at hc
              simp only at hc
              left; show f x < f a; omega
            · have hg := g1 x hx
              show f x < f a ∨ (f x = f a ∧ fK a ≤ fK x)
              rcases hc with h1 | ⟨h1, h2, h3⟩
              · left; omega
              · rw [flt_K ha (hk _ (by simp [m1]))] at h3
                simp only [decide_eq_true_eq] at h3
                rcases hg with h4 | ⟨h4, h5⟩
                · left; omega
                · right; exact ⟨by omega, by omega⟩
          · simp at hx; subst hx; right; exact ⟨rfl, Int.le_refl _⟩
      · rename_i hc
        rcases h with ⟨e0, z⟩ | ⟨m1, v1, p1, g1⟩
        · refine .inl ⟨e0, fun x hx => ?_⟩
          rw [List.mem_append] at hx
          rcases hx with hx | hx
          · exact z x hx
          · simp at hx; subst hx
            rw [e0] at hc
            simp only at hc
            omega
        · refine .inr ⟨by simp [m1], v1, p1, fun x hx => ?_⟩
          rw [List.mem_append] at hx
          rcases hx with hx | hx
          · exact g1 x hx
          · simp at hx; subst hx
            rcases Nat.lt_trichotomy (f x) s.1 with h5 | h5 | h5
            · left; exact h5
            · right
              refine ⟨h5, ?_⟩
              rcases Int.lt_or_le (fK x) (fK s.2) with h6 | h6
              · exact absurd (Or.inr ⟨h5, by omega, by rw [flt_K ha (hk _ (by simp [m1]))]; simpa using h6⟩) hc
              · exact h6
            · exact absurd (Or.inl h5) hc
  have := key l [] (0, 0) (by simpa using hl) (.inl ⟨rfl, by simp⟩)
  simpa using this

theorem best_good (f : Nat → Nat) (l : List Nat) (hs : Srt l) : GoodBest f l (best f l (0, 0)) := by
  have key : ∀ (l m : List Nat) (s : Nat × Nat), Srt (m ++ l) → GoodBest f m s → GoodBest f (m ++ l) (best f l s) := by
    intro l
    induction l with
    | nil => intro m s _ h; simpa [best] using h
    | cons a l ih =>
      intro m s hk h
      have e : best f (a :: l) s = best f l (if s.1 < f a then (f a, a) else s) := rfl
      rw [e]
      have e2 : m ++ a :: l = (m ++ [a]) ++ l := by simp
      rw [e2] at hk ⊢
      refine ih (m ++ [a]) _ hk ?_
      have hma : ∀ x ∈ m, fK x ≤ fK a := by
        have h1 := (List.pairwise_append.1 hk).1
        have h2 := (List.pairwise_append.1 h1).2.2
        exact fun x hx => h2 x hx a (by simp)
      split
      · rename_i hc
        refine .inr ⟨by simp, rfl, by show 0 < f a; omega, ?_⟩
        intro x hx
        rw [List.mem_append] at hx
        rcases hx with hx | hx
        · show f x < f a ∨ _
          rcases h with ⟨e0, z⟩ | ⟨m1, v1, p1, g1⟩
          · have := z x hx; rw [e0] at hc; simp only at hc; left; omega
          · have := g1 x hx; left; omega
        · simp at hx; subst hx; right; exact ⟨rfl, Int.le_refl _⟩
      · rename_i hc
        rcases h with ⟨e0, z⟩ | ⟨m1, v1, p1, g1⟩
        · refine .inl ⟨e0, fun x hx => ?_⟩
          rw [List.mem_append] at hx
          rcases hx with hx | hx
          · exact z x hx
          · simp at hx; subst hx; rw [e0] at hc; simp only at hc; omega
        · refine .inr ⟨by simp [m1], v1, p1, fun x hx => ?_⟩
          rw [List.mem_append] at hx
          rcases hx with hx | hx
          · exact g1 x hx
          · simp at hx; subst hx
            rcases Nat.lt_or_ge (f x) s.1 with h5 | h5
            · left; exact h5
            · right; exact ⟨by omega, hma _ m1⟩
  have := key l [] (0, 0) (by simpa using hs) (.inl ⟨rfl, by simp⟩)
  simpa using this

theorem many_perm {xs ys : List Nat} (h : xs.Perm ys) (wv : Nat) : many xs wv = many ys wv := by
  funext a
  exact h.countP_eq _

/-- the best window, sorted or not -/
theorem most_eq {xs ks : List Nat} (wv : Nat) (hk : ∀ x ∈ ks, fkept x) (hp : xs.Perm ks) (hs : Srt xs) : best (many xs wv) xs (0, 0) = rbest (many ks wv) ks (0, 0) := by
  rw [many_perm hp wv]
  refine goodBest_unique (l := ks) hk (goodBest_mem (fun x => hp.mem_iff) (best_good _ _ hs)) (rbest_good _ _ hk)
end Go.Proofs.Ytjoclapnjnmlkaa
