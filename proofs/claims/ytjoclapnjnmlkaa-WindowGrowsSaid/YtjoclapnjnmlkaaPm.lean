/- Plain laws on the times of a history: the greatest gap. -/
import Derived.Test.YtjoclapnjnmlkaaPl
set_option linter.unusedSimpArgs false
namespace Go.Proofs.Ytjoclapnjnmlkaa

theorem fsub_lt {x y r : Nat} (h : fsub x y = some r) : r < 18446744073709551616 := by
  have := Ieee.Format.sub_lt (f := FloatKind.f64.format) h
  exact this

/-- the greatest of some differences -/
def GoodGap (S : Nat → Prop) (o : Nat) : Prop := (o = 0 ∧ ∀ d, S d → fgt d 0 = false) ∨ (S o ∧ o < 18446744073709551616 ∧ fgt o 0 = true ∧ ∀ d, S d → fgt d o = false)

theorem fgt_pos {o : Nat} (h : fgt o 0 = true) : fnan o = false ∧ 0 < fkey o := by
  have hn : fnan o = false := by
    cases hn : fnan o
    · rfl
    · rw [fgt_nan_l hn] at h; cases h
  refine ⟨hn, ?_⟩
  rw [fgt_key hn (by decide)] at h
  have h0 : fkey 0 = 0 := by decide
  rw [h0] at h
  simpa using h

theorem key_pos {o : Nat} (h6 : o < 18446744073709551616) (h : 0 < fkey o) : fkey o = (o : Int) := by
  unfold fkey at *
  split at h
  · rename_i h1
    omega
  · rename_i h1
    rw [if_neg h1]
    simp at h1
    omega

theorem goodGap_unique {S : Nat → Prop} {o q : Nat} (h1 : GoodGap S o) (h2 : GoodGap S q) : o = q := by
  rcases h1 with ⟨e1, z1⟩ | ⟨m1, s1, p1, g1⟩ <;> rcases h2 with ⟨e2, z2⟩ | ⟨m2, s2, p2, g2⟩
  · rw [e1, e2]
  · rw [z1 q m2] at p2; cases p2
  · rw [z2 o m1] at p1; cases p1
  · have a1 := g1 q m2
    have a2 := g2 o m1
    obtain ⟨n1, k1⟩ := fgt_pos p1
    obtain ⟨n2, k2⟩ := fgt_pos p2
    rw [fgt_key n2 n1] at a1
    rw [fgt_key n1 n2] at a2
    simp at a1 a2
    have e1 := key_pos s1 k1
    have e2 := key_pos s2 k2
    omega

theorem goodGap_step {S : Nat → Prop} {o : Nat} (h : GoodGap S o) (w : Option Nat) (hw : ∀ d, w = some d → d < 18446744073709551616) :
    GoodGap (fun d => S d ∨ w = some d) (if oGt w o then w.getD 0 else o) := by
  cases w with
  | none =>
    simp only [oGt, Bool.false_eq_true, if_false, reduceCtorEq, or_false]
    exact h
  | some d =>
    have hcg : ∀ q, GoodGap (fun x => S x ∨ x = d) q → GoodGap (fun x => S x ∨ some d = some x) q := fun q hq =>
      (funext fun x => by rw [Option.some.injEq, eq_comm (a := d)] : (fun x => S x ∨ x = d) = fun x => S x ∨ some d = some x) ▸ hq
    refine hcg _ ?_
    by_cases hd' : oGt (some d) o = true
    rotate_left
    · have hd : fgt d o = false := by simpa [oGt] using hd'
      rw [if_neg hd']
      rcases h with ⟨e0, z⟩ | ⟨m1, s1, p1, g1⟩
      · subst e0
        exact .inl ⟨rfl, fun x hx => by rcases hx with hx | hx; exact z x hx; rw [hx]; exact hd⟩
      · exact .inr ⟨.inl m1, s1, p1, fun x hx => by rcases hx with hx | hx; exact g1 x hx; rw [hx]; exact hd⟩
    · have hd : fgt d o = true := hd'
      rw [if_pos hd']
      show GoodGap _ d
      have hdn : fnan d = false := by
        cases hn : fnan d
        · rfl
        · rw [fgt_nan_l hn] at hd; cases hd
      rcases h with ⟨e0, z⟩ | ⟨m1, s1, p1, g1⟩
      · subst e0
        refine .inr ⟨.inr rfl, hw d rfl, hd, fun x hx => ?_⟩
        rcases hx with hx | rfl
        · have := z x hx
          cases hxn : fnan x
          · rw [fgt_key hxn (by decide)] at this
            obtain ⟨_, k⟩ := fgt_pos hd
            rw [fgt_key hxn hdn]
            have h0 : fkey 0 = 0 := by decide
            rw [h0] at this
            simp at this ⊢
            omega
          · exact fgt_nan_l hxn _
        · rw [fgt_key hdn hdn]; simp
      · obtain ⟨n1, k1⟩ := fgt_pos p1
        have hd2 := hd
        rw [fgt_key hdn n1] at hd2
        simp at hd2
        refine .inr ⟨.inr rfl, hw d rfl, ?_, fun x hx => ?_⟩
        · rw [fgt_key hdn (by decide)]
          have h0 : fkey 0 = 0 := by decide
          rw [h0]; simp; omega
        · rcases hx with hx | rfl
          · have := g1 x hx
            cases hxn : fnan x
            · rw [fgt_key hxn n1] at this
              rw [fgt_key hxn hdn]
              simp at this ⊢
              omega
            · exact fgt_nan_l hxn _
          · rw [fgt_key hdn hdn]; simp

theorem goodGap_congr {S T : Nat → Prop} {o : Nat} (h : GoodGap S o) (h1 : ∀ d, S d → T d) (h2 : ∀ d, T d → S d ∨ fgt d 0 = false) : GoodGap T o := by
  rcases h with ⟨e0, z⟩ | ⟨m1, s1, p1, g1⟩
  · exact .inl ⟨e0, fun d hd => by rcases h2 d hd with h | h; exact z d h; exact h⟩
  · refine .inr ⟨h1 _ m1, s1, p1, fun d hd => ?_⟩
    rcases h2 d hd with h | h
    · exact g1 d h
    · cases hn : fnan d
      · obtain ⟨n1, k1⟩ := fgt_pos p1
        rw [fgt_key hn (by decide)] at h
        rw [fgt_key hn n1]
        have h0 : fkey 0 = 0 := by decide
        rw [h0] at h
        simp at h ⊢
        omega
      · exact fgt_nan_l hn _

/-- what the document's way goes through -/
theorem rgap_good (ks l : List Nat) : GoodGap (fun d => ∃ a ∈ l, (nextOf a ks).2 = true ∧ fsub (nextOf a ks).1 a = some d) (rgap ks l) := by
  have key : ∀ (l m : List Nat) (o : Nat), GoodGap (fun d => ∃ a ∈ m, (nextOf a ks).2 = true ∧ fsub (nextOf a ks).1 a = some d) o →
      GoodGap (fun d => ∃ a ∈ m ++ l, (nextOf a ks).2 = true ∧ fsub (nextOf a ks).1 a = some d) (l.foldl (rgstep ks) o) := by
    intro l
    induction l with
    | nil => intro m o h; simpa using h
    | cons a l ih =>
      intro m o h
      have e2 : m ++ a :: l = (m ++ [a]) ++ l := by simp
      rw [e2, List.foldl_cons]
      refine ih (m ++ [a]) _ ?_
      unfold rgstep
      have h3 := goodGap_step h (if (nextOf a ks).2 then fsub (nextOf a ks).1 a else none) (fun d hd => by
        split at hd
        · exact fsub_lt hd
        · cases hd)
      have e3 : (if oGt (if (nextOf a ks).2 then fsub (nextOf a ks).1 a else none) o then (if (nextOf a ks).2 then fsub (nextOf a ks).1 a else none).getD 0 else o) =
          (if (nextOf a ks).2 && oGt (fsub (nextOf a ks).1 a) o then (fsub (nextOf a ks).1 a).getD 0 else o) := by
        cases (nextOf a ks).2 <;> simp [oGt]
      rw [e3] at h3
      refine goodGap_congr h3 (fun d hd => ?_) (fun d hd => ?_)
      · rcases hd with ⟨b, hb, h4⟩ | hd
        · exact ⟨b, by simp [hb], h4⟩
        · split at hd
          · rename_i h5; exact ⟨a, by simp, h5, hd⟩
          · cases hd
      · obtain ⟨b, hb, h4, h5⟩ := hd
        left
        rw [List.mem_append] at hb
        rcases hb with hb | hb
        · exact .inl ⟨b, hb, h4, h5⟩
        · simp at hb; subst hb; right; rw [if_pos h4]; exact h5
  have := key l [] 0 (.inl ⟨rfl, by simp⟩)
  simpa [rgap] using this

theorem gapTo_good (xs : List Nat) (k : Nat) : GoodGap (fun d => ∃ i, i < k ∧ fsub (xs.getD (i + 1) 0) (xs.getD i 0) = some d) (gapTo xs k) := by
  induction k with
  | zero => exact .inl ⟨rfl, fun d ⟨i, hi, _⟩ => by omega⟩
  | succ k ih =>
    have h3 := goodGap_step ih (fsub (xs.getD (k + 1) 0) (xs.getD k 0)) (fun d hd => fsub_lt hd)
    refine goodGap_congr (show GoodGap _ (gapTo xs (k + 1)) from h3) (fun d hd => ?_) (fun d hd => ?_)
    · rcases hd with ⟨i, hi, h⟩ | h
      · exact ⟨i, by omega, h⟩
      · exact ⟨k, by omega, h⟩
    · obtain ⟨i, hi, h⟩ := hd
      left
      by_cases hk : i = k
      · subst hk; exact .inr h
      · exact .inl ⟨i, by omega, h⟩

/-- what comes next -/
def GoodNext (a : Nat) (l : List Nat) (s : Nat × Bool) : Prop :=
  (s.2 = false ∧ ∀ t ∈ l, ¬ fK a < fK t) ∨ (s.2 = true ∧ s.1 ∈ l ∧ fK a < fK s.1 ∧ ∀ t ∈ l, fK a < fK t → fK s.1 ≤ fK t)
theorem nextOf_good (a : Nat) (l : List Nat) (ha : fkept a) (hl : ∀ x ∈ l, fkept x) : GoodNext a l (nextOf a l) := by
  have key : ∀ (l m : List Nat) (s : Nat × Bool), (∀ x ∈ m ++ l, fkept x) → GoodNext a m s → GoodNext a (m ++ l) (l.foldl (nstep a) s) := by
    intro l
    induction l with
    | nil => intro m s _ h; simpa using h
    | cons t l ih =>
      intro m s hk h
      have e2 : m ++ t :: l = (m ++ [t]) ++ l := by simp
      rw [e2] at hk
      rw [e2, List.foldl_cons]
      refine ih (m ++ [t]) _ hk ?_
      have ht : fkept t := hk t (by simp)
      unfold nstep
      rw [fgt_K ht ha]
      rcases h with ⟨e0, z⟩ | ⟨e0, m1, g1, g2⟩
      · rw [e0]
        simp only [Bool.not_false, Bool.true_or, Bool.and_true, decide_eq_true_eq]
        split
        · rename_i hc
          refine .inr ⟨rfl, by simp, hc, fun x hx hax => ?_⟩
          rw [List.mem_append] at hx
          rcases hx with hx | hx
          · exact absurd hax (z x hx)
          · simp at hx; subst hx; exact Int.le_refl _
        · rename_i hc
          refine .inl ⟨e0, fun x hx => ?_⟩
          rw [List.mem_append] at hx
          rcases hx with hx | hx
          · exact z x hx
          · simp at hx; subst hx; exact hc
      · rw [e0, flt_K ht (hk _ (by simp [m1]))]
        simp only [Bool.not_true, Bool.false_or, Bool.and_eq_true, decide_eq_true_eq]
        split
        · rename_i hc
          refine .inr ⟨rfl, by simp, hc.1, fun x hx hax => ?_⟩
          show fK t ≤ fK x
          rw [List.mem_append] at hx
          rcases hx with hx | hx
          · have := g2 x hx hax; omega
          · simp at hx; subst hx; exact Int.le_refl _
        · rename_i hc
          refine .inr ⟨e0, by simp [m1], g1, fun x hx hax => ?_⟩
          rw [List.mem_append] at hx
          rcases hx with hx | hx
          · exact g2 x hx hax
          · simp at hx; subst hx; omega
  have := key l [] (0, false) (by simpa using hl) (.inl ⟨rfl, by simp⟩)
  simpa [nextOf] using this

theorem srt_get {xs : List Nat} (h : Srt xs) {i j : Nat} (hij : i ≤ j) (hj : j < xs.length) : fK (xs.getD i 0) ≤ fK (xs.getD j 0) := by
  rcases Nat.lt_or_ge i j with h1 | h1
  · have := (List.pairwise_iff_getElem.1 h) i j (by omega) hj h1
    have e1 : xs.getD i 0 = xs[i]'(by omega) := by simp [List.getD, show i < xs.length by omega]
    have e2 : xs.getD j 0 = xs[j] := by simp [List.getD, hj]
    rw [e1, e2]; exact this
  · have : i = j := by omega
    rw [this]; exact Int.le_refl _
theorem mem_get {xs : List Nat} {x : Nat} (h : x ∈ xs) : ∃ i, i < xs.length ∧ xs.getD i 0 = x := by
  obtain ⟨i, hi, e⟩ := List.mem_iff_getElem.1 h
  exact ⟨i, hi, by simp [List.getD, hi, e]⟩
theorem get_mem {xs : List Nat} {i : Nat} (h : i < xs.length) : xs.getD i 0 ∈ xs := by
  rw [List.getD_eq_getElem?_getD, List.getElem?_eq_getElem h]; exact List.getElem_mem h

/-- the greatest gap, sorted or not -/
theorem gap_eq {xs ks : List Nat} (hk : ∀ x ∈ ks, fkept x) (hp : xs.Perm ks) (hs : Srt xs) : gapTo xs (xs.length - 1) = rgap ks ks := by
  have hxk : ∀ x ∈ xs, fkept x := fun x hx => hk x (hp.subset hx)
  refine goodGap_unique (gapTo_good xs (xs.length - 1)) (goodGap_congr (rgap_good ks ks) (fun d hd => ?_) (fun d hd => ?_))
  · obtain ⟨a, ha, h1, h2⟩ := hd
    rcases nextOf_good a ks (hk a ha) hk with ⟨e0, _⟩ | ⟨_, m1, g1, g2⟩
    · rw [e0] at h1; cases h1
    · -- the last place of a
      have hax : a ∈ xs := hp.mem_iff.2 ha
      obtain ⟨n, hn, en⟩ := mem_get (hp.mem_iff.2 m1)
      -- the least place whose key is greater
      have hex : ∃ j, j < xs.length ∧ fK a < fK (xs.getD j 0) ∧ ∀ i, i < j → ¬ fK a < fK (xs.getD i 0) := by
        have : ∀ m, m < xs.length → fK a < fK (xs.getD m 0) → ∃ j, j < xs.length ∧ fK a < fK (xs.getD j 0) ∧ ∀ i, i < j → ¬ fK a < fK (xs.getD i 0) := by
          intro m
          induction m using Nat.strongRecOn with
          | _ m ih =>
            intro hm hgt
            by_cases hc : ∃ i, i < m ∧ fK a < fK (xs.getD i 0)
            · obtain ⟨i, hi, hi2⟩ := hc
              exact ih i hi (by omega) hi2
            · exact ⟨m, hm, hgt, fun i hi hi2 => hc ⟨i, hi, hi2⟩⟩
        exact this n hn (by rw [en]; exact g1)
      obtain ⟨j, hj, hj2, hj3⟩ := hex
      obtain ⟨i0, hi0, ei0⟩ := mem_get hax
      have hi0j : i0 < j := by
        rcases Nat.lt_or_ge i0 j with h | h
        · exact h
        · have := srt_get hs h hi0; rw [ei0] at this; omega
      have hj0 : 0 < j := by omega
      have e1 : xs.getD (j - 1) 0 = a := by
        have h5 := hj3 (j - 1) (by omega)
        have h6 := srt_get hs (show i0 ≤ j - 1 by omega) (show j - 1 < xs.length by omega)
        rw [ei0] at h6
        exact fK_inj (hxk _ (get_mem (by omega))) (hk a ha) (by omega)
      have e2 : xs.getD j 0 = (nextOf a ks).1 := by
        have h5 := g2 (xs.getD j 0) (hp.subset (get_mem hj)) hj2
        have h6 : j ≤ n := by
          rcases Nat.lt_or_ge n j with h | h
          · exact absurd (by rw [en]; exact g1) (hj3 n h)
          · exact h
        have h7 := srt_get hs h6 hn
        rw [en] at h7
        exact fK_inj (hxk _ (get_mem hj)) (hk _ m1) (by omega)
      refine ⟨j - 1, by omega, ?_⟩
      rw [show j - 1 + 1 = j by omega, e1, e2]
      exact h2
  · obtain ⟨i, hi, h⟩ := hd
    have hxi : fkept (xs.getD i 0) := hxk _ (get_mem (by omega))
    have hxj : fkept (xs.getD (i + 1) 0) := hxk _ (get_mem (by omega))
    have hle := srt_get hs (show i ≤ i + 1 by omega) (show i + 1 < xs.length by omega)
    by_cases he : fK (xs.getD i 0) = fK (xs.getD (i + 1) 0)
    · right
      have e := fK_inj hxi hxj he
      rw [e] at h
      have h3 := fsub_self_fin (xs.getD (i + 1) 0)
      rw [h] at h3
      cases hf : ffin (xs.getD (i + 1) 0)
      · -- infinite: no difference at all
        exfalso
        have hn := hxj.1
        have h1 := fnan_false hn
        have h2 : frung (xs.getD (i + 1) 0) = 9218868437227405312 := by unfold ffin at hf; simp only [decide_eq_false_iff_not] at hf; omega
        unfold fsub FloatKind.format Ieee.Format.sub at h
        simp only [read_inf h2] at h
        generalize (xs.getD (i + 1) 0 / 9223372036854775808 % 2 == 1) = s at h
        cases s <;> cases h
      · rw [hf] at h3
        unfold oEq feq at h3
        unfold fgt
        have : ford d 0 = some .eq := by simpa using h3
        rw [this]; rfl
    · left
      have hlt : fK (xs.getD i 0) < fK (xs.getD (i + 1) 0) := by omega
      refine ⟨xs.getD i 0, hp.subset (get_mem (by omega)), ?_⟩
      rcases nextOf_good (xs.getD i 0) ks hxi hk with ⟨e0, z⟩ | ⟨e0, m1, g1, g2⟩
      · exact absurd hlt (z _ (hp.subset (get_mem (by omega))))
      · refine ⟨e0, ?_⟩
        have h5 := g2 (xs.getD (i + 1) 0) (hp.subset (get_mem (by omega))) hlt
        obtain ⟨n, hn, en⟩ := mem_get (hp.mem_iff.2 m1)
        have h6 : i + 1 ≤ n := by
          rcases Nat.lt_or_ge n (i + 1) with h | h
          · have := srt_get hs (show n ≤ i by omega) (show i < xs.length by omega)
            rw [en] at this; omega
          · exact h
        have h7 := srt_get hs h6 hn
        rw [en] at h7
        have e2 : (nextOf (xs.getD i 0) ks).1 = xs.getD (i + 1) 0 := fK_inj (hk _ m1) hxj (by omega)
        rw [e2]; exact h
end Go.Proofs.Ytjoclapnjnmlkaa
