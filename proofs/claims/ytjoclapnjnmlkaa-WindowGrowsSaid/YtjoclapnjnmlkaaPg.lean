/- Plain laws: longer windows have no fewer. -/
import Derived.Test.YtjoclapnjnmlkaaPl
set_option linter.unusedSimpArgs false
namespace Go.Proofs.Ytjoclapnjnmlkaa

def top (xs : List Nat) (w : Nat) : Nat := (best (many xs w) xs (0, 0)).1
theorem best_or (f : Nat → Nat) (l : List Nat) : ∀ s : Nat × Nat, (best f l s).1 = s.1 ∨ ∃ a ∈ l, (best f l s).1 = f a := by
  induction l with
  | nil => intro s; exact .inl rfl
  | cons a l ih =>
    intro s
    show (best f l (if s.1 < f a then (f a, a) else s)).1 = s.1 ∨ ∃ b ∈ a :: l, (best f l (if s.1 < f a then (f a, a) else s)).1 = f b
    split
    · rcases ih (f a, a) with h | ⟨b, hb, h⟩
      · exact .inr ⟨a, by simp, h⟩
      · exact .inr ⟨b, by simp [hb], h⟩
    · rcases ih s with h | ⟨b, hb, h⟩
      · exact .inl h
      · exact .inr ⟨b, by simp [hb], h⟩
theorem best_ge (f : Nat → Nat) (l : List Nat) : ∀ s : Nat × Nat, s.1 ≤ (best f l s).1 ∧ ∀ a ∈ l, f a ≤ (best f l s).1 := by
  induction l with
  | nil => intro s; exact ⟨Nat.le_refl _, fun a h => by simp at h⟩
  | cons a l ih =>
    intro s
    show s.1 ≤ (best f l (if s.1 < f a then (f a, a) else s)).1 ∧ ∀ b ∈ a :: l, f b ≤ (best f l (if s.1 < f a then (f a, a) else s)).1
    split
    · rename_i h0
      obtain ⟨h1, h2⟩ := ih (f a, a)
      simp only at h1
      refine ⟨by omega, fun b hb => ?_⟩
      rcases List.mem_cons.1 hb with rfl | hb
      · exact h1
      · exact h2 b hb
    · rename_i h0
      obtain ⟨h1, h2⟩ := ih s
      refine ⟨h1, fun b hb => ?_⟩
      rcases List.mem_cons.1 hb with rfl | hb
      · omega
      · exact h2 b hb
theorem top_mono {xs ys : List Nat} {w v : Nat} (h : ∀ a ∈ xs, a ∈ ys ∧ many xs w a ≤ many ys v a) : top xs w ≤ top ys v := by
  rcases best_or (many xs w) xs (0, 0) with h0 | ⟨a, ha, h0⟩
  · show (best (many xs w) xs (0, 0)).1 ≤ _
    rw [h0]; exact Nat.zero_le _
  · show (best (many xs w) xs (0, 0)).1 ≤ _
    rw [h0]
    exact Nat.le_trans (h a ha).2 ((best_ge (many ys v) ys (0, 0)).2 a (h a ha).1)
theorem top_len (xs : List Nat) (w : Nat) : top xs w ≤ xs.length := by
  rcases best_or (many xs w) xs (0, 0) with h0 | ⟨a, ha, h0⟩
  · show (best (many xs w) xs (0, 0)).1 ≤ _
    rw [h0]; exact Nat.zero_le _
  · show (best (many xs w) xs (0, 0)).1 ≤ _
    rw [h0]; exact List.countP_le_length
theorem oLt_mono {o : Option Nat} {w v : Nat} (h : fle w v = true) (h1 : oLt o w = true) : oLt o v = true := by
  cases o with
  | none => cases h1
  | some r =>
    have h1 : flt r w = true := h1
    show flt r v = true
    have hr : fnan r = false := by cases hn : fnan r with | false => rfl | true => rw [flt_nan_l hn] at h1; cases h1
    have hw : fnan w = false := by cases hn : fnan w with | false => rfl | true => rw [flt_nan_r hn] at h1; cases h1
    have hv : fnan v = false := by
      cases hn : fnan v with
      | false => rfl
      | true =>
        have h2 : (flt w v || feq w v) = true := h
        rw [flt_nan_r hn, feq_nan_r hn] at h2; cases h2
    rw [fle_key hw hv, decide_eq_true_eq] at h
    rw [flt_key hr hw, decide_eq_true_eq] at h1
    rw [flt_key hr hv, decide_eq_true_eq]
    omega
theorem top_longer {xs ys ks : List Nat} {w v : Nat} (hx : xs.Perm ks) (hy : ys.Perm ks) (h : fle w v = true) : top xs w ≤ top ys v := by
  have hp := hx.trans hy.symm
  refine top_mono fun a ha => ⟨hp.mem_iff.1 ha, ?_⟩
  unfold many
  rw [hp.countP_eq]
  refine List.countP_mono_left fun x _ hxw => ?_
  unfold inW at *
  rw [Bool.and_eq_true] at *
  exact ⟨hxw.1, oLt_mono h hxw.2⟩
theorem top_more {xs zs ks ex : List Nat} {w : Nat} (hx : xs.Perm ks) (hz : zs.Perm (ks ++ ex)) : top xs w ≤ top zs w := by
  have hp := hz.trans (hx.symm.append_right ex)
  refine top_mono fun a ha => ⟨hp.mem_iff.2 (List.mem_append_left _ ha), ?_⟩
  unfold many
  rw [hp.countP_eq, List.countP_append]
  omega
theorem keep_append (a b : List Done) : keep (a ++ b) = keep a ++ keep b := List.filterMap_append
end Go.Proofs.Ytjoclapnjnmlkaa
