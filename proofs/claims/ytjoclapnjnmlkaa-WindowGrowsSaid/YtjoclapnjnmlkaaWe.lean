/- Walks: the document's most times in a window. -/
import Derived.Test.YtjoclapnjnmlkaaWd
set_option linter.unusedSimpArgs false
namespace Go.Proofs.Ytjoclapnjnmlkaa
open Go.RowKit

def rstep (f : Nat → Nat) (s : Nat × Nat) (a : Nat) : Nat × Nat := if s.1 < f a ∨ (f a = s.1 ∧ 0 < f a ∧ flt a s.2 = true) then (f a, a) else s
def rbest (f : Nat → Nat) (l : List Nat) (s : Nat × Nat) : Nat × Nat := l.foldl (rstep f) s
theorem rbest_take (f : Nat → Nat) (xs : List Nat) (k : Nat) (h : k < xs.length) (s : Nat × Nat) :
    rbest f (xs.take (k + 1)) s = rstep f (rbest f (xs.take k) s) (xs.getD k 0) := by
  unfold rbest
  rw [List.take_succ_eq_append_getElem h, List.foldl_append]
  have e : xs.getD k 0 = xs[k] := by simp [List.getD, h]
  rw [e]
  rfl
theorem rbest_le (f : Nat → Nat) (N : Nat) (hf : ∀ a, f a ≤ N) (l : List Nat) : ∀ s : Nat × Nat, s.1 ≤ N → (rbest f l s).1 ≤ N := by
  induction l with
  | nil => intro s h; exact h
  | cons a l ih =>
    intro s h
    show (rbest f l (rstep f s a)).1 ≤ N
    unfold rstep
    split
    · exact ih _ (hf a)
    · exact ih _ h

set_option maxHeartbeats 400000 in
theorem rmost_any (p : Option Addr) (ds : List Done) (cap wv : Nat) (w : World) (hc : ds.length ≤ 61) (hH : Hist w p ds) :
    Calls Try.prog 11 #[.slice p ds.length cap, .float .f64 wv] w fun e w' =>
      e = .returned (.tuple #[.int .i64 (rbest (many (keep ds) wv) (keep ds) (0, 0)).1, .float .f64 (rbest (many (keep ds) wv) (keep ds) (0, 0)).2]) ∧ Below w.heap.size w w' := by
  have HT := Lib.hid (rtimes_any p ds cap w hc hH)
  have hkl := keep_len ds
  clear hH
  generalize keep ds = xs at *
  go_enter Try.func11, Try.ntmps11
  go_wp2_with (go_at_call 25; refine HT.out.mono ?_; rintro e w1 ⟨q, c, rfl, hf, hb⟩)
  clear HT
  have hrl := rbest_le (many xs wv) xs.length (fun a => List.countP_le_length)
  go_loopw [7, 8, 9] (fun n f i wr => ∃ k : Nat, k ≤ xs.length ∧ i = .int .i64 k ∧ n = .int .i64 (rbest (many xs wv) (xs.take k) (0, 0)).1 ∧ f = .float .f64 (rbest (many xs wv) (xs.take k) (0, 0)).2 ∧ ∃ m, wr = w1.drewN m) (fun _ _ i _ => xs.length - (intOf i).toNat)
  case atStart => exact ⟨0, Nat.zero_le _, rfl, rfl, rfl, 0, rfl⟩
  case round =>
    obtain ⟨k, hk, rfl, rfl, rfl, m, rfl⟩ := hrel
    have hbk := hrl (xs.take k) (0, 0) (Nat.zero_le _)
    clear hrl
    by_cases hlt : k < xs.length
    · rcases hf with h0 | ⟨b, off, rfl, hbl, hd⟩
      · subst h0; simp at hlt
      have hka := hd k hlt
      have HD := Lib.hid hd
      clear hd
      have hkt := rbest_take (many xs wv) xs k hlt (0, 0)
      generalize xs.getD k 0 = a at *
      generalize rbest (many xs wv) (xs.take k) (0, 0) = s at *
      obtain ⟨s1, s2⟩ := s
      have HK := Lib.hid hkt
      clear hkt
      go_wp2
      go_hide hQ
      have hS : 0 < s1 + 1 := by omega
      go_loopw [10, 11] (fun n i wr => ∃ j : Nat, j ≤ xs.length ∧ i = .int .i64 j ∧ n = .int .i64 (many (xs.take j) wv a) ∧ ∃ m, wr = w1.drewN m) (fun _ i _ => xs.length - (intOf i).toNat)
      case atStart => exact ⟨0, Nat.zero_le _, rfl, rfl, _, rfl⟩
      case round =>
        obtain ⟨j, hj, rfl, rfl, m2, rfl⟩ := hrel
        have hm := many_le xs wv a j
        by_cases hjl : j < xs.length
        · have hja := HD.out j hjl
          have hjt := many_take xs wv a j hjl
          generalize xs.getD j 0 = x at *
          unfold inW at hjt
          cases hg : fge x a
          · simp only [hg, Bool.false_and, Bool.false_eq_true, if_false, Nat.add_zero] at hjt
            have HJ := Lib.hid hjt
            clear hjt
            go_wp2
            refine wp_region_v (by kernel_rfl) (by kernel_rfl) ?_
            repeat (first | (refine wpV_none rfl (fun K hK => ?_); go_simp; (refine hK _ ?_; clear hK K)) | (refine wpV_pass2 _ _ _ rfl rfl rfl (fun K hK => ?_); go_simp; (refine hK _ ?_; clear hK K)) | (refine wpV_want2 _ _ _ rfl rfl rfl (fun K hK => ?_); go_simp; (refine hK _ ?_; clear hK K)))
            refine wpV_nil ?_
            intro nq
            go_wp2
            go_roundw
            case rel => exact ⟨j + 1, by omega, by go_num, by rw [HJ.out], _, rfl⟩
            case measure => simp [intOf]; omega
          · cases hg2 : oLt (fsub x a) wv
            · simp only [hg, hg2, Bool.and_false, Bool.false_eq_true, if_false, Nat.add_zero] at hjt
              have HJ := Lib.hid hjt
              clear hjt
              go_wp2
              refine wp_region_v (by kernel_rfl) (by kernel_rfl) ?_
              repeat (first | (refine wpV_none rfl (fun K hK => ?_); go_simp; (refine hK _ ?_; clear hK K)) | (refine wpV_pass2 _ _ _ rfl rfl rfl (fun K hK => ?_); go_simp; (refine hK _ ?_; clear hK K)) | (refine wpV_want2 _ _ _ rfl rfl rfl (fun K hK => ?_); go_simp; (refine hK _ ?_; clear hK K)))
              refine wpV_sub2 _ _ _ rfl rfl rfl _ _ _ _ rfl _ _ rfl rfl (fun r hr K hK => ?_)
              have hrl : flt r wv = false := by rw [hr.lt, hg2]
              clear hr
              go_simp
              refine hK _ ?_
              clear hK K
              repeat (first | (refine wpV_none rfl (fun K hK => ?_); go_simp; (refine hK _ ?_; clear hK K)) | (refine wpV_pass2 _ _ _ rfl rfl rfl (fun K hK => ?_); go_simp; (refine hK _ ?_; clear hK K)) | (refine wpV_want2 _ _ _ rfl rfl rfl (fun K hK => ?_); go_simp; (refine hK _ ?_; clear hK K)))
              refine wpV_nil ?_
              intro nq
              go_wp2
              go_roundw
              case rel => exact ⟨j + 1, by omega, by go_num, by rw [HJ.out], _, rfl⟩
              case measure => simp [intOf]; omega
            · simp only [hg, hg2, Bool.and_true, if_true] at hjt
              have HJ := Lib.hid hjt
              clear hjt
              go_wp2
              refine wp_region_v (by kernel_rfl) (by kernel_rfl) ?_
              repeat (first | (refine wpV_none rfl (fun K hK => ?_); go_simp; (refine hK _ ?_; clear hK K)) | (refine wpV_pass2 _ _ _ rfl rfl rfl (fun K hK => ?_); go_simp; (refine hK _ ?_; clear hK K)) | (refine wpV_want2 _ _ _ rfl rfl rfl (fun K hK => ?_); go_simp; (refine hK _ ?_; clear hK K)))
              refine wpV_sub2 _ _ _ rfl rfl rfl _ _ _ _ rfl _ _ rfl rfl (fun r hr K hK => ?_)
              have hrl : flt r wv = true := by rw [hr.lt, hg2]
              clear hr
              go_simp
              refine hK _ ?_
              clear hK K
              repeat (first | (refine wpV_none rfl (fun K hK => ?_); go_simp; (refine hK _ ?_; clear hK K)) | (refine wpV_pass2 _ _ _ rfl rfl rfl (fun K hK => ?_); go_simp; (refine hK _ ?_; clear hK K)) | (refine wpV_want2 _ _ _ rfl rfl rfl (fun K hK => ?_); go_simp; (refine hK _ ?_; clear hK K)))
              refine wpV_nil ?_
              intro nq
              go_wp2
              go_roundw
              case rel => exact ⟨j + 1, by omega, by go_num, by rw [HJ.out]; go_num, _, rfl⟩
              case measure => simp [intOf]; omega
        · have hje : j = xs.length := by omega
          subst hje
          have ht : xs.take xs.length = xs := by simp
          rw [ht] at hm ⊢
          clear ht
          have hka' := hka
          unfold rstep at HK
          generalize many xs wv a = M at *
          subst hQ
          by_cases g1 : s1 < M
          · have HK2 : Hid (rbest (many xs wv) (List.take (k + 1) xs) (0, 0) = (M, a)) := by rw [HK.out]; exact if_pos (Or.inl g1)
            go_wp2
            exact ⟨⟨k + 1, by omega, by go_num, by rw [HK2.out], by rw [HK2.out], _, rfl⟩, by simp [intOf]; omega⟩
          · by_cases g2 : M = s1
            · have g2' : ((M : Int) == (s1 : Int)) = true := by simp; omega
              by_cases g3 : 0 < M
              · cases g4 : flt a s2
                · have HK2 : Hid (rbest (many xs wv) (List.take (k + 1) xs) (0, 0) = (s1, s2)) := by rw [HK.out]; exact if_neg (by simp [g1, g4])
                  have G2 := Lib.hid g2
                  clear g2
                  go_wp2
                  exact ⟨⟨k + 1, by omega, by go_num, by rw [HK2.out], by rw [HK2.out], _, rfl⟩, by simp [intOf]; omega⟩
                · have HK2 : Hid (rbest (many xs wv) (List.take (k + 1) xs) (0, 0) = (M, a)) := by rw [HK.out]; exact if_pos (Or.inr ⟨g2, g3, g4⟩)
                  have G2 := Lib.hid g2
                  clear g2
                  go_wp2
                  exact ⟨⟨k + 1, by omega, by go_num, by rw [HK2.out], by rw [HK2.out], _, rfl⟩, by simp [intOf]; omega⟩
              · have HK2 : Hid (rbest (many xs wv) (List.take (k + 1) xs) (0, 0) = (s1, s2)) := by rw [HK.out]; exact if_neg (by simp [g1, g3])
                have G2 := Lib.hid g2
                clear g2
                go_wp2
                exact ⟨⟨k + 1, by omega, by go_num, by rw [HK2.out], by rw [HK2.out], _, rfl⟩, by simp [intOf]; omega⟩
            · have g2' : ((M : Int) == (s1 : Int)) = false := by simp; omega
              have HK2 : Hid (rbest (many xs wv) (List.take (k + 1) xs) (0, 0) = (s1, s2)) := by rw [HK.out]; exact if_neg (by simp [g1, g2])
              go_wp2
              exact ⟨⟨k + 1, by omega, by go_num, by rw [HK2.out], by rw [HK2.out], _, rfl⟩, by simp [intOf]; omega⟩
    · have hke : k = xs.length := by omega
      subst hke
      have ht : xs.take xs.length = xs := by simp
      rw [ht]
      clear ht
      go_wp2
      go_ret2
      exact ⟨rfl, below_drewN_w hb _⟩
end Go.Proofs.Ytjoclapnjnmlkaa
