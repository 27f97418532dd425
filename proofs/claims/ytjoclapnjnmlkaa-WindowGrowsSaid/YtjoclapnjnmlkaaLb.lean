/- Walks of the laws: gaps, parts. -/
import Derived.Test.YtjoclapnjnmlkaaLa
set_option linter.unusedSimpArgs false
namespace Go.Proofs.Ytjoclapnjnmlkaa
open Go.RowKit

set_option maxHeartbeats 2000000 in
theorem lgaps_any (p : Option Addr) (ds : List Done) (cap : Nat) (w : World) (A : Arg w p ds cap) :
    Calls Try.prog 5 #[.slice p ds.length cap] w fun e w' => e = .returned (.bool true) ∧ Below w.heap.size w w' := by
  have hl : (ds.take 60).length ≤ 61 := by have := List.length_take_le 60 ds; omega
  have hk := fun x (h : x ∈ keep (ds.take 60)) => kept_of (take_small A.small 60) h
  have HF := Lib.hid (few_any p ds cap w A.fits A.big A.hist A.nil)
  have HH := Lib.hid (hist_take A.hist 60)
  clear A
  generalize ds.take 60 = es at *
  have HM := Lib.hid (fun w h => wgap_any sort_ok sort_none p es cap w hl h)
  have HR := Lib.hid (fun w h => rgap_any p es cap w hl h)
  have HE : Hid (∀ xs : List Nat, xs.Perm (keep es) → xs.Pairwise (fun x y => 0 ≤ cmpT y x) → gapTo xs (xs.length - 1) = rgap (keep es) (keep es) ∧ xs.length = (keep es).length) := fun xs hp hs => ⟨gap_eq hk hp (srt_of hs), hp.length_eq⟩
  clear hk hl
  go_enter Try.func5, Try.ntmps5
  go_wp2_with fail
  refine HF.out.mono ?_
  rintro e w' ⟨rfl, rfl⟩
  go_wp2_with fail
  refine (HM.out _ HH.out).mono ?_
  rintro e w1 ⟨⟨xs, hp, hs, rfl⟩, b1⟩
  rw [(HE.out xs hp hs).1, (HE.out xs hp hs).2]
  clear hp hs
  generalize rgap (keep es) (keep es) = s at *
  generalize decide ((1 : Int) < ((keep es).length : Int)) = c at *
  go_wp2_with fail
  refine (HR.out _ (HH.out.below b1)).mono ?_
  rintro e w2 ⟨rfl, b2⟩
  have b12 := below2 b1 b2
  clear b1 b2
  go_wp2_with fail
  refine (awake_any _).mono ?_
  rintro e w3 ⟨rfl, b3⟩
  have b13 := below2 b12 b3
  clear b12 b3
  go_wp2_with fail
  refine (rfloat_any _ _ _).mono ?_
  rintro e w4 ⟨rfl, rfl⟩
  have h1 : (c == c) = true := by simp
  go_wp2_with fail
  go_ret
  exact ⟨by simp, b13⟩

set_option maxHeartbeats 2000000 in
theorem lparts_any (p : Option Addr) (ds : List Done) (cap fv wv : Nat) (n : Int) (w : World) (A : Arg w p ds cap) (hf6 : fv < 18446744073709551616) (hw6 : wv < 18446744073709551616) :
    Calls Try.prog 4 #[.agg #[.slice p ds.length cap, .float .f64 fv, .float .f64 wv, .int .i64 n]] w fun e w' => e = .returned (.bool true) ∧ Below w.heap.size w w' := by
  have hl : (ds.take 60).length ≤ 61 := by have := List.length_take_le 60 ds; omega
  have hB : ∀ (o : Obj) m, Below w.heap.size w ((w.alloc o).drewN m) := fun o m => below_drewN_w ((Below.refl _ _).alloc (Nat.le_refl _) _) m
  have HF := Lib.hid (fun o m => few_any p ds cap ((w.alloc o).drewN m) A.fits A.big (A.hist.below (hB o m)) A.nil)
  have HH := Lib.hid (fun o m => hist_take (A.hist.below (hB o m)) 60)
  have HB := Lib.hid hB
  clear A hB
  generalize ds.take 60 = es at *
  have HM := Lib.hid (fun w h => wparts_any sort_ok sort_none p es cap fv wv n w hl h hf6 hw6)
  have HR := Lib.hid (fun w h => rparts_any p es cap fv wv n w hl h)
  have hN : pN fv wv n ≤ 100 := by
    unfold pN
    split
    · rename_i h0
      have : ¬ (n < 0 ∨ 64 < n) := by
        intro hc
        unfold pErr at h0
        split at h0 <;> first | omega | (rw [if_pos hc] at h0; omega)
      omega
    · omega
  clear hl
  generalize pN fv wv n = N at *
  generalize pErr fv wv n = E at *
  go_enter Try.func4, Try.ntmps4
  go_wp2
  go_quiet (fail)
  go_wp2_with fail
  refine (HF.out _ _).mono ?_
  rintro e w' ⟨rfl, rfl⟩
  go_wp2_with fail
  refine (HM.out _ (HH.out _ _)).mono ?_
  rintro e w1 ⟨⟨v, rfl, hv⟩, b1⟩
  have h1 := (HH.out _ _).below b1
  have B1 := (HB.out _ _).trans (b1.mono (HB.out _ _).size)
  clear b1
  go_wp2_with fail
  refine (HR.out _ h1).mono ?_
  rintro e w2 ⟨⟨v2, rfl, hv2⟩, b2⟩
  have hv' := hv.below b2
  have B2 := B1.trans (b2.mono B1.size)
  clear B1 h1 hv b2
  go_wp2_with fail
  refine (awake_any _).mono ?_
  rintro e w3 ⟨rfl, b3⟩
  have B3 := B2.trans (b3.mono B2.size)
  have HV1 := Lib.hid (hv'.below b3)
  have HV2 := Lib.hid (hv2.below b3)
  clear B2 b3 hv' hv2
  go_wp2_with fail
  refine (ints_eq v v2 _ _ _ hN HV1.out HV2.out).mono ?_
  rintro e w4 ⟨rfl, m, rfl⟩
  have h1 : (E == E) = true := by simp
  go_wp2_with fail
  go_ret
  exact ⟨by simp, below_drewN_w B3 m⟩
end Go.Proofs.Ytjoclapnjnmlkaa
