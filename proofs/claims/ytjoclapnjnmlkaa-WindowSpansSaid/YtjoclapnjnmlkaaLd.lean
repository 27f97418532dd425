/- Walk of the law: the first and the last time, near pairs. -/
import Derived.Test.YtjoclapnjnmlkaaLb
import Derived.Test.YtjoclapnjnmlkaaCc
set_option linter.unusedSimpArgs false
namespace Go.Proofs.Ytjoclapnjnmlkaa
open Go.RowKit

set_option maxHeartbeats 2000000 in
theorem lspans_any (p : Option Addr) (ds : List Done) (cap dv : Nat) (w : World) (A : Arg w p ds cap) :
    Calls Try.prog 8 #[.slice p ds.length cap, .float .f64 dv] w fun e w' => e = .returned (.bool true) ∧ Below w.heap.size w w' := by
  have hl : (ds.take 60).length ≤ 61 := by have := List.length_take_le 60 ds; omega
  have hk := fun x (h : x ∈ keep (ds.take 60)) => kept_of (take_small A.small 60) h
  have HF := Lib.hid (few_any p ds cap w A.fits A.big A.hist A.nil)
  have HH := Lib.hid (hist_take A.hist 60)
  clear A
  generalize ds.take 60 = es at *
  have HM := Lib.hid (fun w h => wspan_any sort_ok sort_none p es cap w hl h)
  have HR := Lib.hid (fun w h => rspan_any p es cap w hl h)
  have HCM := Lib.hid (fun w h => wclose_any sort_ok sort_none p es cap dv w hl h)
  have HCR := Lib.hid (fun w h => rclose_any p es cap dv w hl h hk)
  have HE : Hid (∀ xs : List Nat, xs.Perm (keep es) → xs.Pairwise (fun x y => 0 ≤ cmpT y x) → spanV xs = rspanV (keep es) ∧ pairs (nearS dv) xs xs.length = pairs (nearM dv) (keep es) (keep es).length) := fun xs hp hs => ⟨span_eq hk hp (srt_of hs), close_eq dv hk hp (srt_of hs)⟩
  clear hk hl
  unfold rspanV at HR HE
  generalize lowTo (keep es) (keep es).length = lo at *
  generalize highTo (keep es) (keep es).length = hi at *
  generalize decide (0 < (keep es).length) = iz at *
  generalize pairs (nearM dv) (keep es) (keep es).length = N at *
  go_enter Try.func8, Try.ntmps8
  go_wp2_with fail
  refine HF.out.mono ?_
  rintro e w' ⟨rfl, rfl⟩
  go_wp2_with fail
  refine (HM.out _ HH.out).mono ?_
  rintro e w1 ⟨⟨xs, hp, hs, rfl⟩, b1⟩
  rw [(HE.out xs hp hs).1]
  clear hp hs
  go_wp2_with fail
  refine (HR.out _ (HH.out.below b1)).mono ?_
  rintro e w2 ⟨rfl, b2⟩
  have b12 := below2 b1 b2
  clear b1 b2
  go_wp2_with fail
  refine (awake_any _).mono ?_
  rintro e w3 ⟨rfl, b3⟩
  have b13 := below2 b12 b3
  clear b12 b3
  have h1 : (iz == iz) = true := by simp
  have h2 : ((N : Int) == (N : Int)) = true := by simp
  go_wp2_with fail
  refine (rfloat_any _ _ _).mono ?_
  rintro e w4 ⟨rfl, rfl⟩
  go_wp2_with fail
  refine (rfloat_any _ _ _).mono ?_
  rintro e w4 ⟨rfl, rfl⟩
  go_wp2_with fail
  refine (HCM.out _ (HH.out.below b13)).mono ?_
  rintro e w5 ⟨⟨ys, hp, hs, rfl⟩, b5⟩
  rw [(HE.out ys hp hs).2]
  clear hp hs
  have b15 := below2 b13 b5
  clear b13 b5
  go_wp2_with fail
  refine (HCR.out _ (HH.out.below b15)).mono ?_
  rintro e w6 ⟨rfl, b6⟩
  have b16 := below2 b15 b6
  clear b15 b6
  go_wp2_with fail
  go_ret
  exact ⟨by simp, b16⟩
end Go.Proofs.Ytjoclapnjnmlkaa
