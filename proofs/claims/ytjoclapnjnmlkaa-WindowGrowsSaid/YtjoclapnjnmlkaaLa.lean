/- Walks of the laws: the most times in a window, parts, gaps. -/
import Derived.Test.YtjoclapnjnmlkaaAw
set_option linter.unusedSimpArgs false
namespace Go.Proofs.Ytjoclapnjnmlkaa
open Go.RowKit

/-- what an argument is -/
structure Arg (w : World) (p : Option Addr) (ds : List Done) (cap : Nat) : Prop where
  hist : Hist w p ds
  fits : ds.length ≤ cap
  big : cap ≤ 9223372036854775807
  nil : p = none → ds = []
  small : ∀ x ∈ ds, x.t < 18446744073709551616

theorem take_small {ds : List Done} (h : ∀ x ∈ ds, x.t < 18446744073709551616) (k : Nat) : ∀ x ∈ ds.take k, x.t < 18446744073709551616 := fun x hx => h x (List.mem_of_mem_take hx)
theorem below2 {a b c : World} (h : Below a.heap.size a b) (k : Below b.heap.size b c) : Below a.heap.size a c := h.trans (k.mono h.size)

set_option maxHeartbeats 2000000 in
theorem lmost_any (p : Option Addr) (ds : List Done) (cap wv : Nat) (w : World) (A : Arg w p ds cap) :
    Calls Try.prog 3 #[.slice p ds.length cap, .float .f64 wv] w fun e w' => e = .returned (.bool true) ∧ Below w.heap.size w w' := by
  have hl : (ds.take 60).length ≤ 61 := by have := List.length_take_le 60 ds; omega
  have hk := fun x (h : x ∈ keep (ds.take 60)) => kept_of (take_small A.small 60) h
  have HF := Lib.hid (few_any p ds cap w A.fits A.big A.hist A.nil)
  have HH := Lib.hid (hist_take A.hist 60)
  clear A
  generalize ds.take 60 = es at *
  have HM := Lib.hid (fun w h => wmost_any sort_ok sort_none p es cap wv w hl h)
  have HR := Lib.hid (fun w h => rmost_any p es cap wv w hl h)
  have HE : Hid (∀ xs : List Nat, xs.Perm (keep es) → xs.Pairwise (fun x y => 0 ≤ cmpT y x) → best (many xs wv) xs (0, 0) = rbest (many (keep es) wv) (keep es) (0, 0)) := fun xs hp hs => most_eq wv hk hp (srt_of hs)
  clear hk hl
  go_enter Try.func3, Try.ntmps3
  go_wp2_with fail
  refine HF.out.mono ?_
  rintro e w' ⟨rfl, rfl⟩
  go_wp2_with fail
  refine (HM.out _ HH.out).mono ?_
  rintro e w1 ⟨⟨xs, hp, hs, rfl⟩, b1⟩
  rw [HE.out xs hp hs]
  clear hp hs
  generalize rbest (many (keep es) wv) (keep es) (0, 0) = s at *
  obtain ⟨n, a⟩ := s
  go_wp2_with fail
  refine (HR.out _ (HH.out.below b1)).mono ?_
  rintro e w2 ⟨rfl, b2⟩
  have b12 := below2 b1 b2
  clear b1 b2
  go_wp2_with fail
  refine (awake_any _).mono ?_
  rintro e w3 ⟨rfl, b3⟩
  have b13 := below2 b12 b3
  clear b12 b3
  have h1 : ((n : Int) == (n : Int)) = true := by simp
  go_wp2_with fail
  refine (rfloat_any _ _ _).mono ?_
  rintro e w4 ⟨rfl, rfl⟩
  go_wp2_with fail
  go_ret
  exact ⟨rfl, b13⟩
end Go.Proofs.Ytjoclapnjnmlkaa
