/- Walks of the small functions on floats. -/
import Derived.Test.YtjoclapnjnmlkaaProg
import Derived.Test.YtjoclapnjnmlkaaFs
import Derived.WalkKit
import Derived.WalkSpells
import Derived.WalkLawsBesides
set_option linter.unusedSimpArgs false
namespace Go.Proofs.Ytjoclapnjnmlkaa
open Go.RowKit


/-- math.IsNaN -/
theorem isnan_any (b : Nat) (w : World) :
    Calls Try.prog 38 #[.float .f64 b] w fun e w' => e = .returned (.bool (fnan b)) ∧ w = w' := by
  go_enter Try.func38, Try.ntmps38
  go_wp2
  go_ret
  exact ⟨by simp, rfl⟩

def normR (b : Nat) : Nat := if fnan b then 0 else if feq b 0 then 0 else b
def normE (b : Nat) : Int := if fnan b then 7 else 0

/-- stamp.Norm -/
theorem norm_any (b : Nat) (w : World) :
    Calls Try.prog 33 #[.float .f64 b] w fun e w' => e = .returned (.tuple #[.float .f64 (normR b), .int .i64 (normE b)]) ∧ w = w' := by
  go_enter Try.func33, Try.ntmps33
  go_wp2_with (go_at_call 38; refine (isnan_any _ _).mono ?_; rintro e w' ⟨rfl, rfl⟩)
  all_goals (go_ret2; exact ⟨by simp [normR, normE, *], rfl⟩)

/-- stamp.compare -/
theorem compare_any (a b : Nat) (w : World) :
    Calls Try.prog 42 #[.float .f64 a, .float .f64 b] w fun e w' => e = .returned (.int .i64 (if flt a b then -1 else if fgt a b then 1 else 0)) ∧ w = w' := by
  go_enter Try.func42, Try.ntmps42
  go_wp2
  all_goals (go_ret; exact ⟨by simp [*], rfl⟩)

def cmpT (a b : Nat) : Int := if fnan a then (if fnan b then 0 else 1) else if fnan b then -1 else if flt a b then -1 else if fgt a b then 1 else 0

/-- stamp.Times -/
theorem times_any (a b : Nat) (w : World) :
    Calls Try.prog 35 #[.float .f64 a, .float .f64 b] w fun e w' => e = .returned (.int .i64 (cmpT a b)) ∧ w = w' := by
  cases h1 : fnan a <;> cases h2 : fnan b
  all_goals
    go_enter Try.func35, Try.ntmps35
    go_wp2_with (first
      | (go_at_call 38; refine (isnan_any _ _).mono ?_; rintro e w' ⟨rfl, rfl⟩)
      | (go_at_call 42; refine (compare_any _ _ _).mono ?_; rintro e w' ⟨rfl, rfl⟩))
    all_goals (go_ret; exact ⟨by simp [cmpT, *], rfl⟩)

/-- the document's number -/
theorem rnumber_any (b : Nat) (w : World) :
    Calls Try.prog 43 #[.float .f64 b] w fun e w' => e = .returned (.bool (!fnan b)) ∧ w = w' := by
  go_enter Try.func43, Try.ntmps43
  go_wp2
  go_ret
  exact ⟨by simp, rfl⟩

/-- the document's Norm -/
theorem rnorm_any (b : Nat) (w : World) :
    Calls Try.prog 36 #[.float .f64 b] w fun e w' => e = .returned (.tuple #[.float .f64 (normR b), .int .i64 (normE b)]) ∧ w = w' := by
  go_enter Try.func36, Try.ntmps36
  go_wp2_with (go_at_call 43; refine (rnumber_any _ _).mono ?_; rintro e w' ⟨rfl, rfl⟩)
  all_goals (go_ret2; exact ⟨by simp_all [normR, normE], rfl⟩)

@[go_sem] theorem run_float64bits (b : Nat) (w : World) : (callFunc 28 #[.float .f64 b]).run Try.prog w = .ok (.value (.int .u64 b)) w := by
  rw [run_callFunc_extern (e := Extern.MathFloatBits.float64bits) Try.func28 (by kernel_rfl) (by kernel_rfl) (by kernel_rfl) (by kernel_rfl)]
  rfl
@[go_sem] theorem run_float64frombits (b : Int) (w : World) : (callFunc 37 #[.int .u64 b]).run Try.prog w = .ok (.value (.float .f64 b.toNat)) w := by
  rw [run_callFunc_extern (e := Extern.MathFloatBits.float64frombits) Try.func37 (by kernel_rfl) (by kernel_rfl) (by kernel_rfl) (by kernel_rfl)]
  rfl

/-- math.NaN -/
theorem nan_any (w : World) :
    Calls Try.prog 27 #[] w fun e w' => e = .returned (.float .f64 9221120237041090561) ∧ w = w' := by
  go_enter Try.func27, Try.ntmps27
  go_wp2
  go_ret
  exact ⟨rfl, rfl⟩

theorem nat_beq (a b : Nat) : ((a : Int) == (b : Int)) = (a == b) := by rw [Bool.eq_iff_iff]; simp; omega

/-- the document's Float -/
theorem rfloat_any (a b : Nat) (w : World) :
    Calls Try.prog 13 #[.float .f64 a, .float .f64 b] w fun e w' => e = .returned (.bool (if fnan a || fnan b then fnan a && fnan b else a == b)) ∧ w = w' := by
  cases h1 : fnan a <;> cases h2 : fnan b
  all_goals
    go_enter Try.func13, Try.ntmps13
    go_wp2
    all_goals (go_ret; exact ⟨by simp [*, nat_beq], rfl⟩)
end Go.Proofs.Ytjoclapnjnmlkaa
