/- Walks: finite, number, few, at, Ints. -/
import Derived.Test.YtjoclapnjnmlkaaWa
set_option linter.unusedSimpArgs false
namespace Go.Proofs.Ytjoclapnjnmlkaa
open Go.RowKit

theorem bits_abs (b : Nat) (h : b < 18446744073709551616) : (bits .andNot .u64 (b : Int) 9223372036854775808).toNat = frung b := by
  rw [u64_andNot _ _ (by omega) (by omega) (by omega) (by omega)]
  have e : (18446744073709551615 - (9223372036854775808 : Int).toNat) = 2 ^ 63 - 1 := by decide
  rw [e]
  simp only [Int.toNat_natCast]
  rw [Nat.and_two_pow_sub_one_eq_mod]
  rfl

set_option maxHeartbeats 400000 in
/-- math.Abs -/
theorem abs_any (b : Nat) (w : World) (h : b < 18446744073709551616) :
    Calls Try.prog 44 #[.float .f64 b] w fun e w' => e = .returned (.float .f64 (frung b)) ∧ w = w' := by
  go_enter Try.func44, Try.ntmps44
  go_wp2
  go_ret
  exact ⟨by rw [← bits_abs b h]; rfl, rfl⟩

/-- a number that is not infinite -/
def ffin (b : Nat) : Bool := decide (frung b < 9218868437227405312)

theorem frung_rung (b : Nat) : frung (frung b) = frung b := by unfold frung; omega
theorem fgt_max (b : Nat) (hn : fnan b = false) : fgt (frung b) 9218868437227405311 = !ffin b := by
  have h1 := fnan_false hn
  have h2 : fnan (frung b) = false := by
    cases h : fnan (frung b) with
    | false => rfl
    | true => rw [fnan_iff, frung_rung] at h; omega
  rw [fgt_key h2 (by decide)]
  have e1 : fkey (frung b) = (frung b : Int) := by
    unfold fkey; rw [if_neg (by unfold frung; simp)]
    have := frung_rung b; unfold frung at this ⊢; omega
  have e2 : fkey 9218868437227405311 = 9218868437227405311 := by decide
  rw [e1, e2, Bool.eq_iff_iff]
  simp [ffin]
  omega

set_option maxHeartbeats 400000 in
/-- math.IsInf, of either sign -/
theorem isinf_any (b : Nat) (w : World) (h : b < 18446744073709551616) (hn : fnan b = false) :
    Calls Try.prog 39 #[.float .f64 b, .int .i64 0] w fun e w' => e = .returned (.bool (!ffin b)) ∧ w = w' := by
  rw [← fgt_max b hn]
  go_enter Try.func39, Try.ntmps39
  go_wp2_with (go_at_call 44; refine (abs_any _ _ h).mono ?_; rintro e w' ⟨rfl, rfl⟩)
  go_ret
  exact ⟨rfl, rfl⟩

set_option maxHeartbeats 400000 in
/-- window.finite -/
theorem finite_any (b : Nat) (w : World) (h : b < 18446744073709551616) :
    Calls Try.prog 29 #[.float .f64 b] w fun e w' => e = .returned (.bool (ffin b)) ∧ w = w' := by
  cases hn : fnan b
  · cases hf : ffin b
    all_goals
      go_enter Try.func29, Try.ntmps29
      go_wp2_with (first
        | (go_at_call 38; refine (isnan_any _ _).mono ?_; rintro e w' ⟨rfl, rfl⟩)
        | (go_at_call 39; refine (isinf_any _ _ h hn).mono ?_; rintro e w' ⟨rfl, rfl⟩))
      go_ret
      exact ⟨by simp [hf], rfl⟩
  · have hf : ffin b = false := by
      rw [fnan_iff] at hn
      simp [ffin]; omega
    rw [hf]
    go_enter Try.func29, Try.ntmps29
    go_wp2_with (go_at_call 38; refine (isnan_any _ _).mono ?_; rintro e w' ⟨rfl, rfl⟩)
    go_ret
    exact ⟨rfl, rfl⟩

theorem fsub_self_fin (b : Nat) : oEq (fsub b b) 0 = ffin b := by
  unfold fsub FloatKind.format Ieee.Format.sub
  rcases Nat.lt_trichotomy (frung b) 9218868437227405312 with h | h | h
  · obtain ⟨m, i, e, hi, _⟩ := read_num h
    have hf : ffin b = true := by simp [ffin, h]
    rw [hf, e]
    generalize (b / 9223372036854775808 % 2 == 1) = s
    have e0 : ∀ j : Int, j - min j j = 0 := fun j => by omega
    have e1 : Ieee.Datum.sum (.number s m i) (Ieee.Datum.opposite (.number s m i)) = some (.number false 0 (min i i)) := by
      simp only [Ieee.Datum.sum, Ieee.Datum.opposite, Ieee.signed, e0, Int.toNat_zero, Nat.shiftLeft_zero]
      cases s <;> simp <;> omega
    have e2 : Option.map Ieee.double.write (some (Ieee.Datum.number false 0 (min i i))) = some 0 := by
      simp [Ieee.Format.write, Ieee.Format.nearest, Ieee.Format.word]
    simp only [e1, e2]
    decide
  · have hf : ffin b = false := by simp [ffin]; omega
    simp only [hf, read_inf h]
    generalize (b / 9223372036854775808 % 2 == 1) = s
    cases s <;> rfl
  · have hf : ffin b = false := by simp [ffin]; omega
    obtain ⟨t, e⟩ := read_nan h
    simp only [hf, e]
    rfl

/-- the document's number -/
theorem wnumber_any (b : Nat) (w : World) :
    Calls Try.prog 31 #[.float .f64 b] w fun e w' => e = .returned (.bool (ffin b)) ∧ ∃ n, w' = w.drewN n := by
  rw [← fsub_self_fin]
  go_enter Try.func31, Try.ntmps31
  go_wp2
  go_ret
  exact ⟨rfl, _, rfl⟩
end Go.Proofs.Ytjoclapnjnmlkaa
