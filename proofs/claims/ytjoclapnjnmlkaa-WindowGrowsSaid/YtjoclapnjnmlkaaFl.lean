/- Plain facts on 64-bit floats as words: their order is a total order on words that are no NaN, told by a key. -/
import GoSem.Core.Float
set_option linter.unusedSimpArgs false
namespace Go.Proofs.Ytjoclapnjnmlkaa
open Ieee

/-- the order of two 64-bit floats -/
def ford (x y : Nat) : Option Ordering := FloatKind.f64.format.order x y
def fnan (x : Nat) : Bool := ford x x != some .eq

def SW : Nat := 9223372036854775808
def BI : Nat := 4503599627370496
def IR : Nat := 9218868437227405312

theorem f64_sw : Ieee.double.signWeight = 9223372036854775808 := by decide
theorem f64_bi : Ieee.double.binade = 4503599627370496 := by decide
theorem f64_ir : Ieee.double.infRung = 9218868437227405312 := by decide
theorem f64_lp : Ieee.double.leastPlace = -1074 := by decide

/-- the magnitude of a rung, in units of the least place -/
def rval (r : Nat) : Nat := if r < 4503599627370496 then r else (4503599627370496 + r % 4503599627370496) * 2 ^ (r / 4503599627370496 - 1)

theorem rval_succ (r : Nat) : rval r < rval (r + 1) := by
  unfold rval
  generalize hB : 4503599627370496 = B
  have hB0 : 0 < B := by omega
  by_cases h1 : r + 1 < B
  · rw [if_pos (by omega), if_pos h1]; omega
  · rw [if_neg h1]
    by_cases h2 : r < B
    · have h3 : r + 1 = B := by omega
      rw [if_pos h2, h3]
      simp [Nat.div_self hB0]
      omega
    · rw [if_neg h2]
      have hd := Nat.div_add_mod r B
      have hd' := Nat.div_add_mod (r + 1) B
      have hm := Nat.mod_lt r hB0
      have hm' := Nat.mod_lt (r + 1) hB0
      by_cases h4 : r % B + 1 < B
      · have e1 : (r + 1) / B = r / B := by
          have : r + 1 = B * (r / B) + (r % B + 1) := by omega
          rw [this, Nat.mul_add_div hB0, Nat.div_eq_of_lt h4]; simp
        have e2 : (r + 1) % B = r % B + 1 := by
          have : r + 1 = B * (r / B) + (r % B + 1) := by omega
          rw [this, Nat.mul_add_mod, Nat.mod_eq_of_lt h4]
        rw [e1, e2]
        have hp : 0 < 2 ^ (r / B - 1) := Nat.two_pow_pos _
        exact Nat.mul_lt_mul_of_pos_right (by omega) hp
      · have h5 : r % B + 1 = B := by omega
        have h6 : r + 1 = B * (r / B + 1) := by rw [Nat.mul_add]; omega
        have e1 : (r + 1) / B = r / B + 1 := by rw [h6, Nat.mul_div_cancel_left _ hB0]
        have e2 : (r + 1) % B = 0 := by rw [h6, Nat.mul_mod_right]
        rw [e1, e2]
        have hq : 1 ≤ r / B := (Nat.le_div_iff_mul_le hB0).2 (by omega)
        have e3 : r / B + 1 - 1 = (r / B - 1) + 1 := by omega
        rw [e3, Nat.pow_succ]
        have hp : 0 < 2 ^ (r / B - 1) := Nat.two_pow_pos _
        generalize 2 ^ (r / B - 1) = p at hp
        have : (B + r % B) * p < (B + B) * p := Nat.mul_lt_mul_of_pos_right (by omega) hp
        have e4 : (B + 0) * (p * 2) = (B + B) * p := by rw [Nat.add_zero, Nat.mul_comm p 2, ← Nat.mul_assoc, Nat.mul_two]
        omega

theorem rval_lt {r s : Nat} (h : r < s) : rval r < rval s := by
  induction s with
  | zero => omega
  | succ s ih =>
    rcases Nat.lt_or_ge r s with h1 | h1
    · exact Nat.lt_trans (ih h1) (rval_succ s)
    · have : r = s := by omega
      subst this; exact rval_succ r
theorem rval_zero : rval 0 = 0 := by simp [rval]

/-- the key of a word that is no NaN: its rung with its sign -/
def fkey (x : Nat) : Int := if x / 9223372036854775808 % 2 == 1 then -((x % 9223372036854775808 : Nat) : Int) else ((x % 9223372036854775808 : Nat) : Int)

def frung (x : Nat) : Nat := x % 9223372036854775808

theorem read_num {x : Nat} (h : frung x < 9218868437227405312) :
    ∃ m i, Ieee.double.read x = .number (x / 9223372036854775808 % 2 == 1) m i ∧ -1074 ≤ i ∧ m * 2 ^ (i + 1074).toNat = rval (frung x) := by
  unfold frung at *
  simp only [Format.read, f64_sw, f64_bi, f64_ir, f64_lp]
  generalize x % 9223372036854775808 = r at *
  by_cases h1 : r < 4503599627370496
  · refine ⟨r, -1074, by rw [if_pos h1], by omega, ?_⟩
    unfold rval; rw [if_pos h1]; simp
  · refine ⟨4503599627370496 + r % 4503599627370496, -1074 + (r / 4503599627370496 - 1 : Nat), by rw [if_neg h1, if_pos h], by omega, ?_⟩
    unfold rval; rw [if_neg h1]
    congr 2
    omega
theorem read_inf {x : Nat} (h : frung x = 9218868437227405312) : Ieee.double.read x = .infinity (x / 9223372036854775808 % 2 == 1) := by
  unfold frung at *
  simp only [Format.read, f64_sw, f64_bi, f64_ir, f64_lp]
  rw [h]; simp
theorem read_nan {x : Nat} (h : 9218868437227405312 < frung x) : ∃ t, Ieee.double.read x = .nan (x / 9223372036854775808 % 2 == 1) t := by
  unfold frung at *
  simp only [Format.read, f64_sw, f64_bi, f64_ir, f64_lp]
  generalize x % 9223372036854775808 = r at *
  exact ⟨_, by rw [if_neg (by omega), if_neg (by omega), if_neg (by omega)]⟩

theorem signed_scale (s : Bool) (m k : Nat) : signed s m k = if s then -((m * 2 ^ k : Nat) : Int) else ((m * 2 ^ k : Nat) : Int) := by
  simp [signed, Nat.shiftLeft_eq]

def sg (s : Bool) (n : Nat) : Int := if s then -(n : Int) else n

theorem cmp_scale (a b : Int) (k : Nat) : compare (a * 2 ^ k) (b * 2 ^ k) = compare a b := by
  have hp : (0 : Int) < 2 ^ k := Int.pow_pos (by decide)
  simp only [compare, compareOfLessAndEq]
  have h1 : a * 2 ^ k < b * 2 ^ k ↔ a < b := Int.mul_lt_mul_right hp
  have h2 : a * 2 ^ k = b * 2 ^ k ↔ a = b := ⟨fun h => Int.eq_of_mul_eq_mul_right (by omega) h, fun h => by rw [h]⟩
  simp only [h1, h2]

theorem sg_mul (s : Bool) (m k : Nat) : sg s (m * 2 ^ k) = sg s m * 2 ^ k := by
  cases s <;> simp [sg, Int.neg_mul]

theorem cmp_sg {s t : Bool} {r q : Nat} : compare (sg s (rval r)) (sg t (rval q)) = compare (sg s r) (sg t q) := by
  have key : ∀ a b : Nat, (rval a < rval b ↔ a < b) := fun a b => ⟨fun h => by
    rcases Nat.lt_or_ge a b with h1 | h1
    · exact h1
    · rcases Nat.lt_or_ge b a with h2 | h2
      · have := rval_lt h2; omega
      · have : a = b := by omega
        subst this; omega, rval_lt⟩
  have keq : ∀ a b : Nat, (rval a = rval b ↔ a = b) := fun a b => ⟨fun h => by
    rcases Nat.lt_trichotomy a b with h1 | h1 | h1
    · have := rval_lt h1; omega
    · exact h1
    · have := rval_lt h1; omega, fun h => by rw [h]⟩
  have h0 := rval_zero
  have k1 := key r q
  have k2 := key q r
  have k3 := key 0 r
  have k4 := key 0 q
  have e1 := keq r q
  rw [h0] at k3 k4
  simp only [compare, compareOfLessAndEq]
  have l : (sg s (rval r) < sg t (rval q)) ↔ (sg s r < sg t q) := by
    cases s <;> cases t <;> simp [sg] <;> omega
  have e : (sg s (rval r) = sg t (rval q)) ↔ (sg s r = sg t q) := by
    cases s <;> cases t <;> simp [sg] <;> omega
  simp only [l, e]

theorem cmp_lt {a b : Int} (h : a < b) : compare a b = .lt := by simp [compare, compareOfLessAndEq, h]
theorem cmp_gt {a b : Int} (h : b < a) : compare a b = .gt := by
  have h1 : ¬ a < b := by omega
  have h2 : ¬ a = b := by omega
  simp [compare, compareOfLessAndEq, h1, h2]
theorem cmp_eq {a b : Int} (h : a = b) : compare a b = .eq := by subst h; simp [compare, compareOfLessAndEq]

theorem order_num (s t : Bool) (m n : Nat) (i j : Int) (hi : -1074 ≤ i) (hj : -1074 ≤ j) :
    Datum.order (.number s m i) (.number t n j) = some (compare (sg s (m * 2 ^ (i + 1074).toNat)) (sg t (n * 2 ^ (j + 1074).toNat))) := by
  simp only [Datum.order, signed_scale]
  have hb : -1074 ≤ min i j := by omega
  have e1 : (i + 1074).toNat = (i - min i j).toNat + (min i j + 1074).toNat := by omega
  have e2 : (j + 1074).toNat = (j - min i j).toNat + (min i j + 1074).toNat := by omega
  rw [e1, e2, Nat.pow_add, Nat.pow_add, ← Nat.mul_assoc, ← Nat.mul_assoc, sg_mul s (m * 2 ^ _), sg_mul t (n * 2 ^ _), cmp_scale]
  rfl

theorem order_key {x y : Nat} (hx : frung x ≤ 9218868437227405312) (hy : frung y ≤ 9218868437227405312) : ford x y = some (compare (fkey x) (fkey y)) := by
  unfold ford FloatKind.format Format.order
  have kx : fkey x = sg (x / 9223372036854775808 % 2 == 1) (frung x) := rfl
  have ky : fkey y = sg (y / 9223372036854775808 % 2 == 1) (frung y) := rfl
  rw [kx, ky]
  rcases Nat.lt_or_ge (frung x) 9218868437227405312 with h1 | h1 <;> rcases Nat.lt_or_ge (frung y) 9218868437227405312 with h2 | h2
  · obtain ⟨m, i, e1, hi, v1⟩ := read_num h1
    obtain ⟨n, j, e2, hj, v2⟩ := read_num h2
    rw [e1, e2, order_num _ _ _ _ _ _ hi hj, v1, v2, cmp_sg]
  · obtain ⟨m, i, e1, hi, v1⟩ := read_num h1
    have h3 : frung y = 9218868437227405312 := by omega
    rw [e1, read_inf h3, h3]
    generalize (x / 9223372036854775808 % 2 == 1) = s
    generalize (y / 9223372036854775808 % 2 == 1) = t
    cases t
    · rw [cmp_lt (by cases s <;> simp [sg] <;> omega)]; rfl
    · rw [cmp_gt (by cases s <;> simp [sg] <;> omega)]; rfl
  · obtain ⟨n, j, e2, hj, v2⟩ := read_num h2
    have h3 : frung x = 9218868437227405312 := by omega
    rw [e2, read_inf h3, h3]
    generalize (x / 9223372036854775808 % 2 == 1) = s
    generalize (y / 9223372036854775808 % 2 == 1) = t
    cases s
    · rw [cmp_gt (by cases t <;> simp [sg] <;> omega)]; rfl
    · rw [cmp_lt (by cases t <;> simp [sg] <;> omega)]; rfl
  · have h3 : frung x = 9218868437227405312 := by omega
    have h4 : frung y = 9218868437227405312 := by omega
    rw [read_inf h3, read_inf h4, h3, h4]
    generalize (x / 9223372036854775808 % 2 == 1) = s
    generalize (y / 9223372036854775808 % 2 == 1) = t
    cases s <;> cases t <;> decide

theorem order_nan_l {x : Nat} (hx : 9218868437227405312 < frung x) (y : Nat) : ford x y = none := by
  unfold ford FloatKind.format Format.order
  obtain ⟨t, e⟩ := read_nan hx
  rw [e]; rfl
theorem order_nan_r {y : Nat} (hy : 9218868437227405312 < frung y) (x : Nat) : ford x y = none := by
  unfold ford FloatKind.format Format.order
  obtain ⟨t, e⟩ := read_nan hy
  rw [e]; cases Ieee.double.read x <;> rfl

theorem fnan_iff (x : Nat) : fnan x = true ↔ 9218868437227405312 < frung x := by
  unfold fnan
  constructor
  · intro h
    rcases Nat.lt_or_ge 9218868437227405312 (frung x) with h1 | h1
    · exact h1
    · rw [order_key h1 h1, cmp_eq rfl] at h; cases h
  · intro h; rw [order_nan_l h]; rfl
theorem fnan_false {x : Nat} (h : fnan x = false) : frung x ≤ 9218868437227405312 := by
  rcases Nat.lt_or_ge 9218868437227405312 (frung x) with h1 | h1
  · rw [(fnan_iff x).2 h1] at h; cases h
  · exact h1
theorem ford_key {x y : Nat} (hx : fnan x = false) (hy : fnan y = false) : ford x y = some (compare (fkey x) (fkey y)) := order_key (fnan_false hx) (fnan_false hy)
theorem ford_nan_l {x : Nat} (hx : fnan x = true) (y : Nat) : ford x y = none := order_nan_l ((fnan_iff x).1 hx) y
theorem ford_nan_r {y : Nat} (hy : fnan y = true) (x : Nat) : ford x y = none := order_nan_r ((fnan_iff y).1 hy) x

theorem compare_lt_iff (a b : Int) : compare a b = .lt ↔ a < b := by
  constructor
  · intro h
    rcases Int.lt_trichotomy a b with h1 | h1 | h1
    · exact h1
    · rw [cmp_eq h1] at h; cases h
    · rw [cmp_gt h1] at h; cases h
  · exact cmp_lt
theorem compare_gt_iff (a b : Int) : compare a b = .gt ↔ b < a := by
  constructor
  · intro h
    rcases Int.lt_trichotomy a b with h1 | h1 | h1
    · rw [cmp_lt h1] at h; cases h
    · rw [cmp_eq h1] at h; cases h
    · exact h1
  · exact cmp_gt
theorem compare_eq_iff (a b : Int) : compare a b = .eq ↔ a = b := by
  constructor
  · intro h
    rcases Int.lt_trichotomy a b with h1 | h1 | h1
    · rw [cmp_lt h1] at h; cases h
    · exact h1
    · rw [cmp_gt h1] at h; cases h
  · exact cmp_eq

/-- the comparisons as Go spells them -/
def flt (x y : Nat) : Bool := ford x y == some .lt
def fgt (x y : Nat) : Bool := ford x y == some .gt
def feq (x y : Nat) : Bool := ford x y == some .eq
def fge (x y : Nat) : Bool := ford x y == some .gt || ford x y == some .eq
def fle (x y : Nat) : Bool := ford x y == some .lt || ford x y == some .eq

section
variable {x y : Nat} (hx : fnan x = false) (hy : fnan y = false)
include hx hy
theorem flt_key : flt x y = decide (fkey x < fkey y) := by
  unfold flt; rw [ford_key hx hy, Bool.eq_iff_iff]; simp [compare_lt_iff]
theorem fgt_key : fgt x y = decide (fkey y < fkey x) := by
  unfold fgt; rw [ford_key hx hy, Bool.eq_iff_iff]; simp [compare_gt_iff]
theorem feq_key : feq x y = decide (fkey x = fkey y) := by
  unfold feq; rw [ford_key hx hy, Bool.eq_iff_iff]; simp
theorem fge_key : fge x y = decide (fkey y ≤ fkey x) := by
  unfold fge; rw [ford_key hx hy, Bool.eq_iff_iff]; simp [compare_gt_iff]; omega
theorem fle_key : fle x y = decide (fkey x ≤ fkey y) := by
  unfold fle; rw [ford_key hx hy, Bool.eq_iff_iff]; simp [compare_lt_iff]; omega
end

/-- a word as the program keeps it: no NaN, no zero below, a word -/
def fkept (x : Nat) : Prop := fnan x = false ∧ x ≠ 9223372036854775808 ∧ x < 18446744073709551616

theorem fkey_inj {x y : Nat} (hx : fkept x) (hy : fkept y) (h : fkey x = fkey y) : x = y := by
  obtain ⟨_, x1, x2⟩ := hx
  obtain ⟨_, y1, y2⟩ := hy
  unfold fkey at h
  split at h <;> split at h <;> simp_all <;> omega
end Go.Proofs.Ytjoclapnjnmlkaa
