/- Parts of the proof: Ba Bb Fl Mc Bd Pa Pb Bc. -/
import Derived.Laws.IdiomStrings
import Derived.Laws.Strings
import Derived.Laws.Strings2
import Derived.Laws.Strings3
import Derived.Laws.Concat
import Derived.RowKit
import GoSem.Core.Float
import Derived.WalkKit
import Derived.Deep.Draws
import Derived.Test.YtnnghcooidjlhaaGreatProg
import Derived.WalkSpells
import Derived.WalkLawsBesides
import Derived.Maps.AppendAt
import Derived.Laws.BytesArg
set_option linter.all false
section
set_option linter.unusedSimpArgs false
namespace Go.Proofs.YtnnghcooidjlhaaGreat
abbrev Bs := List UInt8
def S (l : Bs) : ByteArray := ⟨l.toArray⟩
@[go_sem] theorem S_size (l : Bs) : (S l).size = l.length := by simp [S, ByteArray.size]
@[go_sem] theorem S_append (a b : Bs) : S a ++ S b = S (a ++ b) := Go.ByteArray.mk_append_mk ..
@[go_sem] theorem S_extract (l : Bs) (i j : Nat) : (S l).extract i j = S ((l.drop i).take (j - i)) := Go.ByteArray.extract_mk ..
@[go_sem] theorem S_toList (l : Bs) : (S l).toList = l := Go.ByteArray.toList_mk l
section
variable {P : Program} (w : World)
@[go_sem high] theorem run_index_S (t : TypeId) (l : Bs) (k : IntKind) (i : Int) (h : P.underlying t = some .string) (h0 : 0 ≤ i) (h1 : i < l.length) :
    (Instr.index t (.string (S l)) (.int k i)).run P w = .ok (.int .u8 ((l.getD i.toNat 0).toNat : Int)) w := by
  rw [run_index_string w t (S l) k i h, dif_pos ⟨h0, by rw [S_size]; exact h1⟩]
  have h2 : i.toNat < l.length := by omega
  have e : (S l)[i.toNat]'(by rw [S_size]; exact h2) = l[i.toNat] := by
    show l.toArray[i.toNat] = _
    simp
  rw [e]
  simp [List.getD, h2]
end
theorem S_inj {a b : Bs} (h : S a = S b) : a = b := by
  rw [← S_toList a, ← S_toList b, h]
def two (n : Nat) : Bs := [UInt8.ofNat (n / 256), UInt8.ofNat n]
@[simp] theorem two_length (n : Nat) : (two n).length = 2 := rfl
def un2 (a b : UInt8) : Nat := a.toNat * 256 + b.toNat
theorem un2_two {n : Nat} (h : n < 65536) : un2 (UInt8.ofNat (n / 256)) (UInt8.ofNat n) = n := by
  simp [un2]; omega
def setAt (l : Bs) (at_ : Nat) (b : Bs) : Bs := l.take at_ ++ b ++ l.drop (at_ + b.length)
theorem setAt_length {l : Bs} {i : Nat} {b : Bs} (h : i + b.length ≤ l.length) : (setAt l i b).length = l.length := by
  simp [setAt]; omega
theorem setAt_drop {l : Bs} {i k : Nat} {b : Bs} (hk : k ≤ i) (h : i ≤ l.length) : (setAt l i b).drop k = (l.take i).drop k ++ b ++ l.drop (i + b.length) := by
  unfold setAt
  rw [List.append_assoc, List.drop_append_of_le_length (by simp; omega), List.append_assoc]
def rlen (rs : List Bs) : Nat := (rs.map List.length).sum
@[simp] theorem rlen_nil : rlen [] = 0 := rfl
@[simp] theorem rlen_cons (r : Bs) (rs : List Bs) : rlen (r :: rs) = r.length + rlen rs := by simp [rlen]
@[simp] theorem rlen_append (a b : List Bs) : rlen (a ++ b) = rlen a + rlen b := by simp [rlen]
def slotsOf : Nat → List Bs → List (Nat × Nat)
  | _, [] => []
  | top, r :: rs => (top - r.length, r.length) :: slotsOf (top - r.length) rs
@[simp] theorem slotsOf_length (rs : List Bs) : ∀ top, (slotsOf top rs).length = rs.length := by
  induction rs with
  | nil => intro; rfl
  | cons r rs ih => intro top; simp [slotsOf, ih]
theorem slotsOf_snoc (rs : List Bs) (r : Bs) : ∀ top, slotsOf top (rs ++ [r]) = slotsOf top rs ++ [(top - rlen rs - r.length, r.length)] := by
  induction rs with
  | nil => intro; simp [slotsOf]
  | cons x rs ih => intro top; simp [slotsOf, ih, Nat.sub_sub]
def flatS (l : List (Nat × Nat)) : Bs := l.flatMap fun x => two x.1 ++ two x.2
@[simp] theorem flatS_nil : flatS [] = [] := rfl
@[simp] theorem flatS_cons (x : Nat × Nat) (l : List (Nat × Nat)) : flatS (x :: l) = two x.1 ++ two x.2 ++ flatS l := rfl
@[simp] theorem flatS_length (l : List (Nat × Nat)) : (flatS l).length = 4 * l.length := by
  induction l with
  | nil => rfl
  | cons x l ih => simp [ih]; omega
def heapB : List Bs → Bs
  | [] => []
  | r :: rs => heapB rs ++ r
@[simp] theorem heapB_length (rs : List Bs) : (heapB rs).length = rlen rs := by
  induction rs with
  | nil => rfl
  | cons r rs ih => simp [heapB, ih]; omega
theorem heapB_snoc (rs : List Bs) (r : Bs) : heapB (rs ++ [r]) = r ++ heapB rs := by
  induction rs with
  | nil => simp [heapB]
  | cons x rs ih => simp [heapB, ih]
def used (rs : List Bs) : Nat := 4 + 4 * rs.length + rlen rs
def lay (rs : List Bs) : Bs := two rs.length ++ two (232 - rlen rs) ++ flatS (slotsOf 232 rs) ++ List.replicate (232 - used rs) 0 ++ heapB rs
theorem lay_length {rs : List Bs} (h : used rs ≤ 232) : (lay rs).length = 232 := by
  unfold used at h; simp [lay, used]; omega
def withB (b : Bs) (l : List (Nat × Nat)) (heap : Nat) : Bs := two l.length ++ two heap ++ flatS l ++ b.drop (4 + 4 * l.length)
theorem lay_insert {rs : List Bs} {r : Bs} (h : used (rs ++ [r]) ≤ 232) :
    withB (setAt (lay rs) (232 - rlen rs - r.length) r) (slotsOf 232 (rs ++ [r])) (232 - rlen rs - r.length) = lay (rs ++ [r]) := by
  have hu : 4 + 4 * (rs.length + 1) + (rlen rs + r.length) ≤ 232 := by simpa [used] using h
  have hl : (lay rs).length = 232 := lay_length (by unfold used; omega)
  have h1 : (lay rs).take (232 - rlen rs - r.length) = two rs.length ++ two (232 - rlen rs) ++ flatS (slotsOf 232 rs) ++ List.replicate (232 - used rs - r.length) 0 := by
    unfold lay
    rw [List.take_append_of_le_length (by simp [used]; omega)]
    rw [List.take_append]
    rw [List.take_of_length_le (by simp; omega)]
    congr 1
    simp [used]; omega
  have h2 : (lay rs).drop (232 - rlen rs) = heapB rs := by
    unfold lay
    rw [List.drop_append_of_le_length (by simp [used]; omega), List.drop_of_length_le (by simp [used]; omega)]
    rfl
  unfold withB
  rw [setAt_drop (by simp; omega) (by omega), h1]
  have e2 : 232 - rlen rs - r.length + r.length = 232 - rlen rs := by omega
  rw [e2, h2]
  have e3 : List.drop (4 + 4 * (slotsOf 232 (rs ++ [r])).length) (two rs.length ++ two (232 - rlen rs) ++ flatS (slotsOf 232 rs) ++ List.replicate (232 - used rs - r.length) 0) = List.replicate (232 - used (rs ++ [r])) 0 := by
    rw [List.drop_append, List.drop_of_length_le (by simp; omega)]
    simp [used]; omega
  rw [e3]
  unfold lay
  rw [heapB_snoc]
  simp [Nat.sub_sub]
theorem slotsOf_get (rs : List Bs) : ∀ (top i : Nat) (hi : i < rs.length), (slotsOf top rs)[i]? = some (top - rlen (rs.take (i + 1)), (rs[i]).length) := by
  induction rs with
  | nil => intro top i hi; simp at hi
  | cons r rs ih =>
    intro top i hi
    cases i with
    | zero => simp [slotsOf]
    | succ i => simp [slotsOf]; rw [ih _ i (by simpa using hi)]; simp [Nat.sub_sub]
theorem heapB_take (rs : List Bs) : ∀ i, (hi : i < rs.length) → ∃ a z, heapB rs = a ++ rs[i] ++ z ∧ z.length = rlen (rs.take i) := by
  induction rs with
  | nil => intro i hi; simp at hi
  | cons r rs ih =>
    intro i hi
    cases i with
    | zero => exact ⟨heapB rs, [], by simp [heapB], rfl⟩
    | succ i =>
      obtain ⟨a, z, h1, h2⟩ := ih i (by simpa using hi)
      exact ⟨a, z ++ r, by simp [heapB, h1], by simp [h2]; omega⟩
theorem rlen_take_le (rs : List Bs) (i : Nat) : rlen (rs.take i) ≤ rlen rs := by
  have := rlen_append (rs.take i) (rs.drop i); simp at this; omega
theorem rlen_take_succ (rs : List Bs) (i : Nat) (hi : i < rs.length) : rlen (rs.take (i + 1)) = rlen (rs.take i) + (rs[i]).length := by
  rw [List.take_succ_eq_append_getElem hi, rlen_append]; simp
theorem lay_record {rs : List Bs} (h : used rs ≤ 232) {i : Nat} (hi : i < rs.length) : ((lay rs).drop (232 - rlen (rs.take (i + 1)))).take (rs[i]).length = rs[i] := by
  obtain ⟨a, z, h1, h2⟩ := heapB_take rs i hi
  have hl := rlen_take_le rs (i + 1)
  have hs := rlen_take_succ rs i hi
  have ha : a.length = rlen rs - rlen (rs.take (i + 1)) := by
    have := congrArg List.length h1; simp at this; omega
  unfold used at h
  have e : lay rs = (two rs.length ++ two (232 - rlen rs) ++ flatS (slotsOf 232 rs) ++ List.replicate (232 - used rs) 0 ++ a) ++ (rs[i] ++ z) := by unfold lay; rw [h1]; simp
  rw [e, List.drop_append]
  rw [List.drop_of_length_le (by simp [used]; omega)]
  have : 232 - rlen (rs.take (i + 1)) - (two rs.length ++ two (232 - rlen rs) ++ flatS (slotsOf 232 rs) ++ List.replicate (232 - used rs) 0 ++ a).length = 0 := by simp [used]; omega
  rw [this]
  simp
end Go.Proofs.YtnnghcooidjlhaaGreat
end
section
set_option linter.unusedSimpArgs false
namespace Go.Proofs.YtnnghcooidjlhaaGreat
def be : Nat → Nat → Bs
  | 0, _ => []
  | k + 1, n => UInt8.ofNat (n / 256 ^ k) :: be k n
@[simp] theorem be_length (k n : Nat) : (be k n).length = k := by
  induction k with
  | zero => rfl
  | succ k ih => simp [be, ih]
def unbe (l : Bs) : Nat := l.foldl (fun a b => a * 256 + b.toNat) 0
theorem unbe_go (l : Bs) : ∀ a, l.foldl (fun a b => a * 256 + b.toNat) a = a * 256 ^ l.length + unbe l := by
  induction l with
  | nil => intro a; simp [unbe]
  | cons b l ih =>
    intro a
    simp only [List.foldl_cons, unbe]
    rw [ih, ih (0 * 256 + b.toNat)]
    simp [Nat.pow_succ, Nat.add_mul, Nat.mul_assoc, Nat.mul_comm 256]
    omega
theorem unbe_cons (b : UInt8) (l : Bs) : unbe (b :: l) = b.toNat * 256 ^ l.length + unbe l := by
  have := unbe_go l b.toNat
  simp [unbe] at this ⊢
  exact this
theorem unbe_snoc (l : Bs) (b : UInt8) : unbe (l ++ [b]) = unbe l * 256 + b.toNat := by simp [unbe]
theorem unbe_be (k n : Nat) : unbe (be k n) = n % 256 ^ k := by
  induction k with
  | zero => simp [be, unbe, Nat.mod_one]
  | succ k ih =>
    simp only [be, unbe_cons, be_length, ih]
    have h1 : (UInt8.ofNat (n / 256 ^ k)).toNat = n / 256 ^ k % 256 := by simp
    rw [h1, Nat.pow_succ, Nat.mod_mul]
    rw [Nat.mul_comm, Nat.add_comm]
theorem unbe_lt (l : Bs) : unbe l < 256 ^ l.length := by
  induction l with
  | nil => simp [unbe]
  | cons b l ih =>
    rw [unbe_cons]
    have := b.toNat_lt
    simp only [List.length_cons, Nat.pow_succ]
    have : b.toNat * 256 ^ l.length ≤ 255 * 256 ^ l.length := Nat.mul_le_mul_right _ (by omega)
    omega
theorem be_take_succ (k n j : Nat) (h : j < k) : (be k n).take (j + 1) = (be k n).take j ++ [UInt8.ofNat (n / 256 ^ (k - 1 - j))] := by
  induction k generalizing j with
  | zero => omega
  | succ k ih =>
    cases j with
    | zero => simp [be]
    | succ j =>
      simp only [be, List.take_succ_cons, List.cons_append]
      rw [ih j (by omega)]
      have : k + 1 - 1 - (j + 1) = k - 1 - j := by omega
      rw [this]
theorem be_drop (k n j : Nat) (h : j ≤ k) : (be k n).drop j = be (k - j) n := by
  induction j generalizing k with
  | zero => simp
  | succ j ih =>
    cases k with
    | zero => omega
    | succ k => simp only [be, List.drop_succ_cons]; rw [ih k (by omega)]; congr 1; omega
def encI (x : Int) : Bs := be 8 (x + 9223372036854775808).toNat
@[simp] theorem encI_length (x : Int) : (encI x).length = 8 := by simp [encI]
theorem unbe_encI {x : Int} (h0 : -9223372036854775808 ≤ x) (h1 : x < 9223372036854775808) : (unbe (encI x) : Int) = x + 9223372036854775808 := by
  unfold encI; rw [unbe_be]; omega
theorem encI_inj {x y : Int} (h0 : -9223372036854775808 ≤ x) (h1 : x < 9223372036854775808) (h2 : -9223372036854775808 ≤ y) (h3 : y < 9223372036854775808) (h : encI x = encI y) : x = y := by
  have := unbe_encI h0 h1; have := unbe_encI h2 h3; rw [h] at *; omega
end Go.Proofs.YtnnghcooidjlhaaGreat
end
section
set_option linter.unusedSimpArgs false
namespace Go.Proofs.YtnnghcooidjlhaaGreat
open Ieee
def ford (x y : Nat) : Option Ordering := FloatKind.f64.format.order x y
def fnan (x : Nat) : Bool := ford x x != some .eq
def SW : Nat := 9223372036854775808
def BI : Nat := 4503599627370496
def IR : Nat := 9218868437227405312
theorem f64_sw : Ieee.double.signWeight = 9223372036854775808 := by decide
theorem f64_bi : Ieee.double.binade = 4503599627370496 := by decide
theorem f64_ir : Ieee.double.infRung = 9218868437227405312 := by decide
theorem f64_lp : Ieee.double.leastPlace = -1074 := by decide
def rval (r : Nat) : Nat := if r < 4503599627370496 then r else (4503599627370496 + r % 4503599627370496) * 2 ^ (r / 4503599627370496 - 1)
theorem rval_succ (r : Nat) : rval r < rval (r + 1) := by
  unfold rval
  generalize hB : 4503599627370496 = B
  have hB0 : 0 < B := by omega
  by_cases h1 : r + 1 < B
  · rw [if_pos (by omega), if_pos h1]; omega
  · rw [if_neg h1]
    by_cases h2 : r < B
    · have h3 : r + 1 = B := by omega
      rw [if_pos h2, h3]
      simp [Nat.div_self hB0]
      omega
    · rw [if_neg h2]
      have hd := Nat.div_add_mod r B
      have hd' := Nat.div_add_mod (r + 1) B
      have hm := Nat.mod_lt r hB0
      have hm' := Nat.mod_lt (r + 1) hB0
      by_cases h4 : r % B + 1 < B
      · have e1 : (r + 1) / B = r / B := by
          have : r + 1 = B * (r / B) + (r % B + 1) := by omega
          rw [this, Nat.mul_add_div hB0, Nat.div_eq_of_lt h4]; simp
        have e2 : (r + 1) % B = r % B + 1 := by
          have : r + 1 = B * (r / B) + (r % B + 1) := by omega
          rw [this, Nat.mul_add_mod, Nat.mod_eq_of_lt h4]
        rw [e1, e2]
        have hp : 0 < 2 ^ (r / B - 1) := Nat.two_pow_pos _
        exact Nat.mul_lt_mul_of_pos_right (by omega) hp
      · have h5 : r % B + 1 = B := by omega
        have h6 : r + 1 = B * (r / B + 1) := by rw [Nat.mul_add]; omega
        have e1 : (r + 1) / B = r / B + 1 := by rw [h6, Nat.mul_div_cancel_left _ hB0]
        have e2 : (r + 1) % B = 0 := by rw [h6, Nat.mul_mod_right]
        rw [e1, e2]
        have hq : 1 ≤ r / B := (Nat.le_div_iff_mul_le hB0).2 (by omega)
        have e3 : r / B + 1 - 1 = (r / B - 1) + 1 := by omega
        rw [e3, Nat.pow_succ]
        have hp : 0 < 2 ^ (r / B - 1) := Nat.two_pow_pos _
        generalize 2 ^ (r / B - 1) = p at hp
        have : (B + r % B) * p < (B + B) * p := Nat.mul_lt_mul_of_pos_right (by omega) hp
        have e4 : (B + 0) * (p * 2) = (B + B) * p := by rw [Nat.add_zero, Nat.mul_comm p 2, ← Nat.mul_assoc, Nat.mul_two]
        omega
theorem rval_lt {r s : Nat} (h : r < s) : rval r < rval s := by
  induction s with
  | zero => omega
  | succ s ih =>
    rcases Nat.lt_or_ge r s with h1 | h1
    · exact Nat.lt_trans (ih h1) (rval_succ s)
    · have : r = s := by omega
      subst this; exact rval_succ r
theorem rval_zero : rval 0 = 0 := by simp [rval]
def fkey (x : Nat) : Int := if x / 9223372036854775808 % 2 == 1 then -((x % 9223372036854775808 : Nat) : Int) else ((x % 9223372036854775808 : Nat) : Int)
def frung (x : Nat) : Nat := x % 9223372036854775808
theorem read_num {x : Nat} (h : frung x < 9218868437227405312) :
    ∃ m i, Ieee.double.read x = .number (x / 9223372036854775808 % 2 == 1) m i ∧ -1074 ≤ i ∧ m * 2 ^ (i + 1074).toNat = rval (frung x) := by
  unfold frung at *
  simp only [Format.read, f64_sw, f64_bi, f64_ir, f64_lp]
  generalize x % 9223372036854775808 = r at *
  by_cases h1 : r < 4503599627370496
  · refine ⟨r, -1074, by rw [if_pos h1], by omega, ?_⟩
    unfold rval; rw [if_pos h1]; simp
  · refine ⟨4503599627370496 + r % 4503599627370496, -1074 + (r / 4503599627370496 - 1 : Nat), by rw [if_neg h1, if_pos h], by omega, ?_⟩
    unfold rval; rw [if_neg h1]
    congr 2
    omega
theorem read_inf {x : Nat} (h : frung x = 9218868437227405312) : Ieee.double.read x = .infinity (x / 9223372036854775808 % 2 == 1) := by
  unfold frung at *
  simp only [Format.read, f64_sw, f64_bi, f64_ir, f64_lp]
  rw [h]; simp
theorem read_nan {x : Nat} (h : 9218868437227405312 < frung x) : ∃ t, Ieee.double.read x = .nan (x / 9223372036854775808 % 2 == 1) t := by
  unfold frung at *
  simp only [Format.read, f64_sw, f64_bi, f64_ir, f64_lp]
  generalize x % 9223372036854775808 = r at *
  exact ⟨_, by rw [if_neg (by omega), if_neg (by omega), if_neg (by omega)]⟩
theorem signed_scale (s : Bool) (m k : Nat) : signed s m k = if s then -((m * 2 ^ k : Nat) : Int) else ((m * 2 ^ k : Nat) : Int) := by
  simp [signed, Nat.shiftLeft_eq]
def sg (s : Bool) (n : Nat) : Int := if s then -(n : Int) else n
theorem cmp_scale (a b : Int) (k : Nat) : compare (a * 2 ^ k) (b * 2 ^ k) = compare a b := by
  have hp : (0 : Int) < 2 ^ k := Int.pow_pos (by decide)
  simp only [compare, compareOfLessAndEq]
  have h1 : a * 2 ^ k < b * 2 ^ k ↔ a < b := Int.mul_lt_mul_right hp
  have h2 : a * 2 ^ k = b * 2 ^ k ↔ a = b := ⟨fun h => Int.eq_of_mul_eq_mul_right (by omega) h, fun h => by rw [h]⟩
  simp only [h1, h2]
theorem sg_mul (s : Bool) (m k : Nat) : sg s (m * 2 ^ k) = sg s m * 2 ^ k := by
  cases s <;> simp [sg, Int.neg_mul]
theorem cmp_sg {s t : Bool} {r q : Nat} : compare (sg s (rval r)) (sg t (rval q)) = compare (sg s r) (sg t q) := by
  have key : ∀ a b : Nat, (rval a < rval b ↔ a < b) := fun a b => ⟨fun h => by
    rcases Nat.lt_or_ge a b with h1 | h1
    · exact h1
    · rcases Nat.lt_or_ge b a with h2 | h2
      · have := rval_lt h2; omega
      · have : a = b := by omega
        subst this; omega, rval_lt⟩
  have keq : ∀ a b : Nat, (rval a = rval b ↔ a = b) := fun a b => ⟨fun h => by
    rcases Nat.lt_trichotomy a b with h1 | h1 | h1
    · have := rval_lt h1; omega
    · exact h1
    · have := rval_lt h1; omega, fun h => by rw [h]⟩
  have h0 := rval_zero
  have k1 := key r q
  have k2 := key q r
  have k3 := key 0 r
  have k4 := key 0 q
  have e1 := keq r q
  rw [h0] at k3 k4
  simp only [compare, compareOfLessAndEq]
  have l : (sg s (rval r) < sg t (rval q)) ↔ (sg s r < sg t q) := by
    cases s <;> cases t <;> simp [sg] <;> omega
  have e : (sg s (rval r) = sg t (rval q)) ↔ (sg s r = sg t q) := by
    cases s <;> cases t <;> simp [sg] <;> omega
  simp only [l, e]
theorem cmp_lt {a b : Int} (h : a < b) : compare a b = .lt := by simp [compare, compareOfLessAndEq, h]
theorem cmp_gt {a b : Int} (h : b < a) : compare a b = .gt := by
  have h1 : ¬ a < b := by omega
  have h2 : ¬ a = b := by omega
  simp [compare, compareOfLessAndEq, h1, h2]
theorem cmp_eq {a b : Int} (h : a = b) : compare a b = .eq := by subst h; simp [compare, compareOfLessAndEq]
theorem order_num (s t : Bool) (m n : Nat) (i j : Int) (hi : -1074 ≤ i) (hj : -1074 ≤ j) :
    Datum.order (.number s m i) (.number t n j) = some (compare (sg s (m * 2 ^ (i + 1074).toNat)) (sg t (n * 2 ^ (j + 1074).toNat))) := by
  simp only [Datum.order, signed_scale]
  have hb : -1074 ≤ min i j := by omega
  have e1 : (i + 1074).toNat = (i - min i j).toNat + (min i j + 1074).toNat := by omega
  have e2 : (j + 1074).toNat = (j - min i j).toNat + (min i j + 1074).toNat := by omega
  rw [e1, e2, Nat.pow_add, Nat.pow_add, ← Nat.mul_assoc, ← Nat.mul_assoc, sg_mul s (m * 2 ^ _), sg_mul t (n * 2 ^ _), cmp_scale]
  rfl
theorem order_key {x y : Nat} (hx : frung x ≤ 9218868437227405312) (hy : frung y ≤ 9218868437227405312) : ford x y = some (compare (fkey x) (fkey y)) := by
  unfold ford FloatKind.format Format.order
  have kx : fkey x = sg (x / 9223372036854775808 % 2 == 1) (frung x) := rfl
  have ky : fkey y = sg (y / 9223372036854775808 % 2 == 1) (frung y) := rfl
  rw [kx, ky]
  rcases Nat.lt_or_ge (frung x) 9218868437227405312 with h1 | h1 <;> rcases Nat.lt_or_ge (frung y) 9218868437227405312 with h2 | h2
  · obtain ⟨m, i, e1, hi, v1⟩ := read_num h1
    obtain ⟨n, j, e2, hj, v2⟩ := read_num h2
    rw [e1, e2, order_num _ _ _ _ _ _ hi hj, v1, v2, cmp_sg]
  · obtain ⟨m, i, e1, hi, v1⟩ := read_num h1
    have h3 : frung y = 9218868437227405312 := by omega
    rw [e1, read_inf h3, h3]
    generalize (x / 9223372036854775808 % 2 == 1) = s
    generalize (y / 9223372036854775808 % 2 == 1) = t
    cases t
    · rw [cmp_lt (by cases s <;> simp [sg] <;> omega)]; rfl
    · rw [cmp_gt (by cases s <;> simp [sg] <;> omega)]; rfl
  · obtain ⟨n, j, e2, hj, v2⟩ := read_num h2
    have h3 : frung x = 9218868437227405312 := by omega
    rw [e2, read_inf h3, h3]
    generalize (x / 9223372036854775808 % 2 == 1) = s
    generalize (y / 9223372036854775808 % 2 == 1) = t
    cases s
    · rw [cmp_gt (by cases t <;> simp [sg] <;> omega)]; rfl
    · rw [cmp_lt (by cases t <;> simp [sg] <;> omega)]; rfl
  · have h3 : frung x = 9218868437227405312 := by omega
    have h4 : frung y = 9218868437227405312 := by omega
    rw [read_inf h3, read_inf h4, h3, h4]
    generalize (x / 9223372036854775808 % 2 == 1) = s
    generalize (y / 9223372036854775808 % 2 == 1) = t
    cases s <;> cases t <;> decide
theorem order_nan_l {x : Nat} (hx : 9218868437227405312 < frung x) (y : Nat) : ford x y = none := by
  unfold ford FloatKind.format Format.order
  obtain ⟨t, e⟩ := read_nan hx
  rw [e]; rfl
theorem order_nan_r {y : Nat} (hy : 9218868437227405312 < frung y) (x : Nat) : ford x y = none := by
  unfold ford FloatKind.format Format.order
  obtain ⟨t, e⟩ := read_nan hy
  rw [e]; cases Ieee.double.read x <;> rfl
theorem fnan_iff (x : Nat) : fnan x = true ↔ 9218868437227405312 < frung x := by
  unfold fnan
  constructor
  · intro h
    rcases Nat.lt_or_ge 9218868437227405312 (frung x) with h1 | h1
    · exact h1
    · rw [order_key h1 h1, cmp_eq rfl] at h; cases h
  · intro h; rw [order_nan_l h]; rfl
theorem fnan_false {x : Nat} (h : fnan x = false) : frung x ≤ 9218868437227405312 := by
  rcases Nat.lt_or_ge 9218868437227405312 (frung x) with h1 | h1
  · rw [(fnan_iff x).2 h1] at h; cases h
  · exact h1
theorem ford_key {x y : Nat} (hx : fnan x = false) (hy : fnan y = false) : ford x y = some (compare (fkey x) (fkey y)) := order_key (fnan_false hx) (fnan_false hy)
theorem ford_nan_l {x : Nat} (hx : fnan x = true) (y : Nat) : ford x y = none := order_nan_l ((fnan_iff x).1 hx) y
theorem ford_nan_r {y : Nat} (hy : fnan y = true) (x : Nat) : ford x y = none := order_nan_r ((fnan_iff y).1 hy) x
theorem compare_lt_iff (a b : Int) : compare a b = .lt ↔ a < b := by
  constructor
  · intro h
    rcases Int.lt_trichotomy a b with h1 | h1 | h1
    · exact h1
    · rw [cmp_eq h1] at h; cases h
    · rw [cmp_gt h1] at h; cases h
  · exact cmp_lt
theorem compare_gt_iff (a b : Int) : compare a b = .gt ↔ b < a := by
  constructor
  · intro h
    rcases Int.lt_trichotomy a b with h1 | h1 | h1
    · rw [cmp_lt h1] at h; cases h
    · rw [cmp_eq h1] at h; cases h
    · exact h1
  · exact cmp_gt
theorem compare_eq_iff (a b : Int) : compare a b = .eq ↔ a = b := by
  constructor
  · intro h
    rcases Int.lt_trichotomy a b with h1 | h1 | h1
    · rw [cmp_lt h1] at h; cases h
    · exact h1
    · rw [cmp_gt h1] at h; cases h
  · exact cmp_eq
def flt (x y : Nat) : Bool := ford x y == some .lt
def fgt (x y : Nat) : Bool := ford x y == some .gt
def feq (x y : Nat) : Bool := ford x y == some .eq
def fge (x y : Nat) : Bool := ford x y == some .gt || ford x y == some .eq
def fle (x y : Nat) : Bool := ford x y == some .lt || ford x y == some .eq
section
variable {x y : Nat} (hx : fnan x = false) (hy : fnan y = false)
include hx hy
theorem flt_key : flt x y = decide (fkey x < fkey y) := by
  unfold flt; rw [ford_key hx hy, Bool.eq_iff_iff]; simp [compare_lt_iff]
theorem fgt_key : fgt x y = decide (fkey y < fkey x) := by
  unfold fgt; rw [ford_key hx hy, Bool.eq_iff_iff]; simp [compare_gt_iff]
theorem feq_key : feq x y = decide (fkey x = fkey y) := by
  unfold feq; rw [ford_key hx hy, Bool.eq_iff_iff]; simp
theorem fge_key : fge x y = decide (fkey y ≤ fkey x) := by
  unfold fge; rw [ford_key hx hy, Bool.eq_iff_iff]; simp [compare_gt_iff]; omega
theorem fle_key : fle x y = decide (fkey x ≤ fkey y) := by
  unfold fle; rw [ford_key hx hy, Bool.eq_iff_iff]; simp [compare_lt_iff]; omega
end
def fkept (x : Nat) : Prop := fnan x = false ∧ x ≠ 9223372036854775808 ∧ x < 18446744073709551616
theorem fkey_inj {x y : Nat} (hx : fkept x) (hy : fkept y) (h : fkey x = fkey y) : x = y := by
  obtain ⟨_, x1, x2⟩ := hx
  obtain ⟨_, y1, y2⟩ := hy
  unfold fkey at h
  split at h <;> split at h <;> simp_all <;> omega
end Go.Proofs.YtnnghcooidjlhaaGreat
end
section
set_option linter.unusedSimpArgs false
namespace Go.Proofs.YtnnghcooidjlhaaGreat
structure Ev where
  t : Nat
  src : Int
  n : Int
  dst : Int
  pay : Int
deriving DecidableEq
def Ev.right (e : Ev) : Prop := fnan e.t = false ∧ -1 ≤ e.src ∧ e.src < 6 ∧ 0 ≤ e.n ∧ e.n ≤ 1099511627776 ∧ 0 ≤ e.dst ∧ e.dst < 6
instance (e : Ev) : Decidable e.right := by unfold Ev.right; infer_instance
def Ev.ok (e : Ev) : Prop := e.t < 18446744073709551616 ∧ (-9223372036854775808 ≤ e.src ∧ e.src < 9223372036854775808) ∧ (-9223372036854775808 ≤ e.n ∧ e.n < 9223372036854775808) ∧ (-9223372036854775808 ≤ e.dst ∧ e.dst < 9223372036854775808) ∧ (-9223372036854775808 ≤ e.pay ∧ e.pay < 9223372036854775808)
def tn (x : Nat) : Nat := if x = 9223372036854775808 then 0 else x
def tkey (x : Nat) : Nat := if tn x < 9223372036854775808 then tn x + 9223372036854775808 else 18446744073709551615 - tn x
def unT (b : Nat) : Nat := if b < 9223372036854775808 then 18446744073709551615 - b else b - 9223372036854775808
theorem tn_lt {x : Nat} (h : x < 18446744073709551616) : tn x < 18446744073709551616 := by unfold tn; split <;> omega
theorem tkey_lt {x : Nat} (h : x < 18446744073709551616) : tkey x < 18446744073709551616 := by
  have := tn_lt h
  unfold tkey; split <;> omega
theorem tn_tn (x : Nat) : tn (tn x) = tn x := by unfold tn; split <;> simp_all
theorem tn_ne (x : Nat) : tn x ≠ 9223372036854775808 := by unfold tn; split <;> simp_all
theorem unT_tk {x : Nat} (h : x < 18446744073709551616) : unT (tkey x) = tn x := by
  have := tn_lt h
  have := tn_ne x
  unfold unT tkey
  by_cases h1 : tn x < 9223372036854775808
  · rw [if_pos h1, if_neg (by omega)]; omega
  · rw [if_neg h1, if_pos (by omega)]; omega
theorem tk_tn (x : Nat) : tkey (tn x) = tkey x := by unfold tkey; rw [tn_tn]
theorem fkey_tn (x : Nat) : fkey (tn x) = fkey x := by
  unfold tn
  split
  · next h => subst h; decide
  · rfl
theorem fnan_tn (x : Nat) : fnan (tn x) = fnan x := by
  unfold tn
  split
  · next h => subst h; decide
  · rfl
theorem fkey_tk {x y : Nat} (hx : x < 18446744073709551616) (hy : y < 18446744073709551616) : (fkey x < fkey y ↔ tkey x < tkey y) := by
  rw [← fkey_tn x, ← fkey_tn y]
  have h1 := tn_lt hx
  have h2 := tn_lt hy
  have h3 := tn_ne x
  have h4 := tn_ne y
  unfold tkey
  generalize tn x = a at *
  generalize tn y = b at *
  unfold fkey
  have e : ∀ z : Nat, z < 18446744073709551616 → ((z / 9223372036854775808 % 2 == 1) = true ↔ 9223372036854775808 ≤ z) := fun z hz => by
    rw [beq_iff_eq]; omega
  by_cases ha : 9223372036854775808 ≤ a <;> by_cases hb : 9223372036854775808 ≤ b
  · rw [if_pos ((e a h1).2 ha), if_pos ((e b h2).2 hb), if_neg (by omega), if_neg (by omega)]; omega
  · rw [if_pos ((e a h1).2 ha), if_neg (fun h => hb ((e b h2).1 h)), if_neg (by omega), if_pos (by omega)]; omega
  · rw [if_neg (fun h => ha ((e a h1).1 h)), if_pos ((e b h2).2 hb), if_pos (by omega), if_neg (by omega)]; omega
  · rw [if_neg (fun h => ha ((e a h1).1 h)), if_neg (fun h => hb ((e b h2).1 h)), if_pos (by omega), if_pos (by omega)]; omega
theorem fkey_eq_tn {x y : Nat} (hx : x < 18446744073709551616) (hy : y < 18446744073709551616) : fkey x = fkey y ↔ tn x = tn y := by
  rw [← fkey_tn x, ← fkey_tn y]
  constructor
  · intro h
    have h1 := tn_lt hx
    have h2 := tn_lt hy
    have h3 := tn_ne x
    have h4 := tn_ne y
    generalize tn x = a at *
    generalize tn y = b at *
    unfold fkey at h
    split at h <;> split at h <;> simp_all <;> omega
  · intro h; rw [h]
def timeB (x : Nat) : Bs := be 8 (tkey x)
@[simp] theorem timeB_length (x : Nat) : (timeB x).length = 8 := by simp [timeB]
theorem unbe_timeB {x : Nat} (h : x < 18446744073709551616) : unbe (timeB x) = tkey x := by
  unfold timeB
  rw [unbe_be, Nat.mod_eq_of_lt (by have := tkey_lt h; omega)]
theorem timeB_tn (x : Nat) : timeB (tn x) = timeB x := by unfold timeB; rw [tk_tn]
def oneB (n : Int) : Bs := [UInt8.ofNat n.toNat]
@[simp] theorem oneB_length (n : Int) : (oneB n).length = 1 := rfl
def keyB (e : Ev) : Bs := timeB e.t ++ oneB (e.src + 1) ++ encI e.n ++ encI e.pay
def evB (e : Ev) : Bs := timeB e.t ++ oneB (e.src + 1) ++ encI e.n ++ oneB e.dst ++ encI e.pay
@[simp] theorem keyB_length (e : Ev) : (keyB e).length = 25 := by simp [keyB]
@[simp] theorem evB_length (e : Ev) : (evB e).length = 26 := by simp [evB]
def Ev.nrm (e : Ev) : Ev := { e with t := tn e.t }
theorem Ev.nrm_right {e : Ev} (h : e.right) : e.nrm.right := by
  unfold Ev.right Ev.nrm at *
  simp only [fnan_tn]
  exact h
theorem Ev.nrm_ok {e : Ev} (h : e.ok) : e.nrm.ok := by
  unfold Ev.ok Ev.nrm at *
  exact ⟨tn_lt h.1, h.2⟩
theorem Ev.nrm_nrm (e : Ev) : e.nrm.nrm = e.nrm := by simp [Ev.nrm, tn_tn]
theorem keyB_nrm (e : Ev) : keyB e.nrm = keyB e := by simp [keyB, Ev.nrm, timeB_tn]
theorem evB_nrm (e : Ev) : evB e.nrm = evB e := by simp [evB, Ev.nrm, timeB_tn]
theorem mid_eq {a b c : Bs} {n m : Nat} (ha : a.length = n) (hb : b.length = m) : ((a ++ b ++ c).drop n).take m = b := by
  subst ha hb
  rw [List.append_assoc, List.drop_left, List.take_left]
def unKey (k : Bs) (dst : Int) : Ev := ⟨unT (unbe (k.take 8)), ((k.getD 8 0).toNat : Int) - 1, (unbe ((k.drop 9).take 8) : Int) - 9223372036854775808, dst, (unbe ((k.drop 17).take 8) : Int) - 9223372036854775808⟩
theorem unKey_keyB {e : Ev} (h : e.right) (ho : e.ok) : unKey (keyB e) e.dst = e.nrm := by
  obtain ⟨h1, h2, h3, h4, h5, h6, h7⟩ := h
  obtain ⟨o1, o2, o3, o4, o5⟩ := ho
  have e1 : (keyB e).take 8 = timeB e.t := by unfold keyB; simp [List.take_append]
  have e2 : (keyB e).getD 8 0 = UInt8.ofNat (e.src + 1).toNat := by unfold keyB; simp [List.getD, List.getElem?_append, oneB]
  have e3 : ((keyB e).drop 9).take 8 = encI e.n := mid_eq (by simp) (by simp)
  have e4 : ((keyB e).drop 17).take 8 = encI e.pay := by
    have := mid_eq (a := timeB e.t ++ oneB (e.src + 1) ++ encI e.n) (b := encI e.pay) (c := []) (n := 17) (m := 8) (by simp) (by simp)
    rwa [List.append_nil] at this
  unfold unKey
  rw [e1, e2, e3, e4, unbe_timeB o1, unT_tk o1, unbe_encI o3.1 o3.2, unbe_encI o5.1 o5.2]
  unfold Ev.nrm
  have : ((UInt8.ofNat (e.src + 1).toNat).toNat : Int) = e.src + 1 := by simp; omega
  rw [this]
  congr 1 <;> omega
theorem keyB_inj {e e' : Ev} (h : e.right) (ho : e.ok) (h' : e'.right) (ho' : e'.ok) (hd : e.dst = e'.dst) (hk : keyB e = keyB e') : e.nrm = e'.nrm := by
  rw [← unKey_keyB h ho, ← unKey_keyB h' ho', hk, hd]
def unEv (k : Bs) : Ev := ⟨unT (unbe (k.take 8)), ((k.getD 8 0).toNat : Int) - 1, (unbe ((k.drop 9).take 8) : Int) - 9223372036854775808, ((k.getD 17 0).toNat : Int), (unbe ((k.drop 18).take 8) : Int) - 9223372036854775808⟩
theorem unEv_evB {e : Ev} (h : e.right) (ho : e.ok) : unEv (evB e) = e.nrm := by
  obtain ⟨h1, h2, h3, h4, h5, h6, h7⟩ := h
  obtain ⟨o1, o2, o3, o4, o5⟩ := ho
  have e1 : (evB e).take 8 = timeB e.t := by unfold evB; simp [List.take_append]
  have e2 : (evB e).getD 8 0 = UInt8.ofNat (e.src + 1).toNat := by unfold evB; simp [List.getD, List.getElem?_append, oneB]
  have e3 : ((evB e).drop 9).take 8 = encI e.n := by
    have := mid_eq (a := timeB e.t ++ oneB (e.src + 1)) (b := encI e.n) (c := oneB e.dst ++ encI e.pay) (n := 9) (m := 8) (by simp) (by simp)
    unfold evB
    rwa [← List.append_assoc] at this
  have e5 : (evB e).getD 17 0 = UInt8.ofNat e.dst.toNat := by unfold evB; simp [List.getD, List.getElem?_append, oneB]
  have e4 : ((evB e).drop 18).take 8 = encI e.pay := by
    have := mid_eq (a := timeB e.t ++ oneB (e.src + 1) ++ encI e.n ++ oneB e.dst) (b := encI e.pay) (c := []) (n := 18) (m := 8) (by simp) (by simp)
    rwa [List.append_nil] at this
  unfold unEv
  rw [e1, e2, e3, e4, e5, unbe_timeB o1, unT_tk o1, unbe_encI o3.1 o3.2, unbe_encI o5.1 o5.2]
  unfold Ev.nrm
  have : ((UInt8.ofNat (e.src + 1).toNat).toNat : Int) = e.src + 1 := by simp; omega
  rw [this]
  have : ((UInt8.ofNat e.dst.toNat).toNat : Int) = e.dst := by simp; omega
  rw [this]
  congr 1 <;> omega
def msgB (e : Ev) (anti : Bool) : Bs := (if anti then [1] else [0]) ++ evB e
@[simp] theorem msgB_length (e : Ev) (a : Bool) : (msgB e a).length = 27 := by cases a <;> simp [msgB]
structure Sta where
  words : List Int
  sent : Int
  dice : Int
def Sta.right (s : Sta) : Prop := s.words.length ≤ 8 ∧ 0 ≤ s.sent ∧ s.sent ≤ 1099511627776 ∧ 0 ≤ s.dice ∧ s.dice ≤ 1099511627776
instance (e : Sta) : Decidable e.right := by unfold Sta.right; infer_instance
def wordsB (l : List Int) : Bs := l.flatMap encI
@[simp] theorem wordsB_length (l : List Int) : (wordsB l).length = 8 * l.length := by
  induction l with
  | nil => rfl
  | cons x t ih => simp [wordsB] at ih ⊢; omega
def staB (s : Sta) : Bs := oneB s.words.length ++ wordsB s.words ++ encI s.sent ++ encI s.dice
@[simp] theorem staB_length (s : Sta) : (staB s).length = 17 + 8 * s.words.length := by simp [staB]; omega
end Go.Proofs.YtnnghcooidjlhaaGreat
end
section
set_option linter.unusedSimpArgs false
namespace Go.Proofs.YtnnghcooidjlhaaGreat
open Go.RowKit
theorem hid {p : Prop} (h : p) : Hid p := h
theorem below_drewN {B : Nat} {a w : World} (h : Below B a w) (n : Nat) : Below B a (w.drewN n) := ⟨h.os, h.tape, h.output, h.size, h.block⟩
theorem stopAt {P : Program} {ops : Array Oper} {Q : Exit → Act → World → Prop} {rest : List Oper} {o : Oper} {a : Act} {w : World} (b : Builtin) {args : Array Operand} {ts : Array TypeId}
    (_ : o.op = .call { callee := .builtin b, args := args, argTypes := ts }) (h : Hid (wpList P ops Q (o :: rest) a w)) : wpList P ops Q (o :: rest) a w := h
theorem stopStore {P : Program} {ops : Array Oper} {Q : Exit → Act → World → Prop} {rest : List Oper} {o : Oper} {a : Act} {w : World} (ty : TypeId) {x y : Operand}
    (_ : o.op = .store ty x y) (h : Hid (wpList P ops Q (o :: rest) a w)) : wpList P ops Q (o :: rest) a w := h
theorem stopLoad {P : Program} {ops : Array Oper} {Q : Exit → Act → World → Prop} {rest : List Oper} {o : Oper} {a : Act} {w : World} (ty : TypeId) {x : Operand}
    (_ : o.op = .load ty x) (h : Hid (wpList P ops Q (o :: rest) a w)) : wpList P ops Q (o :: rest) a w := h
theorem goOn {p : Prop} (h : p) : Hid p := h
structure Kp (O : List Nat) (w w' : World) : Prop where
  os : w'.os = w.os
  tape : w'.tape = w.tape
  output : w'.output = w.output
  size : w.heap.size ≤ w'.heap.size
  block : ∀ b, b < w.heap.size → b ∉ O → w'.heap[b]? = w.heap[b]?
def Gr (O : List Nat) (n : Nat) (O' : List Nat) : Prop := ∀ x ∈ O', x ∈ O ∨ n ≤ x
theorem Gr.refl (O : List Nat) (n : Nat) : Gr O n O := fun _ h => .inl h
theorem Gr.trans {O O1 O2 : List Nat} {n m : Nat} (h : Gr O n O1) (h2 : Gr O1 m O2) (hm : n ≤ m) : Gr O n O2 := fun x hx => by
  rcases h2 x hx with h' | h'
  · exact h x h'
  · exact .inr (by omega)
theorem Gr.mono {O O' : List Nat} {n m : Nat} (h : Gr O n O') (hm : m ≤ n) : Gr O m O' := fun x hx => (h x hx).imp id (by omega)
theorem Gr.out {O O' : List Nat} {n b : Nat} (h : Gr O n O') (hb : b < n) (ho : b ∉ O) : b ∉ O' := fun hx => by
  rcases h b hx with h' | h'
  · exact ho h'
  · omega
namespace Kp
variable {O O' : List Nat} {w w' w'' a : World}
theorem refl (O : List Nat) (w : World) : Kp O w w := ⟨rfl, rfl, rfl, Nat.le_refl _, fun _ _ _ => rfl⟩
theorem trans (h : Kp O w w') (k : Kp O w' w'') : Kp O w w'' :=
  ⟨k.os.trans h.os, k.tape.trans h.tape, k.output.trans h.output, Nat.le_trans h.size k.size, fun b hb ho => (k.block b (Nat.lt_of_lt_of_le hb h.size) ho).trans (h.block b hb ho)⟩
theorem trans_gr (h : Kp O w w') (hg : Gr O w.heap.size O') (k : Kp O' w' w'') : Kp O w w'' :=
  ⟨k.os.trans h.os, k.tape.trans h.tape, k.output.trans h.output, Nat.le_trans h.size k.size, fun b hb ho => (k.block b (Nat.lt_of_lt_of_le hb h.size) (hg.out hb ho)).trans (h.block b hb ho)⟩
theorem mono (h : Kp O w w') (hs : ∀ x ∈ O, x ∈ O' ∨ w.heap.size ≤ x) : Kp O' w w' :=
  ⟨h.os, h.tape, h.output, h.size, fun b hb ho => h.block b hb fun hx => (hs b hx).elim ho (by omega)⟩
theorem of_below (h : Below w.heap.size w w') : Kp O w w' := ⟨h.os, h.tape, h.output, h.size, fun b hb _ => h.block b hb⟩
theorem to_below (h : Kp O w w') {B : Nat} (hB : B ≤ w.heap.size) (ho : ∀ x ∈ O, B ≤ x) : Below B w w' :=
  ⟨h.os, h.tape, h.output, h.size, fun b hb => h.block b (by omega) fun hx => by have := ho b hx; omega⟩
theorem nil_below (h : Kp [] w w') : Below w.heap.size w w' := h.to_below (Nat.le_refl _) (by simp)
theorem drewN (h : Kp O a w) (n : Nat) : Kp O a (w.drewN n) := ⟨h.os, h.tape, h.output, h.size, h.block⟩
theorem drew (h : Kp O a w) : Kp O a w.drew := ⟨h.os, h.tape, h.output, h.size, h.block⟩
theorem alloc (h : Kp O a w) (o : Obj) : Kp O a (w.alloc o) :=
  ⟨h.os, h.tape, h.output, Nat.le_trans h.size (by simp), fun b hb ho => (Below.heap_alloc w o b (Nat.lt_of_lt_of_le hb h.size)).trans (h.block b hb ho)⟩
theorem setCell (h : Kp O a w) {p : Addr} (hp : p.block ∈ O ∨ a.heap.size ≤ p.block) (u : Value) : Kp O a (w.setCell p u) :=
  ⟨h.os, h.tape, h.output, by simpa [World.setCell] using h.size, fun b hb ho => (Below.heap_setCell w p u b (by
    rintro rfl
    rcases hp with hp | hp
    · exact ho hp
    · omega)).trans (h.block b hb ho)⟩
theorem grown (h : Kp O a w) {row : Option Nat} (hg : w.grownBy w' row) (hr : ∀ g, row = some g → g ∈ O ∨ a.heap.size ≤ g) : Kp O a w' :=
  ⟨hg.os.trans h.os, hg.tape.trans h.tape, hg.output.trans h.output, Nat.le_trans h.size hg.size, fun b hb ho => (hg.block b (Nat.lt_of_lt_of_le hb h.size) (fun e => by
    rcases hr b e.symm with h' | h'
    · exact ho h'
    · omega)).trans (h.block b hb ho)⟩
theorem cell (h : Kp O w w') {p : Addr} (hp : p.block < w.heap.size) (ho : p.block ∉ O) : w'.cell? p = w.cell? p := World.cell?_of_block (h.block _ hp ho)
theorem frozen (h : Kp O w w') {p : Addr} (hp : p.block < w.heap.size) (ho : p.block ∉ O) : w'.frozen? p = w.frozen? p := World.frozen?_of_block (h.block _ hp ho)
end Kp
def Blk (w : World) (g : Nat) (t : TypeId) (cs : Array Value) : Prop := w.heap[g]? = some (.cells cs t (0, 0))
section
variable {w w' : World} {g : Nat} {t : TypeId} {cs : Array Value}
theorem Blk.lt (h : Blk w g t cs) : g < w.heap.size := lt_of_block h
theorem Blk.cell (h : Blk w g t cs) (i : Nat) : w.cell? ⟨g, i, none⟩ = cs[i]? := cell_of_row w g i cs t (0, 0) h
theorem Blk.frozen (h : Blk w g t cs) (i : Nat) : w.frozen? ⟨g, i, none⟩ = false := by
  unfold Blk at h
  simp [World.frozen?, h]
theorem Blk.new (w : World) (t : TypeId) (cs : Array Value) : Blk (w.alloc (.cells cs t)) w.heap.size t cs := heap_alloc_new w _
theorem Blk.drew (h : Blk w g t cs) : Blk w.drew g t cs := h
theorem Blk.drewN (h : Blk w g t cs) (n : Nat) : Blk (w.drewN n) g t cs := h
theorem Blk.alloc (h : Blk w g t cs) (o : Obj) : Blk (w.alloc o) g t cs := (Below.heap_alloc w o g h.lt).trans h
theorem Blk.set_ (h : Blk w g t cs) (i : Nat) (u : Value) : Blk (w.setCell ⟨g, i, none⟩ u) g t (cs.setIfInBounds i u) := by
  unfold Blk at h ⊢
  simp [World.setCell, Array.getElem?_modify, h]
theorem Blk.far (h : Blk w g t cs) {p : Addr} (hp : g ≠ p.block) (u : Value) : Blk (w.setCell p u) g t cs := (Below.heap_setCell w p u g hp).trans h
theorem Blk.below {B : Nat} (h : Blk w g t cs) (hb : Below B w w') (hg : g < B) : Blk w' g t cs := (hb.block g hg).trans h
theorem Blk.grown {row : Option Nat} (h : Blk w g t cs) (hb : w.grownBy w' row) (hg : some g ≠ row) : Blk w' g t cs := (hb.block g h.lt hg).trans h
theorem Blk.kp {O : List Nat} (h : Blk w g t cs) (hk : Kp O w w') (ho : g ∉ O) : Blk w' g t cs := (hk.block g h.lt ho).trans h
theorem Blk.ne_ {g' : Nat} {t' : TypeId} {cs' : Array Value} (h : Blk w g t cs) (h' : Blk w g' t' cs') (hne : t ≠ t') : g ≠ g' := by
  rintro rfl
  unfold Blk at h h'
  rw [h] at h'
  injection h' with h'
  injection h' with _ ht
  exact hne ht
end
end Go.Proofs.YtnnghcooidjlhaaGreat
end
section
set_option linter.unusedSimpArgs false
set_option maxRecDepth 100000
namespace Go.Proofs.YtnnghcooidjlhaaGreat
open Go.RowKit
theorem inf5 : (Tryz.prog.info? 5).map (fun i => (i.zero, i.size, i.bytes)) = some (some (.int .u8 0), 1, 1) := by kernel_rfl
def cB (l : Bs) : List Value := l.map fun b => Value.int .u8 (b.toNat : Int)
@[simp] theorem cB_length (l : Bs) : (cB l).length = l.length := by simp [cB]
@[simp] theorem cB_append (a b : Bs) : cB (a ++ b) = cB a ++ cB b := by simp [cB]
theorem news1 (w : World) (v : Value) (t : TypeId) {g : Nat} (hg : g = w.heap.size) : ∀ j u, [v][j]? = some u → (w.alloc (.cells #[v] t)).cell? ((⟨g, 0, none⟩ : Addr).add j) = some u := by
  subst hg; exact cell_one_new w v t
theorem one1 {v : Value} (h : v.oneCell' = true) : ∀ u ∈ [v], u.oneCell' = true := by
  intro u hu
  simp at hu
  rw [hu]; exact h
theorem one_cB (l : Bs) : ∀ u ∈ cB l, u.oneCell' = true := by
  intro u hu
  simp [cB] at hu
  obtain ⟨b, _, rfl⟩ := hu
  rfl
theorem own_eq {w : World} {B : Nat} {T : TypeId} {s n n' : Nat} {v : Value} {xs xs' : List Value} (h : w.ownsRow B T s v n xs) (hn : n = n') (hx : xs = xs') : w.ownsRow B T s v n' xs' := by rw [← hn, ← hx]; exact h
theorem byte_of (n i : Nat) : Value.int .u8 ((n : Int) / 2 ^ (8 * i) % 256) = .int .u8 ((UInt8.ofNat (n / 256 ^ i)).toNat : Int) := by
  have e : (256 : Nat) ^ i = 2 ^ (8 * i) := by rw [Nat.pow_mul]
  rw [e]
  simp
set_option maxHeartbeats 400000 in
theorem put_any (B : Nat) (v : Value) (b : Bs) (n k : Nat) (w : World) (hn : n < 18446744073709551616) (hk : k ≤ 8) (hb : b.length ≤ 1000000) (hB : B ≤ w.heap.size)
    (hown : w.ownsRow B 5 1 v b.length (cB b)) :
    Calls Tryz.prog 156 #[v, .int .u64 n, .int .i64 k] w fun e w' => ∃ v', e = .returned v' ∧ w'.ownsRow B 5 1 v' (b ++ be k n).length (cB (b ++ be k n)) ∧ Kp (v.ownBlock.toList) w w' ∧ ∀ g, v'.ownBlock = some g → v.ownBlock = some g ∨ w.heap.size ≤ g := by
  obtain ⟨i0, hi, hz0, hz1, hz2⟩ := info_parts inf5
  have HN := hid hn
  clear hn
  go_enter Tryz.func156, Tryz.ntmps156
  go_wp2
  go_loopw [0, 7] (fun u i wr => ∃ j : Nat, j ≤ k ∧ i = .int .i64 ((k : Int) - 1 - j) ∧ wr.ownsRow B 5 1 u (b ++ (be k n).take j).length (cB (b ++ (be k n).take j)) ∧ Kp (v.ownBlock.toList) w wr ∧ ∀ g, u.ownBlock = some g → v.ownBlock = some g ∨ w.heap.size ≤ g) (fun _ i _ => (intOf i + 1).toNat)
  case atStart => exact ⟨0, Nat.zero_le _, by simp, by simpa using hown, Kp.refl _ _, fun g hg => .inl hg⟩
  case round =>
    obtain ⟨j, hj, rfl, hown1, hb1, hg1⟩ := hrel
    have HG := hid hg1
    clear hg1
    have hs := hb1.size
    have hl : ((be k n).take j).length = j := by simp; omega
    by_cases hlt : j < k
    · have hbyte := hid (byte_of n (k - 1 - j))
      go_wp2_with (at_builtin; refine wpList_append_own_at _ rfl _ _ 129 rfl B 5 i0 (.int .u8 0) 1 1 Tryz.underlying129 hi hz0 hz1 hz2 rfl (by decide) _ _ _ rfl (hown1.alloc _) ⟨wr.heap.size, 0, none⟩ 1 1 [.int .u8 ((n : Int) / 2 ^ (8 * (k - 1 - j)) % 256)] rfl rfl ?c1 ?c2 ?c3 ?c4 ?c5 ?_)
      case c1 => exact news1 _ _ _ rfl
      case c2 => exact one1 rfl
      case c3 => simp [hl]; unfold maxLen; omega
      case c4 => simp [hl]; omega
      case c5 => simp; omega
      intro v' w1 hown' hgr _ hat
      go_wp2
      go_roundw
      case rel =>
        refine ⟨j + 1, by omega, by go_num, ?_, ?_, ?_⟩
        · rw [hbyte.out] at hown'
          rw [be_take_succ k n j hlt, ← List.append_assoc]
          exact own_eq hown' (by simp; omega) (by simp [cB])
        · exact (hb1.alloc _).grown hgr (fun g hg => by simpa using HG.out g hg)
        · intro g hg
          rcases hat with h | h
          · exact HG.out g (h ▸ hg)
          · rw [h] at hg; simp at hg; right; omega
      case measure => simp [intOf]; omega
    · have hke : j = k := by omega
      subst hke
      have ht : (be j n).take j = be j n := List.take_of_length_le (by simp)
      rw [ht] at hown1
      go_wp2
      go_ret
      exact ⟨_, rfl, hown1, hb1, HG.out⟩
end Go.Proofs.YtnnghcooidjlhaaGreat
end
section
set_option linter.unusedSimpArgs false
set_option maxRecDepth 100000
namespace Go.Proofs.YtnnghcooidjlhaaGreat
open Go.RowKit
theorem own_string {w : World} {B : Nat} {v : Value} {b : Bs} (h : w.ownsRow B 5 1 v b.length (cB b)) :
    (convert 129 9 v).run Tryz.prog w = .ok (.string (S b)) w := by
  rcases h.2 with ⟨rfl, h0⟩ | ⟨g, cap, cur, rfl, hg, hh, hn, _, hs, ht⟩
  · have : b = [] := List.length_eq_zero_iff.1 h0
    subst this
    exact run_convert_bytes_nil w 129 5 Tryz.underlying129 Tryz.underlying5 0 0 9 Tryz.underlying9
  · refine run_convert_bytes_back w 129 9 5 ⟨g, 0, none⟩ cap b Tryz.underlying129 Tryz.underlying5 Tryz.underlying9 fun j hj => ?_
    refine h.cells (g := g) rfl j _ ?_
    simp [cB, hj]
theorem put_nil (n k : Nat) (w : World) (hn : n < 18446744073709551616) (hk : k ≤ 8) :
    Calls Tryz.prog 156 #[.slice none 0 0, .int .u64 n, .int .i64 k] w fun e w' => ∃ v', e = .returned v' ∧ (convert 129 9 v').run Tryz.prog w' = .ok (.string (S (be k n))) w' ∧ Below w.heap.size w w' :=
  (put_any w.heap.size (.slice none 0 0) [] n k w hn hk (by simp) (Nat.le_refl _) (World.ownsRow_nil _ _ _ _)).mono fun e w' ⟨v', h1, h2, h3, _⟩ =>
    ⟨v', h1, by have := own_string h2; simpa using this, h3.nil_below⟩
theorem wrap_u64_i (x : Int) : IntKind.u64.wrap (IntKind.u64.wrap x + 9223372036854775808) = (((x + 9223372036854775808) % 18446744073709551616).toNat : Int) := by
  rw [IntKind.wrap_u64, IntKind.wrap_u64]; omega
theorem packU_any (n : Nat) (w : World) (hn : n < 18446744073709551616) :
    Calls Tryz.prog 220 #[.int .u64 n] w fun e w' => e = .returned (.string (S (be 8 n))) ∧ Below w.heap.size w w' := by
  have HN := hid hn
  clear hn
  go_enter Tryz.func220, Tryz.ntmps220
  go_wp2_with (go_at_call 156; refine (put_nil n 8 _ HN.out (by omega)).mono ?_; rintro e w1 ⟨v', rfl, hv, hb⟩)
  go_ret
  exact ⟨rfl, by assumption⟩
theorem packI_any (x : Int) (w : World) (h0 : -9223372036854775808 ≤ x) (h1 : x < 9223372036854775808) :
    Calls Tryz.prog 109 #[.int .i64 x] w fun e w' => e = .returned (.string (S (encI x))) ∧ Below w.heap.size w w' := by
  obtain ⟨n, hn⟩ : ∃ n : Nat, n = (x + 9223372036854775808).toNat := ⟨_, rfl⟩
  have hx : IntKind.u64.wrap (IntKind.u64.wrap x + 9223372036854775808) = (n : Int) := by rw [wrap_u64_i]; omega
  have HN : Hid (n < 18446744073709551616) := hid (by omega)
  have HE : Hid (encI x = be 8 n) := hid (by rw [hn]; rfl)
  clear hn h0 h1
  go_enter Tryz.func109, Tryz.ntmps109
  go_wp2_with (go_at_call 156; refine (put_nil n 8 _ HN.out (by omega)).mono ?_; rintro e w1 ⟨v', rfl, hv, hb⟩)
  go_ret
  exact ⟨by rw [HE.out]; rfl, by assumption⟩
theorem unbe_take (s : Bs) (k : Nat) (h : k < s.length) : unbe (s.take (k + 1)) = unbe (s.take k) * 256 + (s.getD k 0).toNat := by
  have e : s.getD k 0 = s[k] := by simp [List.getD, h]
  rw [List.take_succ_eq_append_getElem h, e, unbe_snoc]
theorem or_byte (m c : Nat) (hm : m < 72057594037927936) (hc : c < 256) : bits .or .u64 (IntKind.u64.wrap ((m : Int) * 256)) (c : Int) = ((m * 256 + c : Nat) : Int) := by
  have h1 : IntKind.u64.wrap ((m : Int) * 256) = ((m * 256 : Nat) : Int) := by rw [IntKind.wrap_u64]; omega
  rw [h1, u64_or_nat _ _ (by omega) (by omega), nat_join 8 _ _ (by omega) (by omega)]
theorem get_any (s : Bs) (w : World) (hs : s.length ≤ 8) :
    Calls Tryz.prog 224 #[.string (S s)] w fun e w' => e = .returned (.int .u64 (unbe s)) ∧ w = w' := by
  go_enter Tryz.func224, Tryz.ntmps224
  go_wp2
  go_loop [3, 7] (fun n i => ∃ k : Nat, k ≤ s.length ∧ i = .int .i64 k ∧ n = .int .u64 (unbe (s.take k))) (fun _ i => s.length - (intOf i).toNat)
  case atStart => exact ⟨0, Nat.zero_le _, rfl, rfl⟩
  case round =>
    obtain ⟨k, hk, rfl, rfl⟩ := hrel
    by_cases hlt : k < s.length
    · have hu := hid (unbe_take s k hlt)
      have hm := unbe_lt (s.take k)
      have hp : 256 ^ (s.take k).length ≤ 256 ^ 7 := Nat.pow_le_pow_right (by omega) (by simp; omega)
      have hm2 := hid (Nat.lt_of_lt_of_le hm hp)
      clear hm hp
      go_wp2
      go_round
      case rel =>
        refine ⟨k + 1, by omega, by go_num, ?_⟩
        have e : s.getD k 0 = s[k] := by simp [List.getD, hlt]
        rw [hu.out, e]
        have hc := s[k].toNat_lt
        have h1 : IntKind.u64.wrap (s[k].toNat : Int) = (s[k].toNat : Int) := by rw [IntKind.wrap_u64]; omega
        rw [h1, or_byte _ _ hm2.out (by omega)]
      case measure => simp [intOf]; omega
    · have hke : k = s.length := by omega
      go_wp2
      go_ret
      subst hke
      exact ⟨by simp, rfl⟩
def leftE (len : Nat) (at_ n : Int) : Int := if at_ < 0 ∨ len < at_ then 3 else if len - at_ < n then 5 else 0
theorem left_any (s : Bs) (i n : Int) (w : World) (hl : s.length ≤ 1000000) :
    Calls Tryz.prog 223 #[.string (S s), .int .i64 i, .int .i64 n] w fun e w' => e = .returned (.int .i64 (leftE s.length i n)) ∧ w = w' := by
  by_cases h1 : i < 0
  · go_enter Tryz.func223, Tryz.ntmps223
    go_wp2
    go_ret
    exact ⟨by simp [leftE, h1], rfl⟩
  by_cases h2 : (s.length : Int) < i
  · go_enter Tryz.func223, Tryz.ntmps223
    go_wp2
    go_ret
    exact ⟨by simp [leftE, h2], rfl⟩
  by_cases h3 : (s.length : Int) - i < n
  · go_enter Tryz.func223, Tryz.ntmps223
    go_wp2
    go_ret
    exact ⟨by simp [leftE, h1, h2, h3], rfl⟩
  · go_enter Tryz.func223, Tryz.ntmps223
    go_wp2
    go_ret
    have he : leftE s.length i n = 0 := by unfold leftE; rw [if_neg (by omega), if_neg (by omega)]
    exact ⟨by rw [he]; rfl, rfl⟩
theorem readU_any (s : Bs) (i : Nat) (w : World) (hl : s.length ≤ 1000000) (hi : i + 8 ≤ s.length) :
    Calls Tryz.prog 190 #[.string (S s), .int .i64 i] w fun e w' => e = .returned (.tuple #[.int .u64 (unbe ((s.drop i).take 8)), .int .i64 ((i + 8 : Nat) : Int), .int .i64 0]) ∧ w = w' := by
  have he : leftE s.length i 8 = 0 := by unfold leftE; split; omega; split; omega; rfl
  have e8 : i + 8 - i = 8 := by omega
  go_enter Tryz.func190, Tryz.ntmps190
  go_wp2_with (first
    | (go_at_call 223; refine (left_any s i 8 _ hl).mono ?_; rintro e w' ⟨rfl, rfl⟩)
    | (go_at_call 224; refine (get_any _ _ ?hq).mono ?_; rotate_left; rintro e w' ⟨rfl, rfl⟩))
  case hq => simp; omega
  go_ret3
  exact ⟨by simp, rfl⟩
theorem readU_no (s : Bs) (i : Int) (w : World) (hl : s.length ≤ 1000000) (hi : leftE s.length i 8 ≠ 0) :
    Calls Tryz.prog 190 #[.string (S s), .int .i64 i] w fun e w' => e = .returned (.tuple #[.int .u64 0, .int .i64 0, .int .i64 (leftE s.length i 8)]) ∧ w = w' := by
  have hne : ((leftE s.length i 8 == 0) = false) := by simpa using hi
  go_enter Tryz.func190, Tryz.ntmps190
  go_wp2_with (go_at_call 223; refine (left_any s i 8 _ hl).mono ?_; rintro e w' ⟨rfl, rfl⟩)
  go_ret3
  exact ⟨by simp, rfl⟩
def decI (b : Bs) : Int := (unbe b : Int) - 9223372036854775808
theorem decI_encI {x : Int} (h0 : -9223372036854775808 ≤ x) (h1 : x < 9223372036854775808) : decI (encI x) = x := by
  have := unbe_encI h0 h1; unfold decI; omega
theorem decI_range (b : Bs) (h : b.length = 8) : -9223372036854775808 ≤ decI b ∧ decI b < 9223372036854775808 := by
  have := unbe_lt b; rw [h] at this; unfold decI; omega
theorem wrap_dec (b : Bs) (h : b.length = 8) : wrap64 (IntKind.u64.wrap ((unbe b : Int) + 9223372036854775808)) = decI b := by
  have := unbe_lt b; rw [h] at this; unfold decI wrap64; rw [IntKind.wrap_u64]; omega
theorem readI_any (s : Bs) (i : Nat) (w : World) (hl : s.length ≤ 1000000) (hi : i + 8 ≤ s.length) :
    Calls Tryz.prog 155 #[.string (S s), .int .i64 i] w fun e w' => e = .returned (.tuple #[.int .i64 (decI ((s.drop i).take 8)), .int .i64 ((i + 8 : Nat) : Int), .int .i64 0]) ∧ w = w' := by
  have hd := hid (wrap_dec ((s.drop i).take 8) (by simp; omega))
  go_enter Tryz.func155, Tryz.ntmps155
  go_wp2_with (go_at_call 190; refine (readU_any s i _ hl hi).mono ?_; rintro e w' ⟨rfl, rfl⟩)
  go_ret3
  exact ⟨by rw [← hd.out]; simp, rfl⟩
theorem readI_no (s : Bs) (i : Int) (w : World) (hl : s.length ≤ 1000000) (hi : leftE s.length i 8 ≠ 0) :
    Calls Tryz.prog 155 #[.string (S s), .int .i64 i] w fun e w' => e = .returned (.tuple #[.int .i64 0, .int .i64 0, .int .i64 (leftE s.length i 8)]) ∧ w = w' := by
  have hne : ((leftE s.length i 8 == 0) = false) := by simpa using hi
  go_enter Tryz.func155, Tryz.ntmps155
  go_wp2_with (go_at_call 190; refine (readU_no s i _ hl hi).mono ?_; rintro e w' ⟨rfl, rfl⟩)
  go_ret3
  exact ⟨by simp, rfl⟩
end Go.Proofs.YtnnghcooidjlhaaGreat
end
section
set_option linter.unusedSimpArgs false
namespace Go.Proofs.YtnnghcooidjlhaaGreat
def tbl : List Nat := [0x00000000, 0x105ec76f, 0x20bd8ede, 0x30e349b1, 0x417b1dbc, 0x5125dad3, 0x61c69362, 0x7198540d, 0x82f63b78, 0x92a8fc17, 0xa24bb5a6, 0xb21572c9, 0xc38d26c4, 0xd3d3e1ab, 0xe330a81a, 0xf36e6f75]
theorem tbl_lt (i : Nat) : tbl.getD i 0 < 2 ^ 32 := by
  rcases Nat.lt_or_ge i 16 with h | h
  · have : ∀ i : Fin 16, tbl.getD i 0 < 2 ^ 32 := by decide
    exact this ⟨i, h⟩
  · have : tbl.getD i 0 = 0 := by
      have h2 : tbl[i]? = none := List.getElem?_eq_none (by simpa [tbl] using h)
      simp [List.getD, h2]
    rw [this]; decide
def tk1 (r : Nat) : Nat := (r / 16) ^^^ tbl.getD (r % 16) 0
def tk (r : Nat) (c : UInt8) : Nat := tk1 (tk1 (r ^^^ c.toNat))
theorem tk1_lt {r : Nat} (h : r < 2 ^ 32) : tk1 r < 2 ^ 32 := Nat.xor_lt_two_pow (by omega) (tbl_lt _)
theorem tk_lt {r : Nat} (c : UInt8) (h : r < 2 ^ 32) : tk r c < 2 ^ 32 :=
  tk1_lt (tk1_lt (Nat.xor_lt_two_pow h (Nat.lt_of_lt_of_le c.toNat_lt (by decide))))
def crcGo (r : Nat) (s : Bs) : Nat := s.foldl tk r
theorem crcGo_lt (s : Bs) : ∀ r, r < 2 ^ 32 → crcGo r s < 2 ^ 32 := by
  induction s with
  | nil => intro r h; exact h
  | cons c s ih => intro r h; exact ih _ (tk_lt c h)
theorem crcGo_take (s : Bs) (r j : Nat) (h : j < s.length) : crcGo r (s.take (j + 1)) = tk (crcGo r (s.take j)) (s.getD j 0) := by
  have e : s.getD j 0 = s[j] := by simp [List.getD, h]
  rw [e]
  unfold crcGo
  rw [List.take_succ_eq_append_getElem h, List.foldl_append]
  rfl
def crc (s : Bs) : Nat := 4294967295 - crcGo 4294967295 s
theorem crc_lt (s : Bs) : crc s < 4294967296 := by unfold crc; omega
def four (n : Nat) : Bs := [UInt8.ofNat n, UInt8.ofNat (n / 256), UInt8.ofNat (n / 65536), UInt8.ofNat (n / 16777216)]
@[simp] theorem four_length (n : Nat) : (four n).length = 4 := rfl
def crcLay (s : Bs) : Bs := four (crc s) ++ s
@[simp] theorem crcLay_length (s : Bs) : (crcLay s).length = 4 + s.length := by simp [crcLay]
@[simp] theorem crcLay_take (s : Bs) : (crcLay s).take 4 = four (crc s) := by simp [crcLay, four]
@[simp] theorem crcLay_drop (s : Bs) : (crcLay s).drop 4 = s := by simp [crcLay, four]
def pad (p : Bs) : Bs := p ++ List.replicate (232 - p.length) 0
theorem pad_length {p : Bs} (h : p.length ≤ 232) : (pad p).length = 232 := by simp [pad]; omega
theorem pad_of {p : Bs} (h : p.length = 232) : pad p = p := by simp [pad, h]
theorem pad_pad (p : Bs) (h : p.length ≤ 232) : pad (pad p) = pad p := pad_of (pad_length h)
def pageI (id ep : Int) (kd : Nat) (pl : Bs) : Bs := encI id ++ encI ep ++ be 4 kd ++ pad pl
theorem pageI_length (id ep : Int) (kd : Nat) {pl : Bs} (h : pl.length ≤ 232) : (pageI id ep kd pl).length = 252 := by simp [pageI, pad_length h]
def pageB (id ep : Int) (kd : Nat) (pl : Bs) : Bs := crcLay (pageI id ep kd pl)
theorem pageB_length (id ep : Int) (kd : Nat) {pl : Bs} (h : pl.length ≤ 232) : (pageB id ep kd pl).length = 256 := by simp [pageB, pageI_length id ep kd h]
end Go.Proofs.YtnnghcooidjlhaaGreat
end
