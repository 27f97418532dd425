/- Parts of the proof: Ba Bb Fl Mc Ea Bd Pa Bc Cr Cs Lw Pg Da Fm Sa Sc Rw Po Tf Na Nb Nc Ne Ga Ka Kb Ja Jb Gq Gd Hc Hd He Hg Id. -/
import Derived.Laws.IdiomStrings
import Derived.Laws.Strings
import Derived.Laws.Strings2
import Derived.Laws.Strings3
import Derived.Laws.Concat
import Derived.RowKit
import GoSem.Core.Float
import Derived.WalkKit
import Derived.Deep.Draws
import Derived.Test.YtfkoaooceickiaaGreatProg
import Derived.WalkSpells
import Derived.WalkLawsBesides
import Derived.Maps.AppendAt
import Derived.Laws.BytesArg
import Derived.Laws.CopyOwn
import Derived.Deep.OwnRows
import Derived.Deep.MidRow
import Derived.Deep.QuietTactic
import Derived.BigQuiet
import Derived.Lib.AppendStr
import Derived.Deep.LoopGhost
import Derived.Deep.RegionHeld3
import Derived.Handy
import Derived.Laws.Cells
import Derived.Lib.SliceRun
import Derived.Deep.AppendLies
import Derived.Lib.Hide
import Derived.Shelf.Abstract
import Derived.Laws.IdiomCopy
import Derived.Laws.AppendOwn
import Derived.Lib.ConvBytes
import Derived.Lib.SmallJoins
import Derived.ArgAppend
import Derived.Laws.AppendOwnNone
import Derived.Deep.Quiet
import Derived.Tactics2
import Derived.KernelRfl
import Derived.Laws.Cover1
import Derived.StillTailTactics
import Derived.Lib.Bytealg
import Derived.Deep.RegionLaw
import Derived.Lib.AppendZerosOnto
import Derived.Lib.AppendZeros
import Derived.Lib.Overlaps
import Derived.Laws.Externs
import Derived.Laws.NewBlocks
import Derived.WalkMore
set_option linter.all false
set_option maxRecDepth 100000
namespace Go.Proofs.YtfkoaooceickiaaGreat
section
abbrev Bs := List UInt8
def S (l : Bs) : ByteArray := ⟨l.toArray⟩
@[go_sem] theorem S_size (l : Bs) : (S l).size = l.length := by simp [S, ByteArray.size]
@[go_sem] theorem S_append (a b : Bs) : S a ++ S b = S (a ++ b) := Go.ByteArray.mk_append_mk ..
@[go_sem] theorem S_extract (l : Bs) (i j : Nat) : (S l).extract i j = S ((l.drop i).take (j - i)) := Go.ByteArray.extract_mk ..
@[go_sem] theorem S_toList (l : Bs) : (S l).toList = l := Go.ByteArray.toList_mk l
section
variable {P : Program} (w : World)
@[go_sem high] theorem run_index_S (t : TypeId) (l : Bs) (k : IntKind) (i : Int) (h : P.underlying t = some .string) (h0 : 0 ≤ i) (h1 : i < l.length) :
  (Instr.index t (.string (S l)) (.int k i)).run P w = .ok (.int .u8 ((l.getD i.toNat 0).toNat : Int)) w := by
 rw [run_index_string w t (S l) k i h, dif_pos ⟨h0, by rw [S_size]; exact h1⟩]
 have h2 : i.toNat < l.length := by omega
 have e : (S l)[i.toNat]'(by rw [S_size]; exact h2) = l[i.toNat] := by
  show l.toArray[i.toNat] = _
  simp
 rw [e]
 simp [List.getD, h2]
end
def two (n : Nat) : Bs := [UInt8.ofNat (n / 256), UInt8.ofNat n]
@[simp] theorem two_length (n : Nat) : (two n).length = 2 := rfl
def rlen (rs : List Bs) : Nat := (rs.map List.length).sum
@[simp] theorem rlen_nil : rlen [] = 0 := rfl
@[simp] theorem rlen_cons (r : Bs) (rs : List Bs) : rlen (r :: rs) = r.length + rlen rs := by simp [rlen]
@[simp] theorem rlen_append (a b : List Bs) : rlen (a ++ b) = rlen a + rlen b := by simp [rlen]
def slotsOf : Nat → List Bs → List (Nat × Nat)
 | _, [] => []
 | top, r :: rs => (top - r.length, r.length) :: slotsOf (top - r.length) rs
@[simp] theorem slotsOf_length (rs : List Bs) : ∀ top, (slotsOf top rs).length = rs.length := by
 induction rs with
 | nil => intro; rfl
 | cons r rs ih => intro top; simp [slotsOf, ih]
def flatS (l : List (Nat × Nat)) : Bs := l.flatMap fun x => two x.1 ++ two x.2
@[simp] theorem flatS_nil : flatS [] = [] := rfl
@[simp] theorem flatS_cons (x : Nat × Nat) (l : List (Nat × Nat)) : flatS (x :: l) = two x.1 ++ two x.2 ++ flatS l := rfl
@[simp] theorem flatS_length (l : List (Nat × Nat)) : (flatS l).length = 4 * l.length := by
 induction l with
 | nil => rfl
 | cons x l ih => simp [ih]; omega
def heapB : List Bs → Bs
 | [] => []
 | r :: rs => heapB rs ++ r
@[simp] theorem heapB_length (rs : List Bs) : (heapB rs).length = rlen rs := by
 induction rs with
 | nil => rfl
 | cons r rs ih => simp [heapB, ih]; omega
def used (rs : List Bs) : Nat := 4 + 4 * rs.length + rlen rs
def lay (rs : List Bs) : Bs := two rs.length ++ two (232 - rlen rs) ++ flatS (slotsOf 232 rs) ++ List.replicate (232 - used rs) 0 ++ heapB rs
end
section
def be : Nat → Nat → Bs
 | 0, _ => []
 | k + 1, n => UInt8.ofNat (n / 256 ^ k) :: be k n
@[simp] theorem be_length (k n : Nat) : (be k n).length = k := by
 induction k with
 | zero => rfl
 | succ k ih => simp [be, ih]
def encI (x : Int) : Bs := be 8 (x + 9223372036854775808).toNat
@[simp] theorem encI_length (x : Int) : (encI x).length = 8 := by simp [encI]
end
section
open Ieee
def ford (x y : Nat) : Option Ordering := FloatKind.f64.format.order x y
def fnan (x : Nat) : Bool := ford x x != some .eq
def IR : Nat := 9218868437227405312
theorem f64_sw : Ieee.double.signWeight = 9223372036854775808 := by decide
theorem f64_bi : Ieee.double.binade = 4503599627370496 := by decide
theorem f64_ir : Ieee.double.infRung = 9218868437227405312 := by decide
theorem f64_lp : Ieee.double.leastPlace = -1074 := by decide
def rval (r : Nat) : Nat := if r < 4503599627370496 then r else (4503599627370496 + r % 4503599627370496) * 2 ^ (r / 4503599627370496 - 1)
theorem rval_succ (r : Nat) : rval r < rval (r + 1) := by
 unfold rval
 generalize hB : 4503599627370496 = B
 have hB0 : 0 < B := by omega
 by_cases h1 : r + 1 < B
 ·rw [if_pos (by omega), if_pos h1]; omega
 ·rw [if_neg h1]
  by_cases h2 : r < B
  ·have h3 : r + 1 = B := by omega
   rw [if_pos h2, h3]
   simp [Nat.div_self hB0]
   omega
  ·rw [if_neg h2]
   have hd := Nat.div_add_mod r B
   have hd' := Nat.div_add_mod (r + 1) B
   have hm := Nat.mod_lt r hB0
   have hm' := Nat.mod_lt (r + 1) hB0
   by_cases h4 : r % B + 1 < B
   ·have e1 : (r + 1) / B = r / B := by
     have : r + 1 = B * (r / B) + (r % B + 1) := by omega
     rw [this, Nat.mul_add_div hB0, Nat.div_eq_of_lt h4]; simp
    have e2 : (r + 1) % B = r % B + 1 := by
     have : r + 1 = B * (r / B) + (r % B + 1) := by omega
     rw [this, Nat.mul_add_mod, Nat.mod_eq_of_lt h4]
    rw [e1, e2]
    have hp : 0 < 2 ^ (r / B - 1) := Nat.two_pow_pos _
    exact Nat.mul_lt_mul_of_pos_right (by omega) hp
   ·have h5 : r % B + 1 = B := by omega
    have h6 : r + 1 = B * (r / B + 1) := by rw [Nat.mul_add]; omega
    have e1 : (r + 1) / B = r / B + 1 := by rw [h6, Nat.mul_div_cancel_left _ hB0]
    have e2 : (r + 1) % B = 0 := by rw [h6, Nat.mul_mod_right]
    rw [e1, e2]
    have hq : 1 ≤ r / B := (Nat.le_div_iff_mul_le hB0).2 (by omega)
    have e3 : r / B + 1 - 1 = (r / B - 1) + 1 := by omega
    rw [e3, Nat.pow_succ]
    have hp : 0 < 2 ^ (r / B - 1) := Nat.two_pow_pos _
    generalize 2 ^ (r / B - 1) = p at hp
    have : (B + r % B) * p < (B + B) * p := Nat.mul_lt_mul_of_pos_right (by omega) hp
    have e4 : (B + 0) * (p * 2) = (B + B) * p := by rw [Nat.add_zero, Nat.mul_comm p 2, ← Nat.mul_assoc, Nat.mul_two]
    omega
theorem rval_lt {r s : Nat} (h : r < s) : rval r < rval s := by
 induction s with
 | zero => omega
 | succ s ih =>
  rcases Nat.lt_or_ge r s with h1 | h1
  ·exact Nat.lt_trans (ih h1) (rval_succ s)
  ·have : r = s := by omega
   subst this; exact rval_succ r
theorem rval_zero : rval 0 = 0 := by simp [rval]
def fkey (x : Nat) : Int := if x / 9223372036854775808 % 2 == 1 then -((x % 9223372036854775808 : Nat) : Int) else ((x % 9223372036854775808 : Nat) : Int)
def frung (x : Nat) : Nat := x % 9223372036854775808
theorem read_num {x : Nat} (h : frung x < 9218868437227405312) :
  ∃ m i, Ieee.double.read x = .number (x / 9223372036854775808 % 2 == 1) m i ∧ -1074 ≤ i ∧ m * 2 ^ (i + 1074).toNat = rval (frung x) := by
 unfold frung at *
 simp only [Format.read, f64_sw, f64_bi, f64_ir, f64_lp]
 generalize x % 9223372036854775808 = r at *
 by_cases h1 : r < 4503599627370496
 ·refine ⟨r, -1074, by rw [if_pos h1], by omega, ?_⟩
  unfold rval; rw [if_pos h1]; simp
 ·refine ⟨4503599627370496 + r % 4503599627370496, -1074 + (r / 4503599627370496 - 1 : Nat), by rw [if_neg h1, if_pos h], by omega, ?_⟩
  unfold rval; rw [if_neg h1]
  congr 2
  omega
theorem read_inf {x : Nat} (h : frung x = 9218868437227405312) : Ieee.double.read x = .infinity (x / 9223372036854775808 % 2 == 1) := by
 unfold frung at *
 simp only [Format.read, f64_sw, f64_bi, f64_ir, f64_lp]
 rw [h]; simp
theorem read_nan {x : Nat} (h : 9218868437227405312 < frung x) : ∃ t, Ieee.double.read x = .nan (x / 9223372036854775808 % 2 == 1) t := by
 unfold frung at *
 simp only [Format.read, f64_sw, f64_bi, f64_ir, f64_lp]
 generalize x % 9223372036854775808 = r at *
 exact ⟨_, by rw [if_neg (by omega), if_neg (by omega), if_neg (by omega)]⟩
theorem signed_scale (s : Bool) (m k : Nat) : signed s m k = if s then -((m * 2 ^ k : Nat) : Int) else ((m * 2 ^ k : Nat) : Int) := by
 simp [signed, Nat.shiftLeft_eq]
def sg (s : Bool) (n : Nat) : Int := if s then -(n : Int) else n
theorem cmp_scale (a b : Int) (k : Nat) : compare (a * 2 ^ k) (b * 2 ^ k) = compare a b := by
 have hp : (0 : Int) < 2 ^ k := Int.pow_pos (by decide)
 simp only [compare, compareOfLessAndEq]
 have h1 : a * 2 ^ k < b * 2 ^ k ↔ a < b := Int.mul_lt_mul_right hp
 have h2 : a * 2 ^ k = b * 2 ^ k ↔ a = b := ⟨fun h => Int.eq_of_mul_eq_mul_right (by omega) h, fun h => by rw [h]⟩
 simp only [h1, h2]
theorem sg_mul (s : Bool) (m k : Nat) : sg s (m * 2 ^ k) = sg s m * 2 ^ k := by
 cases s <;> simp [sg, Int.neg_mul]
theorem cmp_sg {s t : Bool} {r q : Nat} : compare (sg s (rval r)) (sg t (rval q)) = compare (sg s r) (sg t q) := by
 have key : ∀ a b : Nat, (rval a < rval b ↔ a < b) := fun a b => ⟨fun h => by
  rcases Nat.lt_or_ge a b with h1 | h1
  ·exact h1
  ·rcases Nat.lt_or_ge b a with h2 | h2
   ·have := rval_lt h2; omega
   ·have : a = b := by omega
    subst this; omega, rval_lt⟩
 have keq : ∀ a b : Nat, (rval a = rval b ↔ a = b) := fun a b => ⟨fun h => by
  rcases Nat.lt_trichotomy a b with h1 | h1 | h1
  ·have := rval_lt h1; omega
  ·exact h1
  ·have := rval_lt h1; omega, fun h => by rw [h]⟩
 have h0 := rval_zero
 have k1 := key r q
 have k2 := key q r
 have k3 := key 0 r
 have k4 := key 0 q
 have e1 := keq r q
 rw [h0] at k3 k4
 simp only [compare, compareOfLessAndEq]
 have l : (sg s (rval r) < sg t (rval q)) ↔ (sg s r < sg t q) := by
  cases s <;> cases t <;> simp [sg] <;> omega
 have e : (sg s (rval r) = sg t (rval q)) ↔ (sg s r = sg t q) := by
  cases s <;> cases t <;> simp [sg] <;> omega
 simp only [l, e]
theorem cmp_lt {a b : Int} (h : a < b) : compare a b = .lt := by simp [compare, compareOfLessAndEq, h]
theorem cmp_gt {a b : Int} (h : b < a) : compare a b = .gt := by
 have h1 : ¬ a < b := by omega
 have h2 : ¬ a = b := by omega
 simp [compare, compareOfLessAndEq, h1, h2]
theorem cmp_eq {a b : Int} (h : a = b) : compare a b = .eq := by subst h; simp [compare, compareOfLessAndEq]
theorem order_num (s t : Bool) (m n : Nat) (i j : Int) (hi : -1074 ≤ i) (hj : -1074 ≤ j) :
  Datum.order (.number s m i) (.number t n j) = some (compare (sg s (m * 2 ^ (i + 1074).toNat)) (sg t (n * 2 ^ (j + 1074).toNat))) := by
 simp only [Datum.order, signed_scale]
 have hb : -1074 ≤ min i j := by omega
 have e1 : (i + 1074).toNat = (i - min i j).toNat + (min i j + 1074).toNat := by omega
 have e2 : (j + 1074).toNat = (j - min i j).toNat + (min i j + 1074).toNat := by omega
 rw [e1, e2, Nat.pow_add, Nat.pow_add, ← Nat.mul_assoc, ← Nat.mul_assoc, sg_mul s (m * 2 ^ _), sg_mul t (n * 2 ^ _), cmp_scale]
 rfl
theorem order_key {x y : Nat} (hx : frung x ≤ 9218868437227405312) (hy : frung y ≤ 9218868437227405312) : ford x y = some (compare (fkey x) (fkey y)) := by
 unfold ford FloatKind.format Format.order
 have kx : fkey x = sg (x / 9223372036854775808 % 2 == 1) (frung x) := rfl
 have ky : fkey y = sg (y / 9223372036854775808 % 2 == 1) (frung y) := rfl
 rw [kx, ky]
 rcases Nat.lt_or_ge (frung x) 9218868437227405312 with h1 | h1 <;> rcases Nat.lt_or_ge (frung y) 9218868437227405312 with h2 | h2
 ·obtain ⟨m, i, e1, hi, v1⟩ := read_num h1
  obtain ⟨n, j, e2, hj, v2⟩ := read_num h2
  rw [e1, e2, order_num _ _ _ _ _ _ hi hj, v1, v2, cmp_sg]
 ·obtain ⟨m, i, e1, hi, v1⟩ := read_num h1
  have h3 : frung y = 9218868437227405312 := by omega
  rw [e1, read_inf h3, h3]
  generalize (x / 9223372036854775808 % 2 == 1) = s
  generalize (y / 9223372036854775808 % 2 == 1) = t
  cases t
  ·rw [cmp_lt (by cases s <;> simp [sg] <;> omega)]; rfl
  ·rw [cmp_gt (by cases s <;> simp [sg] <;> omega)]; rfl
 ·obtain ⟨n, j, e2, hj, v2⟩ := read_num h2
  have h3 : frung x = 9218868437227405312 := by omega
  rw [e2, read_inf h3, h3]
  generalize (x / 9223372036854775808 % 2 == 1) = s
  generalize (y / 9223372036854775808 % 2 == 1) = t
  cases s
  ·rw [cmp_gt (by cases t <;> simp [sg] <;> omega)]; rfl
  ·rw [cmp_lt (by cases t <;> simp [sg] <;> omega)]; rfl
 ·have h3 : frung x = 9218868437227405312 := by omega
  have h4 : frung y = 9218868437227405312 := by omega
  rw [read_inf h3, read_inf h4, h3, h4]
  generalize (x / 9223372036854775808 % 2 == 1) = s
  generalize (y / 9223372036854775808 % 2 == 1) = t
  cases s <;> cases t <;> decide
theorem order_nan_l {x : Nat} (hx : 9218868437227405312 < frung x) (y : Nat) : ford x y = none := by
 unfold ford FloatKind.format Format.order
 obtain ⟨t, e⟩ := read_nan hx
 rw [e]; rfl
theorem fnan_iff (x : Nat) : fnan x = true ↔ 9218868437227405312 < frung x := by
 unfold fnan
 constructor
 ·intro h
  rcases Nat.lt_or_ge 9218868437227405312 (frung x) with h1 | h1
  ·exact h1
  ·rw [order_key h1 h1, cmp_eq rfl] at h; cases h
 ·intro h; rw [order_nan_l h]; rfl
theorem ford_nan_l {x : Nat} (hx : fnan x = true) (y : Nat) : ford x y = none := order_nan_l ((fnan_iff x).1 hx) y
def flt (x y : Nat) : Bool := ford x y == some .lt
def fgt (x y : Nat) : Bool := ford x y == some .gt
def feq (x y : Nat) : Bool := ford x y == some .eq
def fge (x y : Nat) : Bool := ford x y == some .gt || ford x y == some .eq
def fle (x y : Nat) : Bool := ford x y == some .lt || ford x y == some .eq
section
variable {x y : Nat} (hx : fnan x = false) (hy : fnan y = false)
include hx hy
end
end
section
structure Ev where
 t : Nat
 src : Int
 n : Int
 dst : Int
 pay : Int
deriving DecidableEq
def Ev.right (e : Ev) : Prop := fnan e.t = false ∧ -1 ≤ e.src ∧ e.src < 6 ∧ 0 ≤ e.n ∧ e.n ≤ 1099511627776 ∧ 0 ≤ e.dst ∧ e.dst < 6
instance (e : Ev) : Decidable e.right := by unfold Ev.right; infer_instance
def Ev.ok (e : Ev) : Prop := e.t < 18446744073709551616 ∧ (-9223372036854775808 ≤ e.src ∧ e.src < 9223372036854775808) ∧ (-9223372036854775808 ≤ e.n ∧ e.n < 9223372036854775808) ∧ (-9223372036854775808 ≤ e.dst ∧ e.dst < 9223372036854775808) ∧ (-9223372036854775808 ≤ e.pay ∧ e.pay < 9223372036854775808)
def tn (x : Nat) : Nat := if x = 9223372036854775808 then 0 else x
def tkey (x : Nat) : Nat := if tn x < 9223372036854775808 then tn x + 9223372036854775808 else 18446744073709551615 - tn x
def timeB (x : Nat) : Bs := be 8 (tkey x)
@[simp] theorem timeB_length (x : Nat) : (timeB x).length = 8 := by simp [timeB]
def oneB (n : Int) : Bs := [UInt8.ofNat n.toNat]
@[simp] theorem oneB_length (n : Int) : (oneB n).length = 1 := rfl
def keyB (e : Ev) : Bs := timeB e.t ++ oneB (e.src + 1) ++ encI e.n ++ encI e.pay
def evB (e : Ev) : Bs := timeB e.t ++ oneB (e.src + 1) ++ encI e.n ++ oneB e.dst ++ encI e.pay
@[simp] theorem keyB_length (e : Ev) : (keyB e).length = 25 := by simp [keyB]
@[simp] theorem evB_length (e : Ev) : (evB e).length = 26 := by simp [evB]
def msgB (e : Ev) (anti : Bool) : Bs := (if anti then [1] else [0]) ++ evB e
@[simp] theorem msgB_length (e : Ev) (a : Bool) : (msgB e a).length = 27 := by cases a <;> simp [msgB]
structure Sta where
 words : List Int
 sent : Int
 dice : Int
def Sta.right (s : Sta) : Prop := s.words.length ≤ 8 ∧ 0 ≤ s.sent ∧ s.sent ≤ 1099511627776 ∧ 0 ≤ s.dice ∧ s.dice ≤ 1099511627776
instance (e : Sta) : Decidable e.right := by unfold Sta.right; infer_instance
def wordsB (l : List Int) : Bs := l.flatMap encI
@[simp] theorem wordsB_length (l : List Int) : (wordsB l).length = 8 * l.length := by
 induction l with
 | nil => rfl
 | cons x t ih => simp [wordsB] at ih ⊢; omega
def staB (s : Sta) : Bs := oneB s.words.length ++ wordsB s.words ++ encI s.sent ++ encI s.dice
@[simp] theorem staB_length (s : Sta) : (staB s).length = 17 + 8 * s.words.length := by simp [staB]; omega
end
section
structure In where
 op : Int
 a : Int
 b : Int
 c : Int
def inC (x : In) : List Value := [.int .i64 x.op, .int .i64 x.a, .int .i64 x.b, .int .i64 x.c]
def rgB (n : Int) : Bool := decide (0 ≤ n) && decide (n ≤ 7)
def plB (n len : Int) : Bool := decide (0 ≤ n) && decide (n ≤ len)
def insB (x : In) (len : Int) : Bool :=
 if x.op = 0 then true
 else if x.op = 1 then rgB x.a
 else if x.op = 2 ∨ x.op = 11 ∨ x.op = 13 ∨ x.op = 14 then rgB x.a && rgB x.b
 else if (3 ≤ x.op ∧ x.op ≤ 8) ∨ x.op = 12 then rgB x.a && (rgB x.b && rgB x.c)
 else if x.op = 9 then plB x.a len
 else if x.op = 10 then rgB x.a && plB x.b len
 else false
def progB (p : List In) : Bool := p.all (fun x => insB x p.length) && (decide (1 ≤ p.length) && decide (p.length ≤ 48))
structure Ini where
 t : Nat
 dst : Int
 pay : Int
def iniC (x : Ini) : List Value := [.float .f64 x.t, .int .i64 x.dst, .int .i64 x.pay]
structure Mdl where
 seed : Int
 en : Nat
 dl : List Nat
 pr : List (List In)
 lp : List (Int × List Int)
 ini : List Ini
def countsB (m : Mdl) : Bool := decide (1 ≤ m.lp.length ∧ m.lp.length ≤ 6 ∧ 1 ≤ m.pr.length ∧ m.pr.length ≤ 4 ∧ 1 ≤ m.dl.length ∧ m.dl.length ≤ 8 ∧ m.ini.length ≤ 16) && !fnan m.en
def dlB (d : Nat) : Bool := fgt d 0
def lpB (n : Nat) (x : Int × List Int) : Bool := decide (0 ≤ x.1 ∧ x.1 < n ∧ x.2.length ≤ 8)
def iniB (n : Nat) (x : Ini) : Bool := !fnan x.t && decide (0 ≤ x.dst ∧ x.dst < n)
def checkB (m : Mdl) : Bool := countsB m && (m.dl.all dlB && (m.pr.all progB && (m.lp.all (lpB m.pr.length) && m.ini.all (iniB m.lp.length))))
def lightB (m : Mdl) : Bool := decide (m.pr.length ≤ 10 ∧ m.lp.length ≤ 20 ∧ m.dl.length ≤ 60 ∧ m.ini.length ≤ 60) && (m.pr.all (fun p => decide (p.length ≤ 100)) && m.lp.all fun x => decide (x.2.length ≤ 60))
end
section
open Go.RowKit
theorem hid {p : Prop} (h : p) : Hid p := h
theorem below_drewN {B : Nat} {a w : World} (h : Below B a w) (n : Nat) : Below B a (w.drewN n) := ⟨h.os, h.tape, h.output, h.size, h.block⟩
theorem stopAt {P : Program} {ops : Array Oper} {Q : Exit → Act → World → Prop} {rest : List Oper} {o : Oper} {a : Act} {w : World} (b : Builtin) {args : Array Operand} {ts : Array TypeId}
  (_ : o.op = .call { callee := .builtin b, args := args, argTypes := ts }) (h : Hid (wpList P ops Q (o :: rest) a w)) : wpList P ops Q (o :: rest) a w := h
theorem goOn {p : Prop} (h : p) : Hid p := h
structure Kp (O : List Nat) (w w' : World) : Prop where
 os : w'.os = w.os
 tape : w'.tape = w.tape
 output : w'.output = w.output
 size : w.heap.size ≤ w'.heap.size
 block : ∀ b, b < w.heap.size → b ∉ O → w'.heap[b]? = w.heap[b]?
def Gr (O : List Nat) (n : Nat) (O' : List Nat) : Prop := ∀ x ∈ O', x ∈ O ∨ n ≤ x
theorem Gr.refl (O : List Nat) (n : Nat) : Gr O n O := fun _ h => .inl h
theorem Gr.trans {O O1 O2 : List Nat} {n m : Nat} (h : Gr O n O1) (h2 : Gr O1 m O2) (hm : n ≤ m) : Gr O n O2 := fun x hx => by
 rcases h2 x hx with h' | h'
 ·exact h x h'
 ·exact .inr (by omega)
theorem Gr.mono {O O' : List Nat} {n m : Nat} (h : Gr O n O') (hm : m ≤ n) : Gr O m O' := fun x hx => (h x hx).imp id (by omega)
theorem Gr.out {O O' : List Nat} {n b : Nat} (h : Gr O n O') (hb : b < n) (ho : b ∉ O) : b ∉ O' := fun hx => by
 rcases h b hx with h' | h'
 ·exact ho h'
 ·omega
namespace Kp
variable {O O' : List Nat} {w w' w'' a : World}
theorem refl (O : List Nat) (w : World) : Kp O w w := ⟨rfl, rfl, rfl, Nat.le_refl _, fun _ _ _ => rfl⟩
theorem trans (h : Kp O w w') (k : Kp O w' w'') : Kp O w w'' :=
 ⟨k.os.trans h.os, k.tape.trans h.tape, k.output.trans h.output, Nat.le_trans h.size k.size, fun b hb ho => (k.block b (Nat.lt_of_lt_of_le hb h.size) ho).trans (h.block b hb ho)⟩
theorem trans_gr (h : Kp O w w') (hg : Gr O w.heap.size O') (k : Kp O' w' w'') : Kp O w w'' :=
 ⟨k.os.trans h.os, k.tape.trans h.tape, k.output.trans h.output, Nat.le_trans h.size k.size, fun b hb ho => (k.block b (Nat.lt_of_lt_of_le hb h.size) (hg.out hb ho)).trans (h.block b hb ho)⟩
theorem mono (h : Kp O w w') (hs : ∀ x ∈ O, x ∈ O' ∨ w.heap.size ≤ x) : Kp O' w w' :=
 ⟨h.os, h.tape, h.output, h.size, fun b hb ho => h.block b hb fun hx => (hs b hx).elim ho (by omega)⟩
theorem of_below (h : Below w.heap.size w w') : Kp O w w' := ⟨h.os, h.tape, h.output, h.size, fun b hb _ => h.block b hb⟩
theorem to_below (h : Kp O w w') {B : Nat} (hB : B ≤ w.heap.size) (ho : ∀ x ∈ O, B ≤ x) : Below B w w' :=
 ⟨h.os, h.tape, h.output, h.size, fun b hb => h.block b (by omega) fun hx => by have := ho b hx; omega⟩
theorem nil_below (h : Kp [] w w') : Below w.heap.size w w' := h.to_below (Nat.le_refl _) (by simp)
theorem drewN (h : Kp O a w) (n : Nat) : Kp O a (w.drewN n) := ⟨h.os, h.tape, h.output, h.size, h.block⟩
theorem drew (h : Kp O a w) : Kp O a w.drew := ⟨h.os, h.tape, h.output, h.size, h.block⟩
theorem alloc (h : Kp O a w) (o : Obj) : Kp O a (w.alloc o) :=
 ⟨h.os, h.tape, h.output, Nat.le_trans h.size (by simp), fun b hb ho => (Below.heap_alloc w o b (Nat.lt_of_lt_of_le hb h.size)).trans (h.block b hb ho)⟩
theorem setCell (h : Kp O a w) {p : Addr} (hp : p.block ∈ O ∨ a.heap.size ≤ p.block) (u : Value) : Kp O a (w.setCell p u) :=
 ⟨h.os, h.tape, h.output, by simpa [World.setCell] using h.size, fun b hb ho => (Below.heap_setCell w p u b (by
  rintro rfl
  rcases hp with hp | hp
  ·exact ho hp
  ·omega)).trans (h.block b hb ho)⟩
theorem grown (h : Kp O a w) {row : Option Nat} (hg : w.grownBy w' row) (hr : ∀ g, row = some g → g ∈ O ∨ a.heap.size ≤ g) : Kp O a w' :=
 ⟨hg.os.trans h.os, hg.tape.trans h.tape, hg.output.trans h.output, Nat.le_trans h.size hg.size, fun b hb ho => (hg.block b (Nat.lt_of_lt_of_le hb h.size) (fun e => by
  rcases hr b e.symm with h' | h'
  ·exact ho h'
  ·omega)).trans (h.block b hb ho)⟩
theorem cell (h : Kp O w w') {p : Addr} (hp : p.block < w.heap.size) (ho : p.block ∉ O) : w'.cell? p = w.cell? p := World.cell?_of_block (h.block _ hp ho)
theorem frozen (h : Kp O w w') {p : Addr} (hp : p.block < w.heap.size) (ho : p.block ∉ O) : w'.frozen? p = w.frozen? p := World.frozen?_of_block (h.block _ hp ho)
end Kp
def Blk (w : World) (g : Nat) (t : TypeId) (cs : Array Value) : Prop := w.heap[g]? = some (.cells cs t (0, 0))
section
variable {w w' : World} {g : Nat} {t : TypeId} {cs : Array Value}
theorem Blk.lt (h : Blk w g t cs) : g < w.heap.size := lt_of_block h
theorem Blk.cell (h : Blk w g t cs) (i : Nat) : w.cell? ⟨g, i, none⟩ = cs[i]? := cell_of_row w g i cs t (0, 0) h
theorem Blk.frozen (h : Blk w g t cs) (i : Nat) : w.frozen? ⟨g, i, none⟩ = false := by
 unfold Blk at h
 simp [World.frozen?, h]
theorem Blk.new (w : World) (t : TypeId) (cs : Array Value) : Blk (w.alloc (.cells cs t)) w.heap.size t cs := heap_alloc_new w _
theorem Blk.drew (h : Blk w g t cs) : Blk w.drew g t cs := h
theorem Blk.drewN (h : Blk w g t cs) (n : Nat) : Blk (w.drewN n) g t cs := h
theorem Blk.alloc (h : Blk w g t cs) (o : Obj) : Blk (w.alloc o) g t cs := (Below.heap_alloc w o g h.lt).trans h
theorem Blk.set_ (h : Blk w g t cs) (i : Nat) (u : Value) : Blk (w.setCell ⟨g, i, none⟩ u) g t (cs.setIfInBounds i u) := by
 unfold Blk at h ⊢
 simp [World.setCell, Array.getElem?_modify, h]
theorem Blk.far (h : Blk w g t cs) {p : Addr} (hp : g ≠ p.block) (u : Value) : Blk (w.setCell p u) g t cs := (Below.heap_setCell w p u g hp).trans h
theorem Blk.below {B : Nat} (h : Blk w g t cs) (hb : Below B w w') (hg : g < B) : Blk w' g t cs := (hb.block g hg).trans h
theorem Blk.grown {row : Option Nat} (h : Blk w g t cs) (hb : w.grownBy w' row) (hg : some g ≠ row) : Blk w' g t cs := (hb.block g h.lt hg).trans h
theorem Blk.kp {O : List Nat} (h : Blk w g t cs) (hk : Kp O w w') (ho : g ∉ O) : Blk w' g t cs := (hk.block g h.lt ho).trans h
theorem Blk.ne_ {g' : Nat} {t' : TypeId} {cs' : Array Value} (h : Blk w g t cs) (h' : Blk w g' t' cs') (hne : t ≠ t') : g ≠ g' := by
 rintro rfl
 unfold Blk at h h'
 rw [h] at h'
 injection h' with h'
 injection h' with _ ht
 exact hne ht
end
end
section
open Go.RowKit
def cB (l : Bs) : List Value := l.map fun b => Value.int .u8 (b.toNat : Int)
@[simp] theorem cB_length (l : Bs) : (cB l).length = l.length := by simp [cB]
@[simp] theorem cB_append (a b : Bs) : cB (a ++ b) = cB a ++ cB b := by simp [cB]
end
section
def tbl : List Nat := [0x00000000, 0x105ec76f, 0x20bd8ede, 0x30e349b1, 0x417b1dbc, 0x5125dad3, 0x61c69362, 0x7198540d, 0x82f63b78, 0x92a8fc17, 0xa24bb5a6, 0xb21572c9, 0xc38d26c4, 0xd3d3e1ab, 0xe330a81a, 0xf36e6f75]
theorem tbl_lt (i : Nat) : tbl.getD i 0 < 2 ^ 32 := by
 rcases Nat.lt_or_ge i 16 with h | h
 ·have : ∀ i : Fin 16, tbl.getD i 0 < 2 ^ 32 := by decide
  exact this ⟨i, h⟩
 ·have : tbl.getD i 0 = 0 := by
   have h2 : tbl[i]? = none := List.getElem?_eq_none (by simpa [tbl] using h)
   simp [List.getD, h2]
  rw [this]; decide
def tk1 (r : Nat) : Nat := (r / 16) ^^^ tbl.getD (r % 16) 0
def tk (r : Nat) (c : UInt8) : Nat := tk1 (tk1 (r ^^^ c.toNat))
theorem tk1_lt {r : Nat} (h : r < 2 ^ 32) : tk1 r < 2 ^ 32 := Nat.xor_lt_two_pow (by omega) (tbl_lt _)
theorem tk_lt {r : Nat} (c : UInt8) (h : r < 2 ^ 32) : tk r c < 2 ^ 32 :=
 tk1_lt (tk1_lt (Nat.xor_lt_two_pow h (Nat.lt_of_lt_of_le c.toNat_lt (by decide))))
def crcGo (r : Nat) (s : Bs) : Nat := s.foldl tk r
theorem crcGo_lt (s : Bs) : ∀ r, r < 2 ^ 32 → crcGo r s < 2 ^ 32 := by
 induction s with
 | nil => intro r h; exact h
 | cons c s ih => intro r h; exact ih _ (tk_lt c h)
theorem crcGo_take (s : Bs) (r j : Nat) (h : j < s.length) : crcGo r (s.take (j + 1)) = tk (crcGo r (s.take j)) (s.getD j 0) := by
 have e : s.getD j 0 = s[j] := by simp [List.getD, h]
 rw [e]
 unfold crcGo
 rw [List.take_succ_eq_append_getElem h, List.foldl_append]
 rfl
def crc (s : Bs) : Nat := 4294967295 - crcGo 4294967295 s
def four (n : Nat) : Bs := [UInt8.ofNat n, UInt8.ofNat (n / 256), UInt8.ofNat (n / 65536), UInt8.ofNat (n / 16777216)]
@[simp] theorem four_length (n : Nat) : (four n).length = 4 := rfl
def crcLay (s : Bs) : Bs := four (crc s) ++ s
@[simp] theorem crcLay_length (s : Bs) : (crcLay s).length = 4 + s.length := by simp [crcLay]
@[simp] theorem crcLay_take (s : Bs) : (crcLay s).take 4 = four (crc s) := by simp [crcLay, four]
@[simp] theorem crcLay_drop (s : Bs) : (crcLay s).drop 4 = s := by simp [crcLay, four]
end
section
open Go.RowKit
def tblV : Array Value := #[Value.int .u32 0, .int .u32 274646895, .int .u32 549293790, .int .u32 820201905, .int .u32 1098587580, .int .u32 1361435347, .int .u32 1640403810, .int .u32 1905808397, .int .u32 2197175160, .int .u32 2460548119, .int .u32 2722870694, .int .u32 2987750089, .int .u32 3280807620, .int .u32 3553878443, .int .u32 3811616794, .int .u32 4084100981]
theorem tblI : ∀ i, i < 16 → tblV[i]? = some (.int .u32 ((tbl.getD i 0 : Nat) : Int))
 | 0, _ | 1, _ | 2, _ | 3, _ | 4, _ | 5, _ | 6, _ | 7, _ | 8, _ | 9, _ | 10, _ | 11, _ | 12, _ | 13, _ | 14, _ | 15, _ => rfl
 | n + 16, h => absurd h (by omega)
def tkI (r : Nat) : Nat → Nat
 | 0 => r
 | k + 1 => tk1 (tkI r k)
theorem tkI_lt {r : Nat} (h : r < 4294967296) : ∀ k, tkI r k < 4294967296
 | 0 => h
 | k + 1 => tk1_lt (tkI_lt h k)
set_option maxHeartbeats 400000 in
theorem take_any (r : Nat) (c : UInt8) (w : World) (hr : r < 4294967296) :
  Calls Tryz.prog 450 #[.int .u32 r, .int .u8 (c.toNat : Int)] w fun e w' => e = .returned (.int .u32 (tk r c)) ∧ Below w.heap.size w w' := by
 have hc := c.toNat_lt
 have hl := hid (Nat.xor_lt_two_pow (n := 32) hr (by omega : c.toNat < 2 ^ 32))
 have HR := hid hr
 clear hr
 obtain ⟨x, hx⟩ : ∃ x : Nat, x = r ^^^ c.toNat := ⟨_, rfl⟩
 have hre : tk r c = tkI x 2 := by rw [hx]; rfl
 have HX := hid hx
 rw [hre]
 clear hre hx
 go_enter Tryz.func450, Tryz.ntmps450
 go_wp2
 obtain ⟨W, hW⟩ : ∃ W : World, W = w.alloc (.cells tblV 587) := ⟨_, rfl⟩
 have hB : Below w.heap.size w W := by rw [hW]; exact (Below.refl _ _).alloc (Nat.le_refl _) _
 have hT : Hid (∀ i, i < 16 → W.cell? ⟨w.heap.size, i, none⟩ = some (.int .u32 ((tbl.getD i 0 : Nat) : Int))) := by
  rw [hW]
  exact hid fun i hi => by rw [cell_of_row _ _ i _ _ (0, 0) (heap_alloc_new w _)]; exact tblI i hi
 rw [← HX.out] at hl
 have e0 : bits .xor .u32 (r : Int) (c.toNat : Int) = ((x : Nat) : Int) := by rw [HX.out, u32_xor_nat _ _ HR.out (by omega)]
 unfold tblV at hW
 rw [← hW, e0]
 clear e0 hW hc HR HX
 go_loop [0, 11] (fun v i => ∃ k : Nat, k ≤ 2 ∧ i = .int .i64 k ∧ v = .int .u32 (tkI x k)) (fun _ i => 2 - (intOf i).toNat)
 case atStart => exact ⟨0, by omega, rfl, rfl⟩
 case round =>
  obtain ⟨k, hk, rfl, rfl⟩ := hrel
  have hy := tkI_lt hl.out k
  have hs := hid (show tkI x (k + 1) = tk1 (tkI x k) from rfl)
  obtain ⟨y, hyx⟩ : ∃ y, tkI x k = y := ⟨_, rfl⟩
  rw [hyx] at hy hs
  have HY := hid hyx
  rw [hyx]
  clear hyx
  have hand : bits .and .u32 (y : Int) 15 = ((y % 16 : Nat) : Int) := by
   rw [show (15 : Int) = ((15 : Nat) : Int) from rfl, u32_and_nat _ _ hy (by omega), nat_mask4]
  have hc := hT.out (y % 16) (by omega)
  have hm : y % 16 < 16 := by omega
  by_cases hlt : k < 2
  ·go_wp2
   go_round
   case rel =>
    refine ⟨k + 1, by omega, by go_num, ?_⟩
    rw [hs.out]
    have ht := tbl_lt (y % 16)
    have e : ((y : Int) / 16) = ((y / 16 : Nat) : Int) := by omega
    have e2 : tbl[y % 16]?.getD 0 = tbl.getD (y % 16) 0 := by simp [List.getD]
    rw [e, e2, u32_xor_nat _ _ (by omega) (by omega)]
    rfl
   case measure => simp [intOf]; omega
  ·have hke : k = 2 := by omega
   subst hke
   go_wp2
   go_ret
   exact ⟨by rw [HY.out]; rfl, hB⟩
end
section
open Go.RowKit
theorem not32 (r : Nat) (hr : r < 4294967296) : bits .xor .u32 IntKind.u32.max (r : Int) = ((4294967295 - r : Nat) : Int) := by
 have h : IntKind.u32.max = ((4294967295 : Nat) : Int) := rfl
 rw [h, u32_xor_nat _ _ (by omega) hr]
 congr 1
 have h1 : (4294967295 : Nat) = 2 ^ 32 - 1 := rfl
 have h2 : 4294967295 - r = 2 ^ 32 - (r + 1) := by omega
 rw [h2, h1]
 refine Nat.eq_of_testBit_eq fun i => ?_
 rw [Nat.testBit_xor, Nat.testBit_two_pow_sub_one, Nat.testBit_two_pow_sub_succ hr]
 by_cases hi : i < 32
 ·simp [hi]
 ·have : r.testBit i = false := Nat.testBit_lt_two_pow (Nat.lt_of_lt_of_le hr (Nat.pow_le_pow_right (by omega) (by omega) : 2 ^ 32 ≤ 2 ^ i))
  simp [hi, this]
theorem more_any (r : Nat) (s : Bs) (w : World) (hr : r < 4294967296) (hs : s.length ≤ 1000000) :
  Calls Tryz.prog 407 #[.int .u32 r, .string (S s)] w fun e w' => e = .returned (.int .u32 ((4294967295 - crcGo (4294967295 - r) s : Nat) : Int)) ∧ Below w.heap.size w w' := by
 have hn := not32 r hr
 obtain ⟨q, hq⟩ : ∃ q, q = 4294967295 - r := ⟨_, rfl⟩
 rw [← hq] at hn ⊢
 have hql := hid (show q < 4294967296 by omega)
 clear hq hr
 go_enter Tryz.func407, Tryz.ntmps407
 go_wp2
 go_loopw [5, 11] (fun v i wr => ∃ k : Nat, k ≤ s.length ∧ i = .int .i64 k ∧ v = .int .u32 (crcGo q (s.take k)) ∧ Below w.heap.size w wr) (fun _ i _ => s.length - (intOf i).toNat)
 case atStart => exact ⟨0, by omega, rfl, rfl, Below.refl _ _⟩
 case round =>
  obtain ⟨k, hk, rfl, rfl, hb⟩ := hrel
  have hy := hid (crcGo_lt (s.take k) q hql.out)
  by_cases hlt : k < s.length
  ·have hst := hid (crcGo_take s q k hlt)
   obtain ⟨y, hyx⟩ : ∃ y, crcGo q (s.take k) = y := ⟨_, rfl⟩
   rw [hyx] at hy hst ⊢
   have hsz := hb.size
   have hc := hid (fun W => take_any y (s.getD k 0) W hy.out)
   have e : s.getD k 0 = s[k] := by simp [List.getD, hlt]
   rw [e] at hc hst
   clear e hyx
   go_wp2_with (go_at_call 450; refine (hc.out _).mono ?_; rintro e w1 ⟨rfl, hb1⟩)
   go_roundw
   case rel => exact ⟨k + 1, by omega, by go_num, by rw [hst.out], hb.trans (hb1.mono hsz)⟩
   case measure => simp [intOf]; omega
  ·have hke : k = s.length := by omega
   subst hke
   have ht : s.take s.length = s := by simp
   rw [ht] at hy ⊢
   have hn2 := not32 _ hy.out
   clear ht
   go_wp2
   go_ret
   exact ⟨rfl, hb⟩
end
section
open Go.RowKit
def bA (l : Bs) : Array Value := (cB l).toArray
@[simp] theorem bA_size (l : Bs) : (bA l).size = l.length := by simp [bA]
end
section
open Go.RowKit Go.Lib
theorem own_slice2 {w : World} {B : Nat} {T : TypeId} {s n : Nat} {v : Value} {xs : List Value} (h : w.ownsRow B T s v n xs) : ∃ p c, v = .slice p n c := by
 rcases h.2 with ⟨h, h0⟩ | ⟨g, cap, cur, h, _⟩
 ·exact ⟨none, 0, by rw [h, h0]⟩
 ·exact ⟨_, _, h⟩
end
section
open Go.RowKit
structure DkL where
 d : Nat
 bn : Nat
 bo : Nat
 bl : Nat
theorem kp_setCells (b : Nat) : ∀ (vs : List Value) (o : Nat) (w : World), Kp [b] w (w.setCells b o vs)
 | [], _, w => Kp.refl _ _
 | v :: vs, o, w => by
  show Kp [b] w ((w.setCell ⟨b, o, none⟩ v).setCells b (o + 1) vs)
  exact ((Kp.refl [b] w).setCell (p := ⟨b, o, none⟩) (.inl (by simp)) v).trans (kp_setCells b vs (o + 1) _)
end
section
open Go.RowKit Go.Lib
def cI (l : List Int) : List Value := l.map fun n => Value.int .i64 n
@[simp] theorem cI_length (l : List Int) : (cI l).length = l.length := by simp [cI]
theorem cI_get (l : List Int) (i : Nat) (h : i < l.length) : (cI l)[i]? = some (.int .i64 (l.getD i 0)) := by
 simp [cI, h, List.getD]
def SlI (w : World) (v : Value) (l : List Int) : Prop := (v = .slice none 0 0 ∧ l = []) ∨ ∃ b o c, v = .slice (some ⟨b, o, none⟩) l.length c ∧ b < w.heap.size ∧ w.rangeAt b o (cI l)
theorem index_any (w : World) (v : Value) (l : List Int) (x : Int) (h : SlI w v l) (hl : l.length ≤ 1000000) :
  Calls Tryz.prog 406 #[v, .int .i64 x] w fun e w' => w = w' ∧ ((e = .returned (.int .i64 (-1)) ∧ x ∉ l) ∨ ∃ k : Nat, e = .returned (.int .i64 k) ∧ l[k]? = some x ∧ x ∉ l.take k) := by
 rcases h with ⟨rfl, rfl⟩ | ⟨b, o, c, rfl, hb, hr⟩
 ·go_enter Tryz.func406, Tryz.ntmps406
  go_wp2
  refine wp_loop_rounds 1 ?_
  rw [rounds_succ]
  go_wp2
  go_ret
  exact ⟨rfl, .inl ⟨rfl, by simp⟩⟩
 ·go_enter Tryz.func406, Tryz.ntmps406
  go_wp2
  go_loop [8] (fun i => ∃ k : Nat, k ≤ l.length ∧ i = .int .i64 k ∧ x ∉ l.take k) (fun i => l.length - (intOf i).toNat)
  case atStart => exact ⟨0, Nat.zero_le _, rfl, by simp⟩
  case round =>
   obtain ⟨k, hk, rfl, hno⟩ := hrel
   have HNO := hid hno
   clear hno
   by_cases hlt : k < l.length
   ·have hc := hr k _ (cI_get l k hlt)
    have hg : l[k]? = some (l.getD k 0) := by simp [List.getD, hlt]
    have HG := hid hg
    have ht : l.take (k + 1) = l.take k ++ [l.getD k 0] := by rw [List.take_succ_eq_append_getElem hlt]; simp [List.getD, hlt]
    have HT := hid ht
    clear hg ht
    generalize l.getD k 0 = y at *
    by_cases hxy : x = y
    ·subst hxy
     go_wp2
     go_ret
     exact ⟨rfl, .inr ⟨k, rfl, HG.out, HNO.out⟩⟩
    ·have hne : (x == y) = false := by simpa using hxy
     go_wp2
     go_round
     case rel => exact ⟨k + 1, by omega, by go_num, by rw [HT.out]; simp [HNO.out, hxy]⟩
     case measure => simp [intOf]; omega
   ·have hke : k = l.length := by omega
    go_wp2
    go_ret
    exact ⟨rfl, .inl ⟨rfl, by have := HNO.out; rwa [hke, List.take_length] at this⟩⟩
structure MpI (w : World) (m ml : Nat) (K : List Int) : Prop where
 c : Blk w m 396 #[.slice (some ⟨ml, 0, none⟩) K.length K.length]
 l : Blk w ml 3 (cI K).toArray
 n0 : 0 < K.length
 n1 : K.length ≤ 1024
theorem MpI.ne {w : World} {m ml : Nat} {K : List Int} (h : MpI w m ml K) : m ≠ ml := h.c.ne_ h.l (by decide)
theorem MpI.sl {w : World} {m ml : Nat} {K : List Int} (h : MpI w m ml K) : SlI w (.slice (some ⟨ml, 0, none⟩) K.length K.length) K :=
 .inr ⟨ml, 0, _, rfl, h.l.lt, fun j v hj => by rw [h.l.cell]; simpa using hj⟩
theorem map_first {w : World} {m ml : Nat} {K : List Int} (h : MpI w m ml K) (x : Int) :
  Calls Tryz.prog 424 #[.pointer (some ⟨m, 0, none⟩), .int .i64 x] w fun e w' => w = w' ∧ ((e = .returned (.int .i64 (-1)) ∧ x ∉ K) ∨ ∃ k : Nat, e = .returned (.int .i64 k) ∧ K[k]? = some x ∧ x ∉ K.take k) := by
 have HI := hid (index_any w _ K x h.sl (by have := h.n1; omega))
 have h0 : w.cell? ⟨m, 0, none⟩ = some (.slice (some ⟨ml, 0, none⟩) K.length K.length) := by rw [h.c.cell]; rfl
 clear h
 go_enter Tryz.func424, Tryz.ntmps424
 go_wp2_with fail
 refine HI.out.mono ?_
 rintro e w' ⟨rfl, ⟨rfl, hx⟩ | ⟨k, rfl, hk, hx⟩⟩
 ·have HX := hid hx
  clear hx
  go_wp2
  go_ret
  exact ⟨rfl, .inl ⟨rfl, HX.out⟩⟩
 ·have HX := hid hx
  have HK := hid hk
  clear hx hk
  go_wp2
  go_ret
  exact ⟨rfl, .inr ⟨k, rfl, HK.out, HX.out⟩⟩
theorem cI_set (K : List Int) (p : Nat) (x : Int) : (cI K).toArray.setIfInBounds p (.int .i64 x) = (cI (K.set p x)).toArray := by
 simp [cI, List.map_set]
theorem MpI.set_ {w : World} {m ml : Nat} {K : List Int} (h : MpI w m ml K) (p : Nat) (x : Int) : MpI (w.setCell ⟨ml, p, none⟩ (.int .i64 x)) m ml (K.set p x) :=
 ⟨by have := h.c.far (p := ⟨ml, p, none⟩) h.ne (.int .i64 x); simpa using this, by have := h.l.set_ p (.int .i64 x); rwa [cI_set] at this, by simpa using h.n0, by simpa using h.n1⟩
theorem map_take {w : World} {m ml : Nat} {K : List Int} (h : MpI w m ml K) (hx : (0 : Int) ∈ K) :
  Calls Tryz.prog 376 #[.pointer (some ⟨m, 0, none⟩)] w fun e w' => ∃ p : Nat, K[p]? = some 0 ∧ e = .returned (.tuple #[.int .i64 p, .int .i64 0]) ∧ MpI w' m ml (K.set p 2) ∧ w' = w.setCell ⟨ml, p, none⟩ (.int .i64 2) := by
 have HF := hid (map_first h 0)
 have h0 : w.cell? ⟨m, 0, none⟩ = some (.slice (some ⟨ml, 0, none⟩) K.length K.length) := by rw [h.c.cell]; rfl
 have H := hid h
 have HX := hid hx
 have hn := h.n1
 clear h hx
 go_enter Tryz.func376, Tryz.ntmps376
 go_wp2_with fail
 refine HF.out.mono ?_
 rintro e w' ⟨rfl, ⟨rfl, hx⟩ | ⟨k, rfl, hk, hx⟩⟩
 ·exact absurd HX.out hx
 ·have hkl := (List.getElem?_eq_some_iff.1 hk).1
  have hc : w.cell? ⟨ml, k, none⟩ = some (.int .i64 0) := by rw [H.out.l.cell]; simp [cI, hk]
  have hf := H.out.l.frozen k
  have HK := hid hk
  clear hk hx
  go_wp2
  go_ret2
  exact ⟨k, HK.out, rfl, H.out.set_ k 2, rfl⟩
end
section
open Go.RowKit Go.Lib
structure ShL where
 D : DkL
 m : Nat
 ml : Nat
 s : Nat
structure ShG where
 sec : Nat → Bs
 K : List Int
 T : List Int
 tv : Value
theorem row_of {w w' : World} {B s n : Nat} {T : TypeId} {v : Value} {xs : List Value} (h : w.ownsRow B T s v n xs) (e : ∀ b, v.ownBlock = some b → w'.heap[b]? = w.heap[b]?) : w'.ownsRow B T s v n xs := by
 refine ⟨h.1, ?_⟩
 rcases h.2 with h3 | ⟨g, cap, cur, e1, e2, e3, e4⟩
 ·exact .inl h3
 ·exact .inr ⟨g, cap, cur, e1, e2, (e g (by rw [e1]; rfl)).trans e3, e4⟩
end
section
open Go.RowKit Go.Lib
theorem inf3 : (Tryz.prog.info? 3).map (fun i => (i.zero, i.size, i.bytes)) = some (some (.int .i64 0), 1, 8) := by kernel_rfl
end
section
open Go.RowKit Go.Lib
section
variable {α : Type} {enc : α → List Value} {k : Nat}
def rowV (enc : α → List Value) (l : List α) : List Value := l.flatMap enc
@[simp] theorem rowV_nil : rowV enc [] = [] := rfl
@[simp] theorem rowV_cons (x : α) (l : List α) : rowV enc (x :: l) = enc x ++ rowV enc l := rfl
@[simp] theorem rowV_append (a b : List α) : rowV enc (a ++ b) = rowV enc a ++ rowV enc b := by simp [rowV]
theorem rowV_length (hk : ∀ x, (enc x).length = k) (l : List α) : (rowV enc l).length = l.length * k := by
 induction l with
 | nil => simp
 | cons x l ih => rw [rowV_cons, List.length_append, hk, ih, List.length_cons, Nat.succ_mul, Nat.add_comm]
theorem rowV_get (hk : ∀ x, (enc x).length = k) : ∀ (l : List α) (i : Nat) (x : α), l[i]? = some x → ∀ j, j < k → (rowV enc l)[i * k + j]? = (enc x)[j]?
 | [], i, x, h, j, hj => by simp at h
 | y :: l, 0, x, h, j, hj => by
  simp at h; subst h
  rw [rowV_cons, Nat.zero_mul, Nat.zero_add, List.getElem?_append_left (by rw [hk]; exact hj)]
 | y :: l, i + 1, x, h, j, hj => by
  rw [rowV_cons, List.getElem?_append_right (by rw [hk, Nat.succ_mul]; omega), hk, show (i + 1) * k + j - k = i * k + j by rw [Nat.succ_mul]; omega]
  exact rowV_get hk l i x (by simpa using h) j hj
theorem rowV_one (h1 : ∀ x, ∀ u ∈ enc x, u.oneCell' = true) (l : List α) : ∀ u ∈ rowV enc l, u.oneCell' = true := by
 intro u hu
 obtain ⟨x, _, hx⟩ := List.mem_flatMap.1 hu
 exact h1 x u hx
end
theorem news_of {W : World} {g : Nat} {T : TypeId} {cs : List Value} (h : Blk W g T cs.toArray) : ∀ j u, cs[j]? = some u → W.cell? ((⟨g, 0, none⟩ : Addr).add j) = some u := by
 intro j u hj
 rw [Addr.add_mid, Nat.zero_add, h.cell]
 simpa using hj
theorem own_at {w : World} {B : Nat} {T : TypeId} {s n : Nat} {v : Value} {xs : List Value} {g : Nat} {c : Nat} (h : w.ownsRow B T s v n xs) (hv : v = .slice (some ⟨g, 0, none⟩) n c) {j : Nat} {u : Value} (hj : xs[j]? = some u) : w.cell? ⟨g, j, none⟩ = some u := by
 have := h.cells (g := g) (by rw [hv]; rfl) j u hj
 rwa [Addr.add_mid, Nat.zero_add] at this
theorem own_form {w : World} {B : Nat} {T : TypeId} {s n : Nat} {v : Value} {xs : List Value} (h : w.ownsRow B T s v n xs) (hn : 0 < n) : ∃ g c, v = .slice (some ⟨g, 0, none⟩) n c ∧ B ≤ g ∧ g < w.heap.size ∧ n ≤ c := by
 rcases h.2 with ⟨_, h0⟩ | ⟨g, cap, cur, hv, hb, hg, hn2, _⟩
 ·omega
 ·exact ⟨g, cap, hv, hb, (Array.getElem?_eq_some_iff.1 hg).1, hn2⟩
end
section
open Go.RowKit Go.Lib
structure Fr where
 page : Int
 pay : Bs
 held : Int
 dirty : Bool
 used : Bool
structure PL where
 S : ShL
 p : Nat
 f : Nat
 cap : Nat
end
section
open Go.RowKit Go.Lib
def ofS (l : List Bs) : ByteArray := if used l ≤ 232 then S (lay l) else ⟨#[]⟩
def ofE (l : List Bs) : Int := if used l ≤ 232 then 0 else 11
abbrev ofR (l : List Bs) : Value := .tuple #[.string (ofS l), .int .i64 (ofE l)]
end
section
/-! the order of strings -/
theorem bl : ∀ (x y : Bs), Op.bytesLess x y = decide (x < y)
 | [], [] => by simp [Op.bytesLess]
 | _ :: _, [] => by simp [Op.bytesLess]
 | [], _ :: _ => by simp [Op.bytesLess]
 | a :: x, b :: y => by
  rw [Op.bytesLess, bl x y]
  simp only [List.cons_lt_cons_iff]
  by_cases h1 : a < b <;> by_cases h2 : a = b <;> by_cases h3 : x < y <;> simp [h1, h2, h3]
theorem ble_iff {a b : Bs} : a ≤ b ↔ ¬ b < a := List.not_lt.symm
structure En where
 key : Bs
 val : Bs
 far : Int
structure Nd where
 leaf : Bool
 l : List En
def encE (x : En) : Bs := UInt8.ofNat x.key.length :: (x.key ++ two (x.far + 1).toNat ++ x.val)
def kindB (b : Bool) : Bs := if b then [1] else [2]
def recs (n : Nd) : List Bs := kindB n.leaf :: n.l.map encE
def enB (x : En) : Nat := x.key.length + x.val.length + 7
def nB (l : List En) : Nat := (l.map enB).sum
@[simp] theorem nB_nil : nB [] = 0 := rfl
@[simp] theorem nB_cons (x : En) (l : List En) : nB (x :: l) = enB x + nB l := by simp [nB]
@[simp] theorem nB_append (a b : List En) : nB (a ++ b) = nB a + nB b := by simp [nB]
/-! the place of a key -/
def cnt (k : Bs) (l : List En) : Nat := l.countP fun x => decide (x.key < k)
/-! halves -/
end
section
abbrev Mp := Nat → Option Bs
abbrev PN := Nat × Nat × Nat
structure Ch where
 key : Bs
 page : Nat
 es : List En
 ps : List PN
def Ch.en (c : Ch) : En := ⟨c.key, [], c.page⟩
def chEs (cs : List Ch) : List En := cs.flatMap Ch.es
def chPs (cs : List Ch) : List PN := cs.flatMap Ch.ps
@[simp] theorem chEs_nil : chEs [] = [] := rfl
@[simp] theorem chEs_cons (c : Ch) (cs : List Ch) : chEs (c :: cs) = c.es ++ chEs cs := rfl
@[simp] theorem chEs_append (a b : List Ch) : chEs (a ++ b) = chEs a ++ chEs b := by simp [chEs]
@[simp] theorem chPs_nil : chPs [] = [] := rfl
@[simp] theorem chPs_cons (c : Ch) (cs : List Ch) : chPs (c :: cs) = c.ps ++ chPs cs := rfl
@[simp] theorem chPs_append (a b : List Ch) : chPs (a ++ b) = chPs a ++ chPs b := by simp [chPs]
/-! a tree with a hole -/
structure Fm where
 page : Nat
 L : List Ch
 key : Bs
 hp : Nat
 R : List Ch
def Fm.hole (f : Fm) : En := ⟨f.key, [], f.hp⟩
def Fm.nd (f : Fm) : Nd := ⟨false, f.L.map Ch.en ++ f.hole :: f.R.map Ch.en⟩
def below (cs : List Ch) (k : Bs) : Nat := (cs.countP fun c => decide (¬ k < c.key)) - 1
end
section
def pgsOf (ps : List PN) : List Nat := ps.map Prod.fst
@[simp] theorem pgsOf_nil : pgsOf [] = [] := rfl
@[simp] theorem pgsOf_cons (x : PN) (ps : List PN) : pgsOf (x :: ps) = x.1 :: pgsOf ps := rfl
@[simp] theorem pgsOf_append (a b : List PN) : pgsOf (a ++ b) = pgsOf a ++ pgsOf b := by simp [pgsOf]
/-! potentials -/
structure Pot where
 A : Nat
 c : Nat → Nat
 R : Nat
 h1 : A + 39 * c 1 ≤ R
 h2 : 2 * A ≤ R
 h3 : ∀ h, 1 ≤ h → A + 39 * c (h + 1) ≤ 72 * c h
 h4 : ∀ h, 1 ≤ h → 2 * A ≤ 72 * c h
def Pot.one (p : Pot) (x : PN) : Nat := p.A + if x.2.1 = 0 then 0 else p.c x.2.1 * (x.2.2 - 152)
def Pot.sum (p : Pot) : List PN → Nat
 | [] => 0
 | x :: ps => p.one x + p.sum ps
@[simp] theorem Pot.sum_nil (p : Pot) : p.sum [] = 0 := rfl
@[simp] theorem Pot.sum_cons (p : Pot) (x : PN) (ps : List PN) : p.sum (x :: ps) = p.one x + p.sum ps := rfl
@[simp] theorem Pot.sum_append (p : Pot) (a b : List PN) : p.sum (a ++ b) = p.sum a + p.sum b := by
 induction a with
 | nil => simp
 | cons x a ih => simp [ih]; omega
theorem Pot.leaf (p : Pot) (q b : Nat) : p.one (q, 0, b) = p.A := by simp [Pot.one]
theorem Pot.inner (p : Pot) (q d b : Nat) : p.one (q, d + 1, b) = p.A + p.c (d + 1) * (b - 152) := by simp [Pot.one]
theorem Pot.mono (p : Pot) (q q' d : Nat) {b b' : Nat} (h : b ≤ b') : p.one (q, d, b) ≤ p.one (q', d, b') := by
 cases d with
 | zero => simp [Pot.one]
 | succ d =>
  rw [p.inner, p.inner]
  have := Nat.mul_le_mul_left (p.c (d + 1)) (show b - 152 ≤ b' - 152 by omega)
  omega
theorem Pot.more (p : Pot) (q d : Nat) {b e : Nat} (h : e ≤ 39) : p.one (q, d + 1, b + e) ≤ p.one (q, d + 1, b) + 39 * p.c (d + 1) := by
 rw [p.inner, p.inner]
 have h1 := Nat.mul_le_mul_left (p.c (d + 1)) (show b + e - 152 ≤ (b - 152) + 39 by omega)
 rw [Nat.mul_add, Nat.mul_comm _ 39] at h1
 omega
/-! halves -/
def apart (l : List En) (i : Nat) : Nat := (2 * nB (l.take i) - nB l) + (nB l - 2 * nB (l.take i))
end
section
def Fm.more (f : Fm) (x : En) (r : Nat) : Nd := ⟨false, f.L.map Ch.en ++ f.hole :: ⟨x.key, [], r⟩ :: f.R.map Ch.en⟩
end
section
open Go.RowKit Go.Lib
theorem infEn : (Tryz.prog.info? 380).map (fun i => (i.zero, i.size, i.bytes)) = some (some (.agg #[.string ⟨#[]⟩, .string ⟨#[]⟩, .int .i64 0]), 3, 40) := by kernel_rfl
end
section
def fars (E : List En) : List Nat := (E.filter fun x => decide (0 ≤ x.far)).map fun x => x.far.toNat
@[simp] theorem fars_nil : fars [] = [] := rfl
@[simp] theorem fars_append (a b : List En) : fars (a ++ b) = fars a ++ fars b := by simp [fars]
/-! pairs by rising keys -/
abbrev KV := Bs × Bs
/-! a node's entries about a key -/
end
section
/-! how many pages -/
end
section
open Go.RowKit Go.Lib
abbrev Inf (e : TypeId) (z : Value) (size bytes : Nat) : Prop := (Tryz.prog.info? e).map (fun i => (i.zero, i.size, i.bytes)) = some (some z, size, bytes)
end
section
open Go.RowKit Go.Lib
theorem infInt : Inf 3 (.int .i64 0) 1 8 := inf3
end
section
def wpC (P : Program) (ops : Array Oper) (C : World → Prop) (Q : Act → Prop) (rest : List Oper) (a : Act) : Prop := wpQuiet P ops C Q rest a
theorem wpC_step {P : Program} {ops : Array Oper} {C : World → Prop} {Q : Act → Prop} {a : Act} {o : Oper} {rest : List Oper}
  (h : ∀ K : Act → Prop, (∀ a, wpC P ops C Q rest a → K a) → if Region.wanted o (yielded ops a.tmps) then o.quiet P a C K else K (a.put o.dst undef)) : wpC P ops C Q (o :: rest) a :=
 wpQuiet_step h
section
variable {P : Program} {l : List Oper} {C : World → Prop} {Q : Act → Prop} {a : Act} {o : Oper} {rest : List Oper}
theorem qC_want (hw : Region.wanted o (yielded l.toArray a.tmps) = true)
  (h : ∀ K : Act → Prop, (∀ a, wpC P l.toArray C Q rest a → K a) → ∃ v, (∀ w, C w → o.quietAt P a C w v) ∧ K (a.put o.dst v)) : wpC P l.toArray C Q (o :: rest) a :=
 wpC_step fun K hK => by rw [if_pos hw]; exact h K hK
theorem qC_pass (hw : Region.wanted o (yielded l.toArray a.tmps) = false)
  (h : ∀ K : Act → Prop, (∀ a, wpC P l.toArray C Q rest a → K a) → K (a.put o.dst undef)) : wpC P l.toArray C Q (o :: rest) a :=
 wpC_step fun K hK => by rw [if_neg (by rw [hw]; exact Bool.false_ne_true)]; exact h K hK
theorem qC_none (hg : o.guard = none)
  (h : ∀ K : Act → Prop, (∀ a, wpC P l.toArray C Q rest a → K a) → ∃ v, (∀ w, C w → o.quietAt P a C w v) ∧ K (a.put o.dst v)) : wpC P l.toArray C Q (o :: rest) a :=
 qC_want (by unfold Region.wanted; rw [hg]) h
theorem qwanted_of (j : Nat) (want : Bool) (d : Tmp) (b : Bool) (hg : o.guard = some (j, want)) (hd : (l[j]?).bind (·.dst) = some d)
  (hv : a.tmps.toList[d]? = some (.bool b)) : Region.wanted o (yielded l.toArray a.tmps) = (b == want) := by
 unfold Region.wanted yielded
 rw [hg]
 have h1 : l.toArray[j]? = l[j]? := by simp
 have h2 : a.tmps[d]? = a.tmps.toList[d]? := by simp
 simp only [h1, hd, Option.bind_some, h2, hv]
 cases b <;> cases want <;> rfl
theorem qC_yes (j : Nat) (want : Bool) (d : Tmp) (hg : o.guard = some (j, want)) (hd : (l[j]?).bind (·.dst) = some d) (hv : a.tmps.toList[d]? = some (.bool want))
  (h : ∀ K : Act → Prop, (∀ a, wpC P l.toArray C Q rest a → K a) → ∃ v, (∀ w, C w → o.quietAt P a C w v) ∧ K (a.put o.dst v)) : wpC P l.toArray C Q (o :: rest) a :=
 qC_want (by rw [qwanted_of j want d _ hg hd hv]; cases want <;> rfl) h
theorem qC_no (j : Nat) (want : Bool) (d : Tmp) (hg : o.guard = some (j, want)) (hd : (l[j]?).bind (·.dst) = some d) (hv : a.tmps.toList[d]? = some (.bool !want))
  (h : ∀ K : Act → Prop, (∀ a, wpC P l.toArray C Q rest a → K a) → K (a.put o.dst undef)) : wpC P l.toArray C Q (o :: rest) a :=
 qC_pass (by rw [qwanted_of j want d _ hg hd hv]; cases want <;> rfl) h
theorem qC_undef (j : Nat) (want : Bool) (d : Tmp) (hg : o.guard = some (j, want)) (hd : (l[j]?).bind (·.dst) = some d) (hv : a.tmps.toList[d]? = some undef)
  (h : ∀ K : Act → Prop, (∀ a, wpC P l.toArray C Q rest a → K a) → K (a.put o.dst undef)) : wpC P l.toArray C Q (o :: rest) a :=
 qC_pass (by
  unfold Region.wanted yielded
  rw [hg]
  have h1 : l.toArray[j]? = l[j]? := by simp
  have h2 : a.tmps[d]? = a.tmps.toList[d]? := by simp
  simp only [h1, hd, Option.bind_some, h2, hv]
  cases want <;> rfl) h
theorem qC_region {id : Nat} {Q : Exit → Act → World → Prop} {w : World} (hm : P.follows .mixedOrders = true) (hB : Region.lexB .any l.toArray = true) (C : World → Prop) (hC : C w.drew)
  (h : wpC P l.toArray C (fun a' => ∀ w', C w' → Q .normal a' w') l a) : (Code.region id l.toArray true).wp P Q a w :=
 wp_region_quiet (C := C) hm hB hC (by have h : wpQuiet P l.toArray C _ l a := h; simpa using h)
theorem qC_nil (h : Q a) : wpC P l.toArray C Q [] a := h
end
attribute [irreducible] wpC
end
section
open Go.RowKit Go.Lib
abbrev putR (n : Nd) : Value := ofR (recs n)
end
section
open Go.RowKit Go.Lib
def setL (l : List Value) (o : Nat) (vs : List Value) : List Value := l.take o ++ vs ++ l.drop (o + vs.length)
theorem setL_length {l : List Value} {o : Nat} {vs : List Value} (h : o + vs.length ≤ l.length) : (setL l o vs).length = l.length := by
 simp [setL]; omega
theorem setL_cons (l : List Value) (o : Nat) (v : Value) (r : List Value) (h : o < l.length) : setL (l.set o v) (o + 1) r = setL l o (v :: r) := by
 unfold setL
 have e1 : (l.set o v).take (o + 1) = l.take o ++ [v] := by
  rw [List.take_succ_eq_append_getElem (by simpa using h)]
  simp [List.take_set_of_le]
 have e2 : (l.set o v).drop (o + 1 + r.length) = l.drop (o + (v :: r).length) := by
  rw [List.drop_set_of_lt (by omega)]
  congr 1
  simp; omega
 rw [e1, e2]
 simp
theorem heap_setCellsL (g : Nat) (T : TypeId) (fz : Nat × Nat) : ∀ (vs : List Value) (o : Nat) (w : World) (cur : Array Value), w.heap[g]? = some (.cells cur T fz) → o + vs.length ≤ cur.size →
  (w.setCells g o vs).heap[g]? = some (.cells (setL cur.toList o vs).toArray T fz)
 | [], o, w, cur, h, _ => by
  show w.heap[g]? = _
  rw [h]
  simp [setL]
 | v :: r, o, w, cur, h, hle => by
  have hle2 : o + 1 + r.length ≤ cur.size := by simpa [Nat.add_assoc, Nat.add_comm 1] using hle
  have h1 : (w.setCell ⟨g, o, none⟩ v).heap[g]? = some (.cells (cur.setIfInBounds o v) T fz) := by
   simp [World.setCell, Array.getElem?_modify, h]
  have := heap_setCellsL g T fz r (o + 1) (w.setCell ⟨g, o, none⟩ v) (cur.setIfInBounds o v) h1 (by simpa using hle2)
  show ((w.setCell ⟨g, o, none⟩ v).setCells g (o + 1) r).heap[g]? = _
  rw [this]
  rw [Array.toList_setIfInBounds, setL_cons _ _ _ _ (by simp; omega)]
end
section
open Go.RowKit Go.Lib
theorem wp_copyR {P : Program} (w : World) {o : Oper} {a : Act} {K : Act → World → Prop} {Q : Exit → Act → World → Prop} (d s : Operand) (t t' : TypeId)
  (ho : o.op = .call { callee := .builtin .copy, args := #[d, s], argTypes := #[t, t'] }) (v u : Value) (hd : a.eval d = v) (hs : a.eval s = u) {v' : Value} {w' : World}
  (hr : (Builtin.copy_ #[t, t'] o.type #[v, u]).run P w = .ok v' w') (h : K (a.put o.dst v') w') : o.wp P a w K Q := by
 unfold Oper.wp execOp
 simp only [ho, resolve, invoke, builtin, Sem.run_bind, Sem.run_pure, Result.andThen_ok, List.map_toArray, List.map_cons, List.map_nil, hd, hs, hr]
 exact h
theorem wpL_copyR {P : Program} (w : World) {ops : Array Oper} {rest : List Oper} {o : Oper} {a : Act} {Q : Exit → Act → World → Prop} (hgd : o.guard = none) (d s : Operand) (t t' : TypeId)
  (ho : o.op = .call { callee := .builtin .copy, args := #[d, s], argTypes := #[t, t'] }) (v u : Value) (hd : a.eval d = v) (hs : a.eval s = u) {v' : Value} {w' : World}
  (hr : (Builtin.copy_ #[t, t'] o.type #[v, u]).run P w = .ok v' w') (h : wpList P ops Q rest (a.put o.dst v') w') : wpList P ops Q (o :: rest) a w :=
 wpList_plain hgd fun _ hK => wp_copyR w d s t t' ho v u hd hs hr (hK _ _ h)
theorem step_copyR {P : Program} {ops : Array Oper} {o : Oper} {a : Act} {w : World} {K : Act → World → Prop} {Q : Exit → Act → World → Prop} {E : Prop}
  (hg : o.guard = none) (d x : Operand) (dT sT : TypeId) (hop : o.op = Op.call { callee := Callee.builtin Builtin.copy, args := #[d, x], argTypes := #[dT, sT] })
  (v u : Value) (hd : a.eval d = v) (hx : a.eval x = u) {v' : Value} {w' : World} (hr : (Builtin.copy_ #[dT, sT] o.type #[v, u]).run P w = .ok v' w') (hK : K (a.put o.dst v') w') :
  if Region.wanted o (yielded ops a.tmps) = true then Oper.wp P o a w K Q else E := by
 have hw : Region.wanted o (yielded ops a.tmps) = true := by simp [Region.wanted, hg]
 rw [if_pos hw]
 unfold Oper.wp
 simp [execOp, hop, resolve, invoke, builtin, hd, hx, hr, Result.andThen]
 exact hK
theorem run_copy3 (w : World) (ty : TypeId) (b o dLen dCap : Nat) (a : Addr) (sLen sCap : Nat) (cs : List Value) (m : Nat) (hm : m = Nat.min sLen dLen) (hn : cs.length = m * 3)
  (hsrc : ∀ j v, cs[j]? = some v → w.cell? (a.add j) = some v) (hc : ∀ j, j < cs.length → (w.cell? ⟨b, o + j, none⟩).isSome = true) (hf : ∀ j, j < cs.length → w.frozen? ⟨b, o + j, none⟩ = false) (h1 : ∀ v ∈ cs, v.oneCell' = true) :
  (Builtin.copy_ #[372, 372] ty #[.slice (some ⟨b, o, none⟩) dLen dCap, .slice (some a) sLen sCap]).run Tryz.prog w = .ok (goInt m) (w.setCells b o cs) := by
 obtain ⟨i0, hi0, hz0, hz1, hz2⟩ := info_parts infEn
 have hl := run_firstCells_some (P := Tryz.prog) w 3 m a sLen sCap cs hn hsrc
 have hst := run_storeCells_cells (P := Tryz.prog) b o cs 0 w (by simpa using hc) (by simpa using hf) h1
 simp only [Nat.add_zero] at hst
 simp [Builtin.copy_, run_underlying Tryz.underlying372, Builtin.lenOf, sizeOf, typeInfo, hi0, hz1, ← hm, hl, hst]
end
section
open Go.RowKit Go.Lib
theorem two_lay {cur A X R : List Value} {i n c : Nat} (hc : cur.length = c * 3) (hA : cur.take (i * 3) = A) (hX : X.length = 3) (hR : R.length = (n - i) * 3) (hi : i ≤ n) (hn : n + 1 ≤ c) :
  (setL (setL cur (i * 3) X) ((i + 1) * 3) R).take ((n + 1) * 3) = A ++ X ++ R := by
 have hAl : A.length = i * 3 := by rw [← hA, List.length_take]; omega
 have e1 : setL cur (i * 3) X = A ++ X ++ cur.drop (i * 3 + X.length) := by unfold setL; rw [hA]
 have hAX : (A ++ X).length = (i + 1) * 3 := by rw [List.length_append]; omega
 have e2 : (A ++ X ++ cur.drop (i * 3 + X.length)).take ((i + 1) * 3) = A ++ X := by rw [← hAX, List.take_left]
 rw [e1]
 unfold setL
 rw [e2]
 rw [List.take_append_of_le_length (by simp only [List.length_append] at hAX ⊢; omega), List.take_of_length_le (by simp only [List.length_append] at hAX ⊢; omega)]
theorem two_lay' {cur A X R : List Value} {i n c : Nat} (hc : cur.length = c * 3) (hA : cur.take (i * 3) = A) (hX : X.length = 3) (hR : R.length = (n - i) * 3) (hi : i ≤ n) (hn : n + 1 ≤ c) :
  (setL (setL cur ((i + 1) * 3) R) (i * 3) X).take ((n + 1) * 3) = A ++ X ++ R := by
 have hAl : A.length = i * 3 := by rw [← hA, List.length_take]; omega
 unfold setL
 have e1 : (cur.take ((i + 1) * 3) ++ R ++ cur.drop ((i + 1) * 3 + R.length)).take (i * 3) = A := by
  rw [List.append_assoc, List.take_append_of_le_length (by rw [List.length_take]; omega), List.take_take, Nat.min_eq_left (by omega), hA]
 have e2 : (cur.take ((i + 1) * 3) ++ R ++ cur.drop ((i + 1) * 3 + R.length)).drop (i * 3 + X.length) = R ++ cur.drop ((i + 1) * 3 + R.length) := by
  have : i * 3 + X.length = (cur.take ((i + 1) * 3)).length := by rw [List.length_take]; omega
  rw [List.append_assoc, this, List.drop_left]
 rw [e1, e2, ← List.append_assoc]
 rw [List.take_append_of_le_length (by simp only [List.length_append]; omega), List.take_of_length_le (by simp only [List.length_append]; omega)]
end
section
open Go.RowKit Go.Lib
theorem kp_isSome {w : World} {g o : Nat} {vs : List Value} (h : ∀ j, j < vs.length → (w.cell? ⟨g, o + j, none⟩).isSome = true) (k : Nat) (hk : (w.cell? ⟨g, k, none⟩).isSome = true) : ((w.setCells g o vs).cell? ⟨g, k, none⟩).isSome = true := by
 by_cases hin : o ≤ k ∧ k < o + vs.length
 ·have := World.cell?_setCells_in g vs o w h (k - o) (by omega)
  rw [show o + (k - o) = k by omega] at this
  rw [this]
  have : k - o < vs.length := by omega
  simp [this]
 ·rw [World.cell?_setCells_out g vs o w ⟨g, k, none⟩ (fun _ _ => by show k < o ∨ o + vs.length ≤ k; omega)]
  exact hk
theorem zc_size (n : Nat) : (Builtin.zeroCells (Value.agg #[.string ⟨#[]⟩, .string ⟨#[]⟩, .int .i64 0]).cells n).size = n * 3 := by
 simp [Builtin.zeroCells, Value.cells]
end
section
open Go.RowKit Go.Lib
structure St where
 page : Nat
 n : Nd
 v : Value
 at_ : Nat
end
end Go.Proofs.YtfkoaooceickiaaGreat
