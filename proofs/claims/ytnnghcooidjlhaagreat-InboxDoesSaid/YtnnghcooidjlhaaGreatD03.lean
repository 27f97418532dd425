/- Parts of the proof: Fl Mc Q Fs Mk Ml. -/
import GoSem.Core.Float
import Derived.Deep.Quiet
import Derived.Deep.QuietTactic
import Derived.Tactics2
import Derived.KernelRfl
import Derived.WalkKit
import Derived.WalkSpells
import Derived.WalkLawsBesides
import Derived.Lib.Hide
import Derived.Test.YtnnghcooidjlhaaGreatD01
import Derived.Test.YtnnghcooidjlhaaGreatD02
set_option linter.all false
set_option maxRecDepth 100000
namespace Go.Proofs.YtnnghcooidjlhaaGreat
section
open Ieee
def ford (x y : Nat) : Option Ordering := FloatKind.f64.format.order x y
def fnan (x : Nat) : Bool := ford x x != some .eq
theorem f64_sw : Ieee.double.signWeight = 9223372036854775808 := by decide
theorem f64_bi : Ieee.double.binade = 4503599627370496 := by decide
theorem f64_ir : Ieee.double.infRung = 9218868437227405312 := by decide
theorem f64_lp : Ieee.double.leastPlace = -1074 := by decide
def rval (r : Nat) : Nat := if r < 4503599627370496 then r else (4503599627370496 + r % 4503599627370496) * 2 ^ (r / 4503599627370496 - 1)
theorem rval_succ (r : Nat) : rval r < rval (r + 1) := by
 unfold rval
 generalize hB : 4503599627370496 = B
 have hB0 : 0 < B := by omega
 by_cases h1 : r + 1 < B
 ·rw [if_pos (by omega), if_pos h1]; omega
 ·rw [if_neg h1]
  by_cases h2 : r < B
  ·have h3 : r + 1 = B := by omega
   rw [if_pos h2, h3]
   simp [Nat.div_self hB0]
   omega
  ·rw [if_neg h2]
   have hd := Nat.div_add_mod r B
   have hd' := Nat.div_add_mod (r + 1) B
   have hm := Nat.mod_lt r hB0
   have hm' := Nat.mod_lt (r + 1) hB0
   by_cases h4 : r % B + 1 < B
   ·have e1 : (r + 1) / B = r / B := by
     have : r + 1 = B * (r / B) + (r % B + 1) := by omega
     rw [this, Nat.mul_add_div hB0, Nat.div_eq_of_lt h4]; simp
    have e2 : (r + 1) % B = r % B + 1 := by
     have : r + 1 = B * (r / B) + (r % B + 1) := by omega
     rw [this, Nat.mul_add_mod, Nat.mod_eq_of_lt h4]
    rw [e1, e2]
    have hp : 0 < 2 ^ (r / B - 1) := Nat.two_pow_pos _
    exact Nat.mul_lt_mul_of_pos_right (by omega) hp
   ·have h5 : r % B + 1 = B := by omega
    have h6 : r + 1 = B * (r / B + 1) := by rw [Nat.mul_add]; omega
    have e1 : (r + 1) / B = r / B + 1 := by rw [h6, Nat.mul_div_cancel_left _ hB0]
    have e2 : (r + 1) % B = 0 := by rw [h6, Nat.mul_mod_right]
    rw [e1, e2]
    have hq : 1 ≤ r / B := (Nat.le_div_iff_mul_le hB0).2 (by omega)
    have e3 : r / B + 1 - 1 = (r / B - 1) + 1 := by omega
    rw [e3, Nat.pow_succ]
    have hp : 0 < 2 ^ (r / B - 1) := Nat.two_pow_pos _
    generalize 2 ^ (r / B - 1) = p at hp
    have : (B + r % B) * p < (B + B) * p := Nat.mul_lt_mul_of_pos_right (by omega) hp
    have e4 : (B + 0) * (p * 2) = (B + B) * p := by rw [Nat.add_zero, Nat.mul_comm p 2, ← Nat.mul_assoc, Nat.mul_two]
    omega
theorem rval_lt {r s : Nat} (h : r < s) : rval r < rval s := by
 induction s with
 | zero => omega
 | succ s ih =>
  rcases Nat.lt_or_ge r s with h1 | h1
  ·exact Nat.lt_trans (ih h1) (rval_succ s)
  ·have : r = s := by omega
   subst this; exact rval_succ r
theorem rval_zero : rval 0 = 0 := by simp [rval]
def fkey (x : Nat) : Int := if x / 9223372036854775808 % 2 == 1 then -((x % 9223372036854775808 : Nat) : Int) else ((x % 9223372036854775808 : Nat) : Int)
def frung (x : Nat) : Nat := x % 9223372036854775808
theorem read_num {x : Nat} (h : frung x < 9218868437227405312) :
  ∃ m i, Ieee.double.read x = .number (x / 9223372036854775808 % 2 == 1) m i ∧ -1074 ≤ i ∧ m * 2 ^ (i + 1074).toNat = rval (frung x) := by
 unfold frung at *
 simp only [Format.read, f64_sw, f64_bi, f64_ir, f64_lp]
 generalize x % 9223372036854775808 = r at *
 by_cases h1 : r < 4503599627370496
 ·refine ⟨r, -1074, by rw [if_pos h1], by omega, ?_⟩
  unfold rval; rw [if_pos h1]; simp
 ·refine ⟨4503599627370496 + r % 4503599627370496, -1074 + (r / 4503599627370496 - 1 : Nat), by rw [if_neg h1, if_pos h], by omega, ?_⟩
  unfold rval; rw [if_neg h1]
  congr 2
  omega
theorem read_inf {x : Nat} (h : frung x = 9218868437227405312) : Ieee.double.read x = .infinity (x / 9223372036854775808 % 2 == 1) := by
 unfold frung at *
 simp only [Format.read, f64_sw, f64_bi, f64_ir, f64_lp]
 rw [h]; simp
theorem read_nan {x : Nat} (h : 9218868437227405312 < frung x) : ∃ t, Ieee.double.read x = .nan (x / 9223372036854775808 % 2 == 1) t := by
 unfold frung at *
 simp only [Format.read, f64_sw, f64_bi, f64_ir, f64_lp]
 generalize x % 9223372036854775808 = r at *
 exact ⟨_, by rw [if_neg (by omega), if_neg (by omega), if_neg (by omega)]⟩
theorem signed_scale (s : Bool) (m k : Nat) : signed s m k = if s then -((m * 2 ^ k : Nat) : Int) else ((m * 2 ^ k : Nat) : Int) := by
 simp [signed, Nat.shiftLeft_eq]
def sg (s : Bool) (n : Nat) : Int := if s then -(n : Int) else n
theorem cmp_scale (a b : Int) (k : Nat) : compare (a * 2 ^ k) (b * 2 ^ k) = compare a b := by
 have hp : (0 : Int) < 2 ^ k := Int.pow_pos (by decide)
 simp only [compare, compareOfLessAndEq]
 have h1 : a * 2 ^ k < b * 2 ^ k ↔ a < b := Int.mul_lt_mul_right hp
 have h2 : a * 2 ^ k = b * 2 ^ k ↔ a = b := ⟨fun h => Int.eq_of_mul_eq_mul_right (by omega) h, fun h => by rw [h]⟩
 simp only [h1, h2]
theorem sg_mul (s : Bool) (m k : Nat) : sg s (m * 2 ^ k) = sg s m * 2 ^ k := by
 cases s <;> simp [sg, Int.neg_mul]
theorem cmp_sg {s t : Bool} {r q : Nat} : compare (sg s (rval r)) (sg t (rval q)) = compare (sg s r) (sg t q) := by
 have key : ∀ a b : Nat, (rval a < rval b ↔ a < b) := fun a b => ⟨fun h => by
  rcases Nat.lt_or_ge a b with h1 | h1
  ·exact h1
  ·rcases Nat.lt_or_ge b a with h2 | h2
   ·have := rval_lt h2; omega
   ·have : a = b := by omega
    subst this; omega, rval_lt⟩
 have keq : ∀ a b : Nat, (rval a = rval b ↔ a = b) := fun a b => ⟨fun h => by
  rcases Nat.lt_trichotomy a b with h1 | h1 | h1
  ·have := rval_lt h1; omega
  ·exact h1
  ·have := rval_lt h1; omega, fun h => by rw [h]⟩
 have h0 := rval_zero
 have k1 := key r q
 have k2 := key q r
 have k3 := key 0 r
 have k4 := key 0 q
 have e1 := keq r q
 rw [h0] at k3 k4
 simp only [compare, compareOfLessAndEq]
 have l : (sg s (rval r) < sg t (rval q)) ↔ (sg s r < sg t q) := by
  cases s <;> cases t <;> simp [sg] <;> omega
 have e : (sg s (rval r) = sg t (rval q)) ↔ (sg s r = sg t q) := by
  cases s <;> cases t <;> simp [sg] <;> omega
 simp only [l, e]
theorem cmp_lt {a b : Int} (h : a < b) : compare a b = .lt := by simp [compare, compareOfLessAndEq, h]
theorem cmp_gt {a b : Int} (h : b < a) : compare a b = .gt := by
 have h1 : ¬ a < b := by omega
 have h2 : ¬ a = b := by omega
 simp [compare, compareOfLessAndEq, h1, h2]
theorem cmp_eq {a b : Int} (h : a = b) : compare a b = .eq := by subst h; simp [compare, compareOfLessAndEq]
theorem order_num (s t : Bool) (m n : Nat) (i j : Int) (hi : -1074 ≤ i) (hj : -1074 ≤ j) :
  Datum.order (.number s m i) (.number t n j) = some (compare (sg s (m * 2 ^ (i + 1074).toNat)) (sg t (n * 2 ^ (j + 1074).toNat))) := by
 simp only [Datum.order, signed_scale]
 have hb : -1074 ≤ min i j := by omega
 have e1 : (i + 1074).toNat = (i - min i j).toNat + (min i j + 1074).toNat := by omega
 have e2 : (j + 1074).toNat = (j - min i j).toNat + (min i j + 1074).toNat := by omega
 rw [e1, e2, Nat.pow_add, Nat.pow_add, ← Nat.mul_assoc, ← Nat.mul_assoc, sg_mul s (m * 2 ^ _), sg_mul t (n * 2 ^ _), cmp_scale]
 rfl
theorem order_key {x y : Nat} (hx : frung x ≤ 9218868437227405312) (hy : frung y ≤ 9218868437227405312) : ford x y = some (compare (fkey x) (fkey y)) := by
 unfold ford FloatKind.format Format.order
 have kx : fkey x = sg (x / 9223372036854775808 % 2 == 1) (frung x) := rfl
 have ky : fkey y = sg (y / 9223372036854775808 % 2 == 1) (frung y) := rfl
 rw [kx, ky]
 rcases Nat.lt_or_ge (frung x) 9218868437227405312 with h1 | h1 <;> rcases Nat.lt_or_ge (frung y) 9218868437227405312 with h2 | h2
 ·obtain ⟨m, i, e1, hi, v1⟩ := read_num h1
  obtain ⟨n, j, e2, hj, v2⟩ := read_num h2
  rw [e1, e2, order_num _ _ _ _ _ _ hi hj, v1, v2, cmp_sg]
 ·obtain ⟨m, i, e1, hi, v1⟩ := read_num h1
  have h3 : frung y = 9218868437227405312 := by omega
  rw [e1, read_inf h3, h3]
  generalize (x / 9223372036854775808 % 2 == 1) = s
  generalize (y / 9223372036854775808 % 2 == 1) = t
  cases t
  ·rw [cmp_lt (by cases s <;> simp [sg] <;> omega)]; rfl
  ·rw [cmp_gt (by cases s <;> simp [sg] <;> omega)]; rfl
 ·obtain ⟨n, j, e2, hj, v2⟩ := read_num h2
  have h3 : frung x = 9218868437227405312 := by omega
  rw [e2, read_inf h3, h3]
  generalize (x / 9223372036854775808 % 2 == 1) = s
  generalize (y / 9223372036854775808 % 2 == 1) = t
  cases s
  ·rw [cmp_gt (by cases t <;> simp [sg] <;> omega)]; rfl
  ·rw [cmp_lt (by cases t <;> simp [sg] <;> omega)]; rfl
 ·have h3 : frung x = 9218868437227405312 := by omega
  have h4 : frung y = 9218868437227405312 := by omega
  rw [read_inf h3, read_inf h4, h3, h4]
  generalize (x / 9223372036854775808 % 2 == 1) = s
  generalize (y / 9223372036854775808 % 2 == 1) = t
  cases s <;> cases t <;> decide
theorem order_nan_l {x : Nat} (hx : 9218868437227405312 < frung x) (y : Nat) : ford x y = none := by
 unfold ford FloatKind.format Format.order
 obtain ⟨t, e⟩ := read_nan hx
 rw [e]; rfl
theorem fnan_iff (x : Nat) : fnan x = true ↔ 9218868437227405312 < frung x := by
 unfold fnan
 constructor
 ·intro h
  rcases Nat.lt_or_ge 9218868437227405312 (frung x) with h1 | h1
  ·exact h1
  ·rw [order_key h1 h1, cmp_eq rfl] at h; cases h
 ·intro h; rw [order_nan_l h]; rfl
theorem fnan_false {x : Nat} (h : fnan x = false) : frung x ≤ 9218868437227405312 := by
 rcases Nat.lt_or_ge 9218868437227405312 (frung x) with h1 | h1
 ·rw [(fnan_iff x).2 h1] at h; cases h
 ·exact h1
theorem ford_key {x y : Nat} (hx : fnan x = false) (hy : fnan y = false) : ford x y = some (compare (fkey x) (fkey y)) := order_key (fnan_false hx) (fnan_false hy)
theorem ford_nan_l {x : Nat} (hx : fnan x = true) (y : Nat) : ford x y = none := order_nan_l ((fnan_iff x).1 hx) y
def flt (x y : Nat) : Bool := ford x y == some .lt
def fgt (x y : Nat) : Bool := ford x y == some .gt
def feq (x y : Nat) : Bool := ford x y == some .eq
def fge (x y : Nat) : Bool := ford x y == some .gt || ford x y == some .eq
def fle (x y : Nat) : Bool := ford x y == some .lt || ford x y == some .eq
section
variable {x y : Nat} (hx : fnan x = false) (hy : fnan y = false)
include hx hy
theorem feq_key : feq x y = decide (fkey x = fkey y) := by
 unfold feq; rw [ford_key hx hy, Bool.eq_iff_iff]; simp
end
end
section
structure Ev where
 t : Nat
 src : Int
 n : Int
 dst : Int
 pay : Int
deriving DecidableEq
def Ev.right (e : Ev) : Prop := fnan e.t = false ∧ -1 ≤ e.src ∧ e.src < 6 ∧ 0 ≤ e.n ∧ e.n ≤ 1099511627776 ∧ 0 ≤ e.dst ∧ e.dst < 6
instance (e : Ev) : Decidable e.right := by unfold Ev.right; infer_instance
def Ev.ok (e : Ev) : Prop := e.t < 18446744073709551616 ∧ (-9223372036854775808 ≤ e.src ∧ e.src < 9223372036854775808) ∧ (-9223372036854775808 ≤ e.n ∧ e.n < 9223372036854775808) ∧ (-9223372036854775808 ≤ e.dst ∧ e.dst < 9223372036854775808) ∧ (-9223372036854775808 ≤ e.pay ∧ e.pay < 9223372036854775808)
def tn (x : Nat) : Nat := if x = 9223372036854775808 then 0 else x
def tkey (x : Nat) : Nat := if tn x < 9223372036854775808 then tn x + 9223372036854775808 else 18446744073709551615 - tn x
def unT (b : Nat) : Nat := if b < 9223372036854775808 then 18446744073709551615 - b else b - 9223372036854775808
theorem tn_lt {x : Nat} (h : x < 18446744073709551616) : tn x < 18446744073709551616 := by unfold tn; split <;> omega
theorem tkey_lt {x : Nat} (h : x < 18446744073709551616) : tkey x < 18446744073709551616 := by
 have := tn_lt h
 unfold tkey; split <;> omega
theorem tn_tn (x : Nat) : tn (tn x) = tn x := by unfold tn; split <;> simp_all
theorem tn_ne (x : Nat) : tn x ≠ 9223372036854775808 := by unfold tn; split <;> simp_all
theorem unT_tk {x : Nat} (h : x < 18446744073709551616) : unT (tkey x) = tn x := by
 have := tn_lt h
 have := tn_ne x
 unfold unT tkey
 by_cases h1 : tn x < 9223372036854775808
 ·rw [if_pos h1, if_neg (by omega)]; omega
 ·rw [if_neg h1, if_pos (by omega)]; omega
theorem tk_tn (x : Nat) : tkey (tn x) = tkey x := by unfold tkey; rw [tn_tn]
theorem fnan_tn (x : Nat) : fnan (tn x) = fnan x := by
 unfold tn
 split
 ·next h => subst h; decide
 ·rfl
def timeB (x : Nat) : Bs := be 8 (tkey x)
@[simp] theorem timeB_length (x : Nat) : (timeB x).length = 8 := by simp [timeB]
theorem unbe_timeB {x : Nat} (h : x < 18446744073709551616) : unbe (timeB x) = tkey x := by
 unfold timeB
 rw [unbe_be, Nat.mod_eq_of_lt (by have := tkey_lt h; omega)]
theorem timeB_tn (x : Nat) : timeB (tn x) = timeB x := by unfold timeB; rw [tk_tn]
def oneB (n : Int) : Bs := [UInt8.ofNat n.toNat]
@[simp] theorem oneB_length (n : Int) : (oneB n).length = 1 := rfl
def keyB (e : Ev) : Bs := timeB e.t ++ oneB (e.src + 1) ++ encI e.n ++ encI e.pay
def evB (e : Ev) : Bs := timeB e.t ++ oneB (e.src + 1) ++ encI e.n ++ oneB e.dst ++ encI e.pay
@[simp] theorem keyB_length (e : Ev) : (keyB e).length = 25 := by simp [keyB]
@[simp] theorem evB_length (e : Ev) : (evB e).length = 26 := by simp [evB]
def Ev.nrm (e : Ev) : Ev := { e with t := tn e.t }
theorem Ev.nrm_right {e : Ev} (h : e.right) : e.nrm.right := by
 unfold Ev.right Ev.nrm at *
 simp only [fnan_tn]
 exact h
theorem Ev.nrm_ok {e : Ev} (h : e.ok) : e.nrm.ok := by
 unfold Ev.ok Ev.nrm at *
 exact ⟨tn_lt h.1, h.2⟩
theorem Ev.nrm_nrm (e : Ev) : e.nrm.nrm = e.nrm := by simp [Ev.nrm, tn_tn]
theorem keyB_nrm (e : Ev) : keyB e.nrm = keyB e := by simp [keyB, Ev.nrm, timeB_tn]
theorem mid_eq {a b c : Bs} {n m : Nat} (ha : a.length = n) (hb : b.length = m) : ((a ++ b ++ c).drop n).take m = b := by
 subst ha hb
 rw [List.append_assoc, List.drop_left, List.take_left]
def unKey (k : Bs) (dst : Int) : Ev := ⟨unT (unbe (k.take 8)), ((k.getD 8 0).toNat : Int) - 1, (unbe ((k.drop 9).take 8) : Int) - 9223372036854775808, dst, (unbe ((k.drop 17).take 8) : Int) - 9223372036854775808⟩
theorem unKey_keyB {e : Ev} (h : e.right) (ho : e.ok) : unKey (keyB e) e.dst = e.nrm := by
 obtain ⟨h1, h2, h3, h4, h5, h6, h7⟩ := h
 obtain ⟨o1, o2, o3, o4, o5⟩ := ho
 have e1 : (keyB e).take 8 = timeB e.t := by unfold keyB; simp [List.take_append]
 have e2 : (keyB e).getD 8 0 = UInt8.ofNat (e.src + 1).toNat := by unfold keyB; simp [List.getD, List.getElem?_append, oneB]
 have e3 : ((keyB e).drop 9).take 8 = encI e.n := mid_eq (by simp) (by simp)
 have e4 : ((keyB e).drop 17).take 8 = encI e.pay := by
  have := mid_eq (a := timeB e.t ++ oneB (e.src + 1) ++ encI e.n) (b := encI e.pay) (c := []) (n := 17) (m := 8) (by simp) (by simp)
  rwa [List.append_nil] at this
 unfold unKey
 rw [e1, e2, e3, e4, unbe_timeB o1, unT_tk o1, unbe_encI o3.1 o3.2, unbe_encI o5.1 o5.2]
 unfold Ev.nrm
 have : ((UInt8.ofNat (e.src + 1).toNat).toNat : Int) = e.src + 1 := by simp; omega
 rw [this]
 congr 1 <;> omega
theorem keyB_inj {e e' : Ev} (h : e.right) (ho : e.ok) (h' : e'.right) (ho' : e'.ok) (hd : e.dst = e'.dst) (hk : keyB e = keyB e') : e.nrm = e'.nrm := by
 rw [← unKey_keyB h ho, ← unKey_keyB h' ho', hk, hd]
def msgB (e : Ev) (anti : Bool) : Bs := (if anti then [1] else [0]) ++ evB e
@[simp] theorem msgB_length (e : Ev) (a : Bool) : (msgB e a).length = 27 := by cases a <;> simp [msgB]
structure Sta where
 words : List Int
 sent : Int
 dice : Int
def Sta.right (s : Sta) : Prop := s.words.length ≤ 8 ∧ 0 ≤ s.sent ∧ s.sent ≤ 1099511627776 ∧ 0 ≤ s.dice ∧ s.dice ≤ 1099511627776
instance (e : Sta) : Decidable e.right := by unfold Sta.right; infer_instance
def wordsB (l : List Int) : Bs := l.flatMap encI
@[simp] theorem wordsB_length (l : List Int) : (wordsB l).length = 8 * l.length := by
 induction l with
 | nil => rfl
 | cons x t ih => simp [wordsB] at ih ⊢; omega
def staB (s : Sta) : Bs := oneB s.words.length ++ wordsB s.words ++ encI s.sent ++ encI s.dice
@[simp] theorem staB_length (s : Sta) : (staB s).length = 17 + 8 * s.words.length := by simp [staB]; omega
end
section
section
variable {P : Program} {ops : Array Oper} {C : World → Prop}
def vUpon (C : World → Prop) (V : Value → Prop) : Result Next → Prop
 | .ok (.value u) w' => C w' ∧ V u
 | .ok .skip w' => C w' ∧ V undef
 | _ => False
def vAt (P : Program) (o : Oper) (a : Act) (C : World → Prop) (V : Value → Prop) : Prop := ∀ w, C w → vUpon C V ((execOp a.eval o).run P w)
def vOne (P : Program) (o : Oper) (a : Act) (C : World → Prop) (next : Act → Prop) : Prop := ∃ V, vAt P o a C V ∧ ∀ v, V v → next (a.put o.dst v)
def wpV (P : Program) (ops : Array Oper) (C : World → Prop) (Q : Act → Prop) : List Oper → Act → Prop
 | [], a => Q a
 | o :: rest, a => if Region.wanted o (yielded ops a.tmps) then vOne P o a C (wpV P ops C Q rest) else wpV P ops C Q rest (a.put o.dst undef)
end
attribute [irreducible] wpV
end
section
open Go.RowKit
@[go_sem] theorem fold_eq (x y : Nat) : (FloatKind.f64.format.order x y == some Ordering.eq) = feq x y := rfl
@[go_sem] theorem fold_ne (x y : Nat) : (FloatKind.f64.format.order x y != some Ordering.eq) = !feq x y := rfl
@[go_sem] theorem fold_lt (x y : Nat) : (FloatKind.f64.format.order x y == some Ordering.lt) = flt x y := rfl
@[go_sem] theorem fold_gt (x y : Nat) : (FloatKind.f64.format.order x y == some Ordering.gt) = fgt x y := rfl
@[go_sem] theorem fold_ge (x y : Nat) : (fgt x y || feq x y) = fge x y := rfl
@[go_sem] theorem fold_le (x y : Nat) : (flt x y || feq x y) = fle x y := rfl
@[go_sem] theorem feq_self (x : Nat) : feq x x = !fnan x := by unfold feq fnan; simp [bne]
def fsub (x y : Nat) : Option Nat := FloatKind.f64.format.sub x y
def fadd (x y : Nat) : Option Nat := FloatKind.f64.format.add x y
def fmul (x y : Nat) : Option Nat := FloatKind.f64.format.mul x y
def nanW (w : World) (x y : Nat) : Nat := (Question.nanBits .f64 x y).cut (w.tape w.drawn (.nanBits .f64 x y))
theorem fnan_nanW (w : World) (x y : Nat) : fnan (nanW w x y) = true := by
 rw [fnan_iff]
 unfold nanW Question.cut frung
 simp only
 generalize w.tape w.drawn (.nanBits .f64 x y) = t
 have h1 : t % 2 < 2 := Nat.mod_lt _ (by omega)
 have h2 : t / 2 % (2 ^ 52 - 1) < 2 ^ 52 - 1 := Nat.mod_lt _ (by omega)
 generalize t % 2 = s at h1
 generalize t / 2 % (2 ^ 52 - 1) = m at h2
 omega
def orNan (w : World) (x y : Nat) : Option Nat → Nat
 | some r => r
 | none => nanW w x y
def draws : Option Nat → Nat
 | some _ => 0
 | none => 1
section
variable {P : Program} (w : World) (t : TypeId) (x y : Nat)
@[go_sem] theorem run_fsub : (binOp .sub t (.float .f64 x) (.float .f64 y)).run P w = .ok (.float .f64 (orNan w x y (fsub x y))) (w.drewN (draws (fsub x y))) := by
 cases h : fsub x y with
 | some r => have h' : FloatKind.f64.format.sub x y = some r := h
             simp [binOp, Op.floatArith, h', orNan, draws, World.drewN_zero]
 | none => have h' : FloatKind.f64.format.sub x y = none := h
           simp [binOp, Op.floatArith, h', orNan, draws, nanW, choose, Question.forced, Sem.run, World.drewN]
@[go_sem] theorem run_fadd : (binOp .add t (.float .f64 x) (.float .f64 y)).run P w = .ok (.float .f64 (orNan w x y (fadd x y))) (w.drewN (draws (fadd x y))) := by
 cases h : fadd x y with
 | some r => have h' : FloatKind.f64.format.add x y = some r := h
             simp [binOp, Op.floatArith, h', orNan, draws, World.drewN_zero]
 | none => have h' : FloatKind.f64.format.add x y = none := h
           simp [binOp, Op.floatArith, h', orNan, draws, nanW, choose, Question.forced, Sem.run, World.drewN]
@[go_sem] theorem run_fmul : (binOp .mul t (.float .f64 x) (.float .f64 y)).run P w = .ok (.float .f64 (orNan w x y (fmul x y))) (w.drewN (draws (fmul x y))) := by
 cases h : fmul x y with
 | some r => have h' : FloatKind.f64.format.mul x y = some r := h
             simp [binOp, Op.floatArith, h', orNan, draws, World.drewN_zero]
 | none => have h' : FloatKind.f64.format.mul x y = none := h
           simp [binOp, Op.floatArith, h', orNan, draws, nanW, choose, Question.forced, Sem.run, World.drewN]
end
@[go_sem] theorem run_store_float {P : Program} (w : World) (a : Addr) (m : Mode) (k : FloatKind) (b : Nat) : (store a (.float k b) m).run P w = stored P w a (.float k b) m := run_store P w a _ m rfl
def oLt : Option Nat → Nat → Bool
 | some r, z => flt r z
 | none, _ => false
def oGt : Option Nat → Nat → Bool
 | some r, z => fgt r z
 | none, _ => false
def oEq : Option Nat → Nat → Bool
 | some r, z => feq r z
 | none, _ => false
theorem flt_nan_l {x : Nat} (h : fnan x = true) (y : Nat) : flt x y = false := by unfold flt; rw [ford_nan_l h]; rfl
theorem fgt_nan_l {x : Nat} (h : fnan x = true) (y : Nat) : fgt x y = false := by unfold fgt; rw [ford_nan_l h]; rfl
theorem feq_nan_l {x : Nat} (h : fnan x = true) (y : Nat) : feq x y = false := by unfold feq; rw [ford_nan_l h]; rfl
@[go_sem] theorem flt_orNan (w : World) (x y z : Nat) (o : Option Nat) : flt (orNan w x y o) z = oLt o z := by
 cases o with
 | some r => rfl
 | none => exact flt_nan_l (fnan_nanW w x y) z
@[go_sem] theorem fgt_orNan (w : World) (x y z : Nat) (o : Option Nat) : fgt (orNan w x y o) z = oGt o z := by
 cases o with
 | some r => rfl
 | none => exact fgt_nan_l (fnan_nanW w x y) z
@[go_sem] theorem feq_orNan (w : World) (x y z : Nat) (o : Option Nat) : feq (orNan w x y o) z = oEq o z := by
 cases o with
 | some r => rfl
 | none => exact feq_nan_l (fnan_nanW w x y) z
@[go_sem] theorem fnan_orNan (w : World) (x y : Nat) (o : Option Nat) : fnan (orNan w x y o) = (match o with | some r => fnan r | none => true) := by
 cases o with
 | some r => rfl
 | none => exact fnan_nanW w x y
def detUpon (w : World) (v : Value) : Result Next → Prop
 | .ok (.value u) w' => w' = w ∧ u = v
 | .ok .skip w' => w' = w ∧ undef = v
 | _ => False
def detOne (P : Program) (o : Oper) (a : Act) (w : World) (next : Act → Prop) : Prop := ∃ v, (∀ n, detUpon (w.drewN n) v ((execOp a.eval o).run P (w.drewN n))) ∧ next (a.put o.dst v)
attribute [go_sem] detOne detUpon
end
section
open Go.RowKit Go.Lib
theorem isnan_any (b : Nat) (w : World) :
  Calls Tryz.prog 160 #[.float .f64 b] w fun e w' => e = .returned (.bool (fnan b)) ∧ w = w' := by
 go_enter Tryz.func160, Tryz.ntmps160
 go_wp2
 go_ret
 exact ⟨by simp, rfl⟩
theorem feq_zero {x : Nat} (h : fnan x = false) (hx : x < 18446744073709551616) : feq x 0 = decide (x = 0 ∨ x = 9223372036854775808) := by
 rw [feq_key h (by decide)]
 rw [show fkey 0 = 0 from rfl, decide_eq_decide]
 unfold fkey
 split
 ·next h1 => rw [beq_iff_eq] at h1; omega
 ·next h1 => rw [beq_iff_eq] at h1; omega
theorem norm_any (b : Nat) (h : fnan b = false) (hb : b < 18446744073709551616) (w : World) :
  Calls Tryz.prog 219 #[.float .f64 b] w fun e w' => e = .returned (.tuple #[.float .f64 (tn b), .int .i64 0]) ∧ w = w' := by
 have h0 := feq_zero h hb
 by_cases hz : b = 0 ∨ b = 9223372036854775808
 ·have hq : feq b 0 = true := by rw [h0, decide_eq_true hz]
  have ht : tn b = 0 := by unfold tn; split <;> omega
  rw [ht]
  clear h0 hz ht
  go_enter Tryz.func219, Tryz.ntmps219
  go_wp2_with (go_at_call 160; refine (isnan_any _ _).mono ?_; rintro e w' ⟨rfl, rfl⟩)
  go_ret2
  exact ⟨rfl, rfl⟩
 ·have hq : feq b 0 = false := by rw [h0, decide_eq_false hz]
  have ht : tn b = b := by unfold tn; rw [if_neg (by omega)]
  rw [ht]
  clear h0 hz ht
  go_enter Tryz.func219, Tryz.ntmps219
  go_wp2_with (go_at_call 160; refine (isnan_any _ _).mono ?_; rintro e w' ⟨rfl, rfl⟩)
  go_ret2
  exact ⟨rfl, rfl⟩
@[go_sem] theorem run_float64bits (b : Nat) (w : World) : (callFunc 152 #[.float .f64 b]).run Tryz.prog w = .ok (.value (.int .u64 b)) w := by
 rw [run_callFunc_extern (e := Extern.MathFloatBits.float64bits) Tryz.func152 (by kernel_rfl) (by kernel_rfl) (by kernel_rfl) (by kernel_rfl)]
 rfl
@[go_sem] theorem run_float64frombits (b : Int) (w : World) : (callFunc 249 #[.int .u64 b]).run Tryz.prog w = .ok (.value (.float .f64 b.toNat)) w := by
 rw [run_callFunc_extern (e := Extern.MathFloatBits.float64frombits) Tryz.func249 (by kernel_rfl) (by kernel_rfl) (by kernel_rfl) (by kernel_rfl)]
 rfl
theorem or_top (x y : Nat) (hx : x < 9223372036854775808) (hy : y = x + 9223372036854775808) : bits .or .u64 (x : Int) 9223372036854775808 = (y : Int) := by
 have h := u64_or_nat x 9223372036854775808 (by omega) (by decide)
 have h2 : x ||| 9223372036854775808 = y := by
  rw [Nat.or_comm, nat_join 63 9223372036854775808 x (by decide) (by simpa using hx), hy]
  exact Nat.add_comm _ _
 rw [h2] at h
 exact h
theorem xor_max (x y : Nat) (hx : x < 18446744073709551616) (hy : y = 18446744073709551615 - x) : bits .xor .u64 IntKind.u64.max (x : Int) = (y : Int) := by
 have hx2 : x < 2 ^ 64 := by simpa using hx
 have h := u64_xor_nat 18446744073709551615 x (by decide) hx
 have h2 : 18446744073709551615 ^^^ x = y := by
  have e1 : (BitVec.allOnes 64 ^^^ BitVec.ofNat 64 x).toNat = (~~~ (BitVec.ofNat 64 x)).toNat := by rw [BitVec.allOnes_xor]
  rw [BitVec.toNat_xor, BitVec.toNat_not, BitVec.toNat_allOnes, BitVec.toNat_ofNat, Nat.mod_eq_of_lt hx2] at e1
  rw [hy]
  exact e1
 rw [h2] at h
 exact h
set_option maxHeartbeats 4000000 in
theorem stampkey_any (t : Nat) (src n : Int) (h : fnan t = false) (ht : t < 18446744073709551616) (hs : -9223372036854775808 ≤ src ∧ src < 9223372036854775808) (hn : -9223372036854775808 ≤ n ∧ n < 9223372036854775808) (w : World) :
  Calls Tryz.prog 188 #[.agg #[.float .f64 t, .int .i64 src, .int .i64 n]] w fun e w' => e = .returned (.tuple #[.string (S (timeB t ++ encI src ++ encI n)), .int .i64 0]) ∧ Below w.heap.size w w' := by
 have HN := hid (fun W => norm_any t h ht W)
 have hlt := tn_lt ht
 have htk := tkey_lt ht
 obtain ⟨x, hx⟩ : ∃ x, x = tn t := ⟨_, rfl⟩
 rw [← hx] at HN hlt
 have HTK : tkey t = if x < 9223372036854775808 then x + 9223372036854775808 else 18446744073709551615 - x := by rw [hx]; rfl
 obtain ⟨y, hy⟩ : ∃ y, y = tkey t := ⟨_, rfl⟩
 rw [← hy] at HTK htk
 have hyB : timeB t = be 8 y := by rw [hy]; rfl
 rw [hyB]
 have HU := hid (fun W => packU_any y W htk)
 have HS := hid (fun W => packI_any src W hs.1 hs.2)
 have HNN := hid (fun W => packI_any n W hn.1 hn.2)
 obtain ⟨W1, hW1⟩ : ∃ W1, W1 = w.alloc (.cells #[.float .f64 t, .int .i64 src, .int .i64 n] 65) := ⟨_, rfl⟩
 have hb1 : Below w.heap.size w W1 := by rw [hW1]; exact (Below.refl _ w).alloc (Nat.le_refl _) _
 have hB1 : Blk W1 w.heap.size 65 #[.float .f64 t, .int .i64 src, .int .i64 n] := by rw [hW1]; exact Blk.new w _ _
 obtain ⟨C, hC⟩ : ∃ C : World → Prop, Hid (∀ W, C W ↔ Below W1.heap.size W1 W) := ⟨_, hid fun _ => Iff.rfl⟩
 have HCL : Hid (∀ W, C W → W.cell? ⟨w.heap.size, 0, none⟩ = some (.float .f64 t) ∧ W.cell? ⟨w.heap.size, 1, none⟩ = some (.int .i64 src) ∧ W.cell? ⟨w.heap.size, 2, none⟩ = some (.int .i64 n)) := hid fun W hW => by
  have h1 := hB1.below ((hC.out W).1 hW) hB1.lt
  exact ⟨h1.cell 0, h1.cell 1, h1.cell 2⟩
 have keep : ∀ {f : FuncId} {vs : Array Value} {v : Value}, (∀ W, Calls Tryz.prog f vs W fun e w' => e = .returned v ∧ Below W.heap.size W w') → ∀ W, C W → Calls Tryz.prog f vs W fun e w' => e = .returned v ∧ C w' := fun {f vs v} hc W hW => by
  refine (hc W).mono ?_
  rintro e w' ⟨rfl, hb⟩
  have h1 := (hC.out W).1 hW
  exact ⟨rfl, (hC.out w').2 (h1.trans (hb.mono h1.size))⟩
 have H1 := hid (keep HU.out)
 have H2 := hid (keep HS.out)
 have H3 := hid (keep HNN.out)
 have HC0 : Hid (C W1.drew) := hid ((hC.out _).2 (below_drewN (Below.refl _ W1) 1))
 have HF : Hid (∀ W, C W → Below w.heap.size w W) := hid fun W hW => hb1.trans (((hC.out W).1 hW).mono hb1.size)
 clear h ht hs hn htk hx hy hyB hb1 hB1 HU HS HNN keep hC
 by_cases hc : x < 9223372036854775808
 ·have hci : ¬ 9223372036854775808 ≤ (x : Int) := by omega
  rw [if_pos hc] at HTK
  have hor := or_top x y hc HTK
  have hcb : decide (9223372036854775808 ≤ (x : Int)) = false := decide_eq_false hci
  have HOR := hid hor
  clear hc hci hor HTK hlt
  go_enter Tryz.func188, Tryz.ntmps188
  go_wp2_with (go_at_call 219; refine (HN.out _).mono ?_; rintro e w' ⟨rfl, rfl⟩)
  rw [HOR.out, ← hW1]
  refine qC_region (by kernel_rfl) (by kernel_rfl) C HC0.out ?_
  repeat (first | (refine qC_none rfl (fun K hK => ?_); apply Exists.intro; refine ⟨fun w0 hw0 => ?_, ?_⟩; (focus (obtain ⟨q0, q1, q2⟩ := HCL.out w0 hw0; go_simp; first | exact rfl | exact ⟨rfl, rfl⟩ | (first | exact H1.out w0 hw0 | exact H2.out w0 hw0 | exact H3.out w0 hw0))); go_simp; refine hK _ ?_; clear hK K) | (refine qC_yes _ _ _ rfl rfl (by rfl) (fun K hK => ?_); apply Exists.intro; refine ⟨fun w0 hw0 => ?_, ?_⟩; (focus (obtain ⟨q0, q1, q2⟩ := HCL.out w0 hw0; go_simp; first | exact rfl | exact ⟨rfl, rfl⟩ | (first | exact H1.out w0 hw0 | exact H2.out w0 hw0 | exact H3.out w0 hw0))); go_simp; refine hK _ ?_; clear hK K) | (refine qC_no _ _ _ rfl rfl (by rfl) (fun K hK => ?_); go_simp; refine hK _ ?_; clear hK K) | (refine qC_undef _ _ _ rfl rfl (by rfl) (fun K hK => ?_); go_simp; refine hK _ ?_; clear hK K))
  refine qC_nil ?_
  intro w5 hw5
  have H5 := hid (HF.out w5 hw5)
  clear hw5
  go_wp2
  go_ret2
  exact ⟨rfl, H5.out⟩
 ·have hci : 9223372036854775808 ≤ (x : Int) := by omega
  rw [if_neg hc] at HTK
  have hor := xor_max x y hlt HTK
  have hcb : decide (9223372036854775808 ≤ (x : Int)) = true := decide_eq_true hci
  have HOR := hid hor
  clear hc hor hci HTK hlt
  go_enter Tryz.func188, Tryz.ntmps188
  go_wp2_with (go_at_call 219; refine (HN.out _).mono ?_; rintro e w' ⟨rfl, rfl⟩)
  rw [HOR.out, ← hW1]
  refine qC_region (by kernel_rfl) (by kernel_rfl) C HC0.out ?_
  repeat (first | (refine qC_none rfl (fun K hK => ?_); apply Exists.intro; refine ⟨fun w0 hw0 => ?_, ?_⟩; (focus (obtain ⟨q0, q1, q2⟩ := HCL.out w0 hw0; go_simp; first | exact rfl | exact ⟨rfl, rfl⟩ | (first | exact H1.out w0 hw0 | exact H2.out w0 hw0 | exact H3.out w0 hw0))); go_simp; refine hK _ ?_; clear hK K) | (refine qC_yes _ _ _ rfl rfl (by rfl) (fun K hK => ?_); apply Exists.intro; refine ⟨fun w0 hw0 => ?_, ?_⟩; (focus (obtain ⟨q0, q1, q2⟩ := HCL.out w0 hw0; go_simp; first | exact rfl | exact ⟨rfl, rfl⟩ | (first | exact H1.out w0 hw0 | exact H2.out w0 hw0 | exact H3.out w0 hw0))); go_simp; refine hK _ ?_; clear hK K) | (refine qC_no _ _ _ rfl rfl (by rfl) (fun K hK => ?_); go_simp; refine hK _ ?_; clear hK K) | (refine qC_undef _ _ _ rfl rfl (by rfl) (fun K hK => ?_); go_simp; refine hK _ ?_; clear hK K))
  refine qC_nil ?_
  intro w5 hw5
  have H5 := hid (HF.out w5 hw5)
  clear hw5
  go_wp2
  go_ret2
  exact ⟨rfl, H5.out⟩
end
section
open Go.RowKit Go.Lib
theorem blk_one {W : World} {g : Nat} {T : TypeId} {cs : Array Value} {l : Bs} (hB : Blk W g T cs) (hc : cs = bA l) (n c : Nat) (hn : n = l.length) :
  (convert 129 9 (.slice (some ⟨g, 0, none⟩) n c)).run Tryz.prog W = .ok (.string (S l)) W := by
 subst hc
 exact bk_string (Bk.of_blk hB) hn
def evV (e : Ev) : Value := .agg #[.float .f64 e.t, .int .i64 e.src, .int .i64 e.n, .int .i64 e.dst, .int .i64 e.pay]
def evC (e : Ev) : List Value := [.float .f64 e.t, .int .i64 e.src, .int .i64 e.n, .int .i64 e.dst, .int .i64 e.pay]
set_option maxHeartbeats 8000000 in
theorem rightv_any (e : Ev) (w : World) :
  Calls Tryz.prog 148 #[evV e] w fun r w' => r = .returned (.bool (decide e.right)) ∧ Below w.heap.size w w' := by
 unfold evV
 cases h0 : fnan e.t
 ·by_cases c0 : -1 ≤ e.src
  ·by_cases c1 : e.src < 6
   ·by_cases c2 : 0 ≤ e.n
    ·by_cases c3 : e.n ≤ 1099511627776
     ·by_cases c4 : 0 ≤ e.dst
      ·by_cases c5 : e.dst < 6
       ·rw [decide_eq_true (show e.right from ⟨h0, c0, c1, c2, c3, c4, c5⟩)]
        go_enter Tryz.func148, Tryz.ntmps148
        go_wp2_with (go_at_call 160; refine (isnan_any _ _).mono ?_; rintro r w' ⟨rfl, rfl⟩)
        go_ret
        refine ⟨?_, (Below.refl _ w).alloc (Nat.le_refl _) _⟩
        first | rfl | exact congrArg (fun b => Ending.returned (.bool b)) (decide_eq_false (by omega)) | exact congrArg (fun b => Ending.returned (.bool b)) (decide_eq_true (by omega))
       ·rw [decide_eq_false (fun h : e.right => c5 h.2.2.2.2.2.2)]
        go_enter Tryz.func148, Tryz.ntmps148
        go_wp2_with (go_at_call 160; refine (isnan_any _ _).mono ?_; rintro r w' ⟨rfl, rfl⟩)
        go_ret
        refine ⟨?_, (Below.refl _ w).alloc (Nat.le_refl _) _⟩
        first | rfl | exact congrArg (fun b => Ending.returned (.bool b)) (decide_eq_false (by omega)) | exact congrArg (fun b => Ending.returned (.bool b)) (decide_eq_true (by omega))
      ·rw [decide_eq_false (fun h : e.right => c4 h.2.2.2.2.2.1)]
       go_enter Tryz.func148, Tryz.ntmps148
       go_wp2_with (go_at_call 160; refine (isnan_any _ _).mono ?_; rintro r w' ⟨rfl, rfl⟩)
       go_ret
       refine ⟨?_, (Below.refl _ w).alloc (Nat.le_refl _) _⟩
       first | rfl | exact congrArg (fun b => Ending.returned (.bool b)) (decide_eq_false (by omega)) | exact congrArg (fun b => Ending.returned (.bool b)) (decide_eq_true (by omega))
     ·rw [decide_eq_false (fun h : e.right => c3 h.2.2.2.2.1)]
      go_enter Tryz.func148, Tryz.ntmps148
      go_wp2_with (go_at_call 160; refine (isnan_any _ _).mono ?_; rintro r w' ⟨rfl, rfl⟩)
      go_ret
      refine ⟨?_, (Below.refl _ w).alloc (Nat.le_refl _) _⟩
      first | rfl | exact congrArg (fun b => Ending.returned (.bool b)) (decide_eq_false (by omega)) | exact congrArg (fun b => Ending.returned (.bool b)) (decide_eq_true (by omega))
    ·rw [decide_eq_false (fun h : e.right => c2 h.2.2.2.1)]
     go_enter Tryz.func148, Tryz.ntmps148
     go_wp2_with (go_at_call 160; refine (isnan_any _ _).mono ?_; rintro r w' ⟨rfl, rfl⟩)
     go_ret
     refine ⟨?_, (Below.refl _ w).alloc (Nat.le_refl _) _⟩
     first | rfl | exact congrArg (fun b => Ending.returned (.bool b)) (decide_eq_false (by omega)) | exact congrArg (fun b => Ending.returned (.bool b)) (decide_eq_true (by omega))
   ·rw [decide_eq_false (fun h : e.right => c1 h.2.2.1)]
    go_enter Tryz.func148, Tryz.ntmps148
    go_wp2_with (go_at_call 160; refine (isnan_any _ _).mono ?_; rintro r w' ⟨rfl, rfl⟩)
    go_ret
    refine ⟨?_, (Below.refl _ w).alloc (Nat.le_refl _) _⟩
    first | rfl | exact congrArg (fun b => Ending.returned (.bool b)) (decide_eq_false (by omega)) | exact congrArg (fun b => Ending.returned (.bool b)) (decide_eq_true (by omega))
  ·rw [decide_eq_false (fun h : e.right => c0 h.2.1)]
   go_enter Tryz.func148, Tryz.ntmps148
   go_wp2_with (go_at_call 160; refine (isnan_any _ _).mono ?_; rintro r w' ⟨rfl, rfl⟩)
   go_ret
   refine ⟨?_, (Below.refl _ w).alloc (Nat.le_refl _) _⟩
   first | rfl | exact congrArg (fun b => Ending.returned (.bool b)) (decide_eq_false (by omega)) | exact congrArg (fun b => Ending.returned (.bool b)) (decide_eq_true (by omega))
 ·rw [decide_eq_false (fun h : e.right => by have := h.1; rw [h0] at this; cases this)]
  go_enter Tryz.func148, Tryz.ntmps148
  go_wp2_with (go_at_call 160; refine (isnan_any _ _).mono ?_; rintro r w' ⟨rfl, rfl⟩)
  go_ret
  refine ⟨?_, (Below.refl _ w).alloc (Nat.le_refl _) _⟩
  first | rfl | exact congrArg (fun b => Ending.returned (.bool b)) (decide_eq_false (by omega)) | exact congrArg (fun b => Ending.returned (.bool b)) (decide_eq_true (by omega))
theorem one_any (n : Int) (h : 0 ≤ n ∧ n < 256) (w : World) :
  Calls Tryz.prog 128 #[.int .i64 n] w fun r w' => r = .returned (.string (S (oneB n))) ∧ Below w.heap.size w w' := by
 have w3 : IntKind.u8.wrap n = n := by rw [IntKind.wrap_u8]; omega
 have hcv := blk_one (l := oneB n) (Blk.new w 5 #[.int .u8 n]) (by
  simp [bA, cB, oneB]
  omega) 1 1 rfl
 go_enter Tryz.func128, Tryz.ntmps128
 go_wp2
 go_ret
 exact ⟨rfl, (Below.refl _ w).alloc (Nat.le_refl _) _⟩
set_option maxHeartbeats 2000000 in
theorem rtime_any (e : Ev) (h : e.right) (ho : e.ok) (w : World) :
  Calls Tryz.prog 149 #[evV e] w fun r w' => r = .returned (.string (S (timeB e.t))) ∧ Below w.heap.size w w' := by
 have HK := hid (fun W => stampkey_any e.t e.src e.n h.1 ho.1 ho.2.1 ho.2.2.1 W)
 have htk : (timeB e.t ++ encI e.src ++ encI e.n).take 8 = timeB e.t := by rw [List.append_assoc]; exact List.take_left' (timeB_length _)
 have htk2 : (timeB e.t ++ (encI e.src ++ encI e.n)).take 8 = timeB e.t := List.take_left' (timeB_length _)
 unfold evV
 clear h ho
 go_enter Tryz.func149, Tryz.ntmps149
 go_wp2_with fail
 (with_reducible refine (HK.out _).mono ?_)
 rintro r w' ⟨rfl, hb⟩
 have HB := hid (((Below.refl _ w).alloc (Nat.le_refl _) (.cells #[.float .f64 e.t, .int .i64 e.src, .int .i64 e.n, .int .i64 e.dst, .int .i64 e.pay] 67)).trans (hb.mono (by simp)))
 clear hb
 go_wp2
 go_ret
 exact ⟨rfl, HB.out⟩
end
end Go.Proofs.YtnnghcooidjlhaaGreat
