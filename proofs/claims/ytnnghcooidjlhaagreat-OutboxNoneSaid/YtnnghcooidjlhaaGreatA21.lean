/- Parts of the proof: Fs Mk Ml Gs Mm Mn. -/
import Derived.WalkKit
import Derived.WalkSpells
import Derived.WalkLawsBesides
import Derived.Lib.Hide
import Derived.Test.YtnnghcooidjlhaaGreatA01
import Derived.Test.YtnnghcooidjlhaaGreatA05
import Derived.Test.YtnnghcooidjlhaaGreatA06
import Derived.Test.YtnnghcooidjlhaaGreatA10
import Derived.Test.YtnnghcooidjlhaaGreatA20
set_option linter.all false
section
set_option linter.unusedSimpArgs false
namespace Go.Proofs.YtnnghcooidjlhaaGreat
open Go.RowKit
@[go_sem] theorem fold_eq (x y : Nat) : (FloatKind.f64.format.order x y == some Ordering.eq) = feq x y := rfl
@[go_sem] theorem fold_ne (x y : Nat) : (FloatKind.f64.format.order x y != some Ordering.eq) = !feq x y := rfl
@[go_sem] theorem fold_lt (x y : Nat) : (FloatKind.f64.format.order x y == some Ordering.lt) = flt x y := rfl
@[go_sem] theorem fold_gt (x y : Nat) : (FloatKind.f64.format.order x y == some Ordering.gt) = fgt x y := rfl
@[go_sem] theorem fold_ge (x y : Nat) : (fgt x y || feq x y) = fge x y := rfl
@[go_sem] theorem fold_le (x y : Nat) : (flt x y || feq x y) = fle x y := rfl
@[go_sem] theorem feq_self (x : Nat) : feq x x = !fnan x := by unfold feq fnan; simp [bne]
def fsub (x y : Nat) : Option Nat := FloatKind.f64.format.sub x y
def fadd (x y : Nat) : Option Nat := FloatKind.f64.format.add x y
def fmul (x y : Nat) : Option Nat := FloatKind.f64.format.mul x y
def nanW (w : World) (x y : Nat) : Nat := (Question.nanBits .f64 x y).cut (w.tape w.drawn (.nanBits .f64 x y))
theorem fnan_nanW (w : World) (x y : Nat) : fnan (nanW w x y) = true := by
  rw [fnan_iff]
  unfold nanW Question.cut frung
  simp only
  generalize w.tape w.drawn (.nanBits .f64 x y) = t
  have h1 : t % 2 < 2 := Nat.mod_lt _ (by omega)
  have h2 : t / 2 % (2 ^ 52 - 1) < 2 ^ 52 - 1 := Nat.mod_lt _ (by omega)
  generalize t % 2 = s at h1
  generalize t / 2 % (2 ^ 52 - 1) = m at h2
  omega
def orNan (w : World) (x y : Nat) : Option Nat → Nat
  | some r => r
  | none => nanW w x y
def draws : Option Nat → Nat
  | some _ => 0
  | none => 1
section
variable {P : Program} (w : World) (t : TypeId) (x y : Nat)
@[go_sem] theorem run_fsub : (binOp .sub t (.float .f64 x) (.float .f64 y)).run P w = .ok (.float .f64 (orNan w x y (fsub x y))) (w.drewN (draws (fsub x y))) := by
  cases h : fsub x y with
  | some r => have h' : FloatKind.f64.format.sub x y = some r := h
              simp [binOp, Op.floatArith, h', orNan, draws, World.drewN_zero]
  | none => have h' : FloatKind.f64.format.sub x y = none := h
            simp [binOp, Op.floatArith, h', orNan, draws, nanW, choose, Question.forced, Sem.run, World.drewN]
@[go_sem] theorem run_fadd : (binOp .add t (.float .f64 x) (.float .f64 y)).run P w = .ok (.float .f64 (orNan w x y (fadd x y))) (w.drewN (draws (fadd x y))) := by
  cases h : fadd x y with
  | some r => have h' : FloatKind.f64.format.add x y = some r := h
              simp [binOp, Op.floatArith, h', orNan, draws, World.drewN_zero]
  | none => have h' : FloatKind.f64.format.add x y = none := h
            simp [binOp, Op.floatArith, h', orNan, draws, nanW, choose, Question.forced, Sem.run, World.drewN]
@[go_sem] theorem run_fmul : (binOp .mul t (.float .f64 x) (.float .f64 y)).run P w = .ok (.float .f64 (orNan w x y (fmul x y))) (w.drewN (draws (fmul x y))) := by
  cases h : fmul x y with
  | some r => have h' : FloatKind.f64.format.mul x y = some r := h
              simp [binOp, Op.floatArith, h', orNan, draws, World.drewN_zero]
  | none => have h' : FloatKind.f64.format.mul x y = none := h
            simp [binOp, Op.floatArith, h', orNan, draws, nanW, choose, Question.forced, Sem.run, World.drewN]
end
@[go_sem] theorem run_store_float {P : Program} (w : World) (a : Addr) (m : Mode) (k : FloatKind) (b : Nat) : (store a (.float k b) m).run P w = stored P w a (.float k b) m := run_store P w a _ m rfl
def oLt : Option Nat → Nat → Bool
  | some r, z => flt r z
  | none, _ => false
def oGt : Option Nat → Nat → Bool
  | some r, z => fgt r z
  | none, _ => false
def oEq : Option Nat → Nat → Bool
  | some r, z => feq r z
  | none, _ => false
theorem flt_nan_l {x : Nat} (h : fnan x = true) (y : Nat) : flt x y = false := by unfold flt; rw [ford_nan_l h]; rfl
theorem fgt_nan_l {x : Nat} (h : fnan x = true) (y : Nat) : fgt x y = false := by unfold fgt; rw [ford_nan_l h]; rfl
theorem feq_nan_l {x : Nat} (h : fnan x = true) (y : Nat) : feq x y = false := by unfold feq; rw [ford_nan_l h]; rfl
theorem flt_nan_r {y : Nat} (h : fnan y = true) (x : Nat) : flt x y = false := by unfold flt; rw [ford_nan_r h]; rfl
theorem fgt_nan_r {y : Nat} (h : fnan y = true) (x : Nat) : fgt x y = false := by unfold fgt; rw [ford_nan_r h]; rfl
theorem feq_nan_r {y : Nat} (h : fnan y = true) (x : Nat) : feq x y = false := by unfold feq; rw [ford_nan_r h]; rfl
@[go_sem] theorem flt_orNan (w : World) (x y z : Nat) (o : Option Nat) : flt (orNan w x y o) z = oLt o z := by
  cases o with
  | some r => rfl
  | none => exact flt_nan_l (fnan_nanW w x y) z
@[go_sem] theorem fgt_orNan (w : World) (x y z : Nat) (o : Option Nat) : fgt (orNan w x y o) z = oGt o z := by
  cases o with
  | some r => rfl
  | none => exact fgt_nan_l (fnan_nanW w x y) z
@[go_sem] theorem feq_orNan (w : World) (x y z : Nat) (o : Option Nat) : feq (orNan w x y o) z = oEq o z := by
  cases o with
  | some r => rfl
  | none => exact feq_nan_l (fnan_nanW w x y) z
@[go_sem] theorem fnan_orNan (w : World) (x y : Nat) (o : Option Nat) : fnan (orNan w x y o) = (match o with | some r => fnan r | none => true) := by
  cases o with
  | some r => rfl
  | none => exact fnan_nanW w x y
def isOr (o : Option Nat) (r : Nat) : Prop := match o with | some z => r = z | none => fnan r = true
theorem isOr_orNan (w : World) (x y : Nat) (o : Option Nat) : isOr o (orNan w x y o) := by
  cases o with
  | some r => rfl
  | none => exact fnan_nanW w x y
theorem isOr.lt {o : Option Nat} {r : Nat} (h : isOr o r) (z : Nat) : flt r z = oLt o z := by
  cases o with
  | some q => rw [show r = q from h]; rfl
  | none => exact flt_nan_l h z
theorem isOr.gt {o : Option Nat} {r : Nat} (h : isOr o r) (z : Nat) : fgt r z = oGt o z := by
  cases o with
  | some q => rw [show r = q from h]; rfl
  | none => exact fgt_nan_l h z
def detUpon (w : World) (v : Value) : Result Next → Prop
  | .ok (.value u) w' => w' = w ∧ u = v
  | .ok .skip w' => w' = w ∧ undef = v
  | _ => False
def detOne (P : Program) (o : Oper) (a : Act) (w : World) (next : Act → Prop) : Prop := ∃ v, (∀ n, detUpon (w.drewN n) v ((execOp a.eval o).run P (w.drewN n))) ∧ next (a.put o.dst v)
attribute [go_sem] detOne detUpon
theorem vOne_det {P : Program} {o : Oper} {a : Act} {w : World} {K : Act → Prop} (h : detOne P o a w K) : vOne P o a (Dr w) K := by
  obtain ⟨v, h1, h2⟩ := h
  refine ⟨fun u => u = v, fun w' hw' => ?_, fun u hu => by rw [hu]; exact h2⟩
  obtain ⟨n, rfl⟩ := hw'
  have h3 := h1 n
  generalize (execOp a.eval o).run P (w.drewN n) = r at h3
  unfold detUpon at h3
  split at h3
  · exact ⟨⟨n, h3.1⟩, h3.2⟩
  · exact ⟨⟨n, h3.1⟩, h3.2⟩
  · exact h3.elim
theorem wpV_det {P : Program} {ops : Array Oper} {w : World} {Q : Act → Prop} {a : Act} {o : Oper} {rest : List Oper}
    (h : ∀ K : Act → Prop, (∀ a, wpV P ops (Dr w) Q rest a → K a) → if Region.wanted o (yielded ops a.tmps) then detOne P o a w K else K (a.put o.dst undef)) :
    wpV P ops (Dr w) Q (o :: rest) a :=
  wpV_step fun K hK => by
    have := h K hK
    split
    · rename_i hw; rw [if_pos hw] at this; exact vOne_det this
    · rename_i hw; rw [if_neg hw] at this; exact this
theorem wpV_want {P : Program} {ops : Array Oper} {w : World} {Q : Act → Prop} {a : Act} {o : Oper} {rest : List Oper} (hw : Region.wanted o (yielded ops a.tmps) = true)
    (h : ∀ K : Act → Prop, (∀ a, wpV P ops (Dr w) Q rest a → K a) → detOne P o a w K) : wpV P ops (Dr w) Q (o :: rest) a :=
  wpV_det fun K hK => by rw [if_pos hw]; exact h K hK
theorem wpV_pass {P : Program} {ops : Array Oper} {w : World} {Q : Act → Prop} {a : Act} {o : Oper} {rest : List Oper} (hw : Region.wanted o (yielded ops a.tmps) = false)
    (h : ∀ K : Act → Prop, (∀ a, wpV P ops (Dr w) Q rest a → K a) → K (a.put o.dst undef)) : wpV P ops (Dr w) Q (o :: rest) a :=
  wpV_det fun K hK => by rw [if_neg (by rw [hw]; exact Bool.false_ne_true)]; exact h K hK
theorem wanted_of {o : Oper} {l : List Oper} {a : Act} (j : Nat) (want : Bool) (d : Tmp) (b : Bool) (hg : o.guard = some (j, want)) (hd : (l[j]?).bind (·.dst) = some d)
    (hv : a.tmps.toList[d]? = some (.bool b)) : Region.wanted o (yielded l.toArray a.tmps) = (b == want) := by
  unfold Region.wanted yielded
  rw [hg]
  have h1 : l.toArray[j]? = l[j]? := by simp
  have h2 : a.tmps[d]? = a.tmps.toList[d]? := by simp
  simp only [h1, hd, Option.bind_some, h2, hv]
  cases b <;> cases want <;> rfl
theorem wpV_pass2 {P : Program} {l : List Oper} {w : World} {Q : Act → Prop} {a : Act} {o : Oper} {rest : List Oper} (j : Nat) (want : Bool) (d : Tmp) (hg : o.guard = some (j, want)) (hd : (l[j]?).bind (·.dst) = some d)
    (hv : a.tmps.toList[d]? = some (.bool !want))
    (h : ∀ K : Act → Prop, (∀ a, wpV P l.toArray (Dr w) Q rest a → K a) → K (a.put o.dst undef)) : wpV P l.toArray (Dr w) Q (o :: rest) a :=
  wpV_pass (by rw [wanted_of j want d _ hg hd hv]; cases want <;> rfl) h
theorem wpV_want2 {P : Program} {l : List Oper} {w : World} {Q : Act → Prop} {a : Act} {o : Oper} {rest : List Oper} (j : Nat) (want : Bool) (d : Tmp) (hg : o.guard = some (j, want)) (hd : (l[j]?).bind (·.dst) = some d)
    (hv : a.tmps.toList[d]? = some (.bool want))
    (h : ∀ K : Act → Prop, (∀ a, wpV P l.toArray (Dr w) Q rest a → K a) → detOne P o a w K) : wpV P l.toArray (Dr w) Q (o :: rest) a :=
  wpV_want (by rw [wanted_of j want d _ hg hd hv]; cases want <;> rfl) h
theorem wpV_pass3 {P : Program} {l : List Oper} {w : World} {Q : Act → Prop} {a : Act} {o : Oper} {rest : List Oper} (j : Nat) (want : Bool) (d : Tmp) (hg : o.guard = some (j, want)) (hd : (l[j]?).bind (·.dst) = some d)
    (hv : a.tmps.toList[d]? = some undef)
    (h : ∀ K : Act → Prop, (∀ a, wpV P l.toArray (Dr w) Q rest a → K a) → K (a.put o.dst undef)) : wpV P l.toArray (Dr w) Q (o :: rest) a :=
  wpV_pass (by
    unfold Region.wanted yielded
    rw [hg]
    have h1 : l.toArray[j]? = l[j]? := by simp
    have h2 : a.tmps[d]? = a.tmps.toList[d]? := by simp
    simp only [h1, hd, Option.bind_some, h2, hv]
    cases want <;> rfl) h
theorem wpV_none {P : Program} {l : List Oper} {w : World} {Q : Act → Prop} {a : Act} {o : Oper} {rest : List Oper} (hg : o.guard = none)
    (h : ∀ K : Act → Prop, (∀ a, wpV P l.toArray (Dr w) Q rest a → K a) → detOne P o a w K) : wpV P l.toArray (Dr w) Q (o :: rest) a :=
  wpV_want (by unfold Region.wanted; rw [hg]) h
theorem wpV_sub {P : Program} {ops : Array Oper} {w : World} {Q : Act → Prop} {a : Act} {o : Oper} {rest : List Oper} (t t' : TypeId) (x y : Operand) (ho : o.op = .binOp .sub t x y t') (p q : Nat)
    (hx : a.eval x = .float .f64 p) (hy : a.eval y = .float .f64 q) (hw : Region.wanted o (yielded ops a.tmps) = true)
    (h0 : ∀ r, isOr (fsub p q) r → ∀ K : Act → Prop, (∀ a, wpV P ops (Dr w) Q rest a → K a) → K (a.put o.dst (.float .f64 r))) : wpV P ops (Dr w) Q (o :: rest) a := by
  have h : ∀ r, isOr (fsub p q) r → wpV P ops (Dr w) Q rest (a.put o.dst (.float .f64 r)) := fun r hr => h0 r hr _ (fun _ h => h)
  clear h0
  rw [wpV_cons]
  rw [if_pos hw]
  refine ⟨fun v => ∃ r, isOr (fsub p q) r ∧ v = .float .f64 r, fun w' hw' => ?_, fun v hv => ?_⟩
  · obtain ⟨n, rfl⟩ := hw'
    have hb : (execOp a.eval o).run P (w.drewN n) = .ok (.value (.float .f64 (orNan (w.drewN n) p q (fsub p q)))) ((w.drewN n).drewN (draws (fsub p q))) := by
      simp [execOp, ho, hx, hy, run_fsub, eqGuard]
    rw [hb]
    exact ⟨⟨_, World.drewN_drewN _ _ _⟩, _, isOr_orNan _ _ _ _, rfl⟩
  · obtain ⟨r, hr, rfl⟩ := hv
    exact h r hr
theorem wpV_sub2 {P : Program} {l : List Oper} {w : World} {Q : Act → Prop} {a : Act} {o : Oper} {rest : List Oper} (j : Nat) (want : Bool) (d : Tmp) (hg : o.guard = some (j, want)) (hd : (l[j]?).bind (·.dst) = some d)
    (hv : a.tmps.toList[d]? = some (.bool want)) (t t' : TypeId) (x y : Operand) (ho : o.op = .binOp .sub t x y t') (p q : Nat)
    (hx : a.eval x = .float .f64 p) (hy : a.eval y = .float .f64 q)
    (h0 : ∀ r, isOr (fsub p q) r → ∀ K : Act → Prop, (∀ a, wpV P l.toArray (Dr w) Q rest a → K a) → K (a.put o.dst (.float .f64 r))) : wpV P l.toArray (Dr w) Q (o :: rest) a :=
  wpV_sub t t' x y ho p q hx hy (by rw [wanted_of j want d _ hg hd hv]; cases want <;> rfl) h0
theorem wpV_sub0 {P : Program} {l : List Oper} {w : World} {Q : Act → Prop} {a : Act} {o : Oper} {rest : List Oper} (hg : o.guard = none)
    (t t' : TypeId) (x y : Operand) (ho : o.op = .binOp .sub t x y t') (p q : Nat)
    (hx : a.eval x = .float .f64 p) (hy : a.eval y = .float .f64 q)
    (h0 : ∀ r, isOr (fsub p q) r → ∀ K : Act → Prop, (∀ a, wpV P l.toArray (Dr w) Q rest a → K a) → K (a.put o.dst (.float .f64 r))) : wpV P l.toArray (Dr w) Q (o :: rest) a :=
  wpV_sub t t' x y ho p q hx hy (by unfold Region.wanted; rw [hg]) h0
end Go.Proofs.YtnnghcooidjlhaaGreat
end
section
set_option linter.unusedSimpArgs false
set_option linter.unusedVariables false
set_option maxRecDepth 100000
namespace Go.Proofs.YtnnghcooidjlhaaGreat
open Go.RowKit Go.Lib
theorem isnan_any (b : Nat) (w : World) :
    Calls Tryz.prog 160 #[.float .f64 b] w fun e w' => e = .returned (.bool (fnan b)) ∧ w = w' := by
  go_enter Tryz.func160, Tryz.ntmps160
  go_wp2
  go_ret
  exact ⟨by simp, rfl⟩
theorem feq_zero {x : Nat} (h : fnan x = false) (hx : x < 18446744073709551616) : feq x 0 = decide (x = 0 ∨ x = 9223372036854775808) := by
  rw [feq_key h (by decide)]
  rw [show fkey 0 = 0 from rfl, decide_eq_decide]
  unfold fkey
  split
  · next h1 => rw [beq_iff_eq] at h1; omega
  · next h1 => rw [beq_iff_eq] at h1; omega
theorem norm_any (b : Nat) (h : fnan b = false) (hb : b < 18446744073709551616) (w : World) :
    Calls Tryz.prog 219 #[.float .f64 b] w fun e w' => e = .returned (.tuple #[.float .f64 (tn b), .int .i64 0]) ∧ w = w' := by
  have h0 := feq_zero h hb
  by_cases hz : b = 0 ∨ b = 9223372036854775808
  · have hq : feq b 0 = true := by rw [h0, decide_eq_true hz]
    have ht : tn b = 0 := by unfold tn; split <;> omega
    rw [ht]
    clear h0 hz ht
    go_enter Tryz.func219, Tryz.ntmps219
    go_wp2_with (go_at_call 160; refine (isnan_any _ _).mono ?_; rintro e w' ⟨rfl, rfl⟩)
    go_ret2
    exact ⟨rfl, rfl⟩
  · have hq : feq b 0 = false := by rw [h0, decide_eq_false hz]
    have ht : tn b = b := by unfold tn; rw [if_neg (by omega)]
    rw [ht]
    clear h0 hz ht
    go_enter Tryz.func219, Tryz.ntmps219
    go_wp2_with (go_at_call 160; refine (isnan_any _ _).mono ?_; rintro e w' ⟨rfl, rfl⟩)
    go_ret2
    exact ⟨rfl, rfl⟩
theorem comparef_any (a b : Nat) (w : World) :
    Calls Tryz.prog 161 #[.float .f64 a, .float .f64 b] w fun e w' => e = .returned (.int .i64 (if flt a b then -1 else if fgt a b then 1 else 0)) ∧ w = w' := by
  go_enter Tryz.func161, Tryz.ntmps161
  go_wp2
  all_goals (go_ret; exact ⟨by simp [*], rfl⟩)
def cmpT (a b : Nat) : Int := if fnan a then (if fnan b then 0 else 1) else if fnan b then -1 else if flt a b then -1 else if fgt a b then 1 else 0
theorem times_any (a b : Nat) (w : World) :
    Calls Tryz.prog 119 #[.float .f64 a, .float .f64 b] w fun e w' => e = .returned (.int .i64 (cmpT a b)) ∧ w = w' := by
  cases h1 : fnan a <;> cases h2 : fnan b
  all_goals
    go_enter Tryz.func119, Tryz.ntmps119
    go_wp2_with (first
      | (go_at_call 160; refine (isnan_any _ _).mono ?_; rintro e w' ⟨rfl, rfl⟩)
      | (go_at_call 161; refine (comparef_any _ _ _).mono ?_; rintro e w' ⟨rfl, rfl⟩))
    all_goals (go_ret; exact ⟨by simp [cmpT, *], rfl⟩)
@[go_sem] theorem run_float64bits (b : Nat) (w : World) : (callFunc 152 #[.float .f64 b]).run Tryz.prog w = .ok (.value (.int .u64 b)) w := by
  rw [run_callFunc_extern (e := Extern.MathFloatBits.float64bits) Tryz.func152 (by kernel_rfl) (by kernel_rfl) (by kernel_rfl) (by kernel_rfl)]
  rfl
@[go_sem] theorem run_float64frombits (b : Int) (w : World) : (callFunc 249 #[.int .u64 b]).run Tryz.prog w = .ok (.value (.float .f64 b.toNat)) w := by
  rw [run_callFunc_extern (e := Extern.MathFloatBits.float64frombits) Tryz.func249 (by kernel_rfl) (by kernel_rfl) (by kernel_rfl) (by kernel_rfl)]
  rfl
theorem or_top (x y : Nat) (hx : x < 9223372036854775808) (hy : y = x + 9223372036854775808) : bits .or .u64 (x : Int) 9223372036854775808 = (y : Int) := by
  have h := u64_or_nat x 9223372036854775808 (by omega) (by decide)
  have h2 : x ||| 9223372036854775808 = y := by
    rw [Nat.or_comm, nat_join 63 9223372036854775808 x (by decide) (by simpa using hx), hy]
    exact Nat.add_comm _ _
  rw [h2] at h
  exact h
theorem xor_max (x y : Nat) (hx : x < 18446744073709551616) (hy : y = 18446744073709551615 - x) : bits .xor .u64 IntKind.u64.max (x : Int) = (y : Int) := by
  have hx2 : x < 2 ^ 64 := by simpa using hx
  have h := u64_xor_nat 18446744073709551615 x (by decide) hx
  have h2 : 18446744073709551615 ^^^ x = y := by
    have e1 : (BitVec.allOnes 64 ^^^ BitVec.ofNat 64 x).toNat = (~~~ (BitVec.ofNat 64 x)).toNat := by rw [BitVec.allOnes_xor]
    rw [BitVec.toNat_xor, BitVec.toNat_not, BitVec.toNat_allOnes, BitVec.toNat_ofNat, Nat.mod_eq_of_lt hx2] at e1
    rw [hy]
    exact e1
  rw [h2] at h
  exact h
set_option maxHeartbeats 4000000 in
theorem stampkey_any (t : Nat) (src n : Int) (h : fnan t = false) (ht : t < 18446744073709551616) (hs : -9223372036854775808 ≤ src ∧ src < 9223372036854775808) (hn : -9223372036854775808 ≤ n ∧ n < 9223372036854775808) (w : World) :
    Calls Tryz.prog 188 #[.agg #[.float .f64 t, .int .i64 src, .int .i64 n]] w fun e w' => e = .returned (.tuple #[.string (S (timeB t ++ encI src ++ encI n)), .int .i64 0]) ∧ Below w.heap.size w w' := by
  have HN := hid (fun W => norm_any t h ht W)
  have hlt := tn_lt ht
  have htk := tkey_lt ht
  obtain ⟨x, hx⟩ : ∃ x, x = tn t := ⟨_, rfl⟩
  rw [← hx] at HN hlt
  have HTK : tkey t = if x < 9223372036854775808 then x + 9223372036854775808 else 18446744073709551615 - x := by rw [hx]; rfl
  obtain ⟨y, hy⟩ : ∃ y, y = tkey t := ⟨_, rfl⟩
  rw [← hy] at HTK htk
  have hyB : timeB t = be 8 y := by rw [hy]; rfl
  rw [hyB]
  have HU := hid (fun W => packU_any y W htk)
  have HS := hid (fun W => packI_any src W hs.1 hs.2)
  have HNN := hid (fun W => packI_any n W hn.1 hn.2)
  obtain ⟨W1, hW1⟩ : ∃ W1, W1 = w.alloc (.cells #[.float .f64 t, .int .i64 src, .int .i64 n] 65) := ⟨_, rfl⟩
  have hb1 : Below w.heap.size w W1 := by rw [hW1]; exact (Below.refl _ w).alloc (Nat.le_refl _) _
  have hB1 : Blk W1 w.heap.size 65 #[.float .f64 t, .int .i64 src, .int .i64 n] := by rw [hW1]; exact Blk.new w _ _
  obtain ⟨C, hC⟩ : ∃ C : World → Prop, Hid (∀ W, C W ↔ Below W1.heap.size W1 W) := ⟨_, hid fun _ => Iff.rfl⟩
  have HCL : Hid (∀ W, C W → W.cell? ⟨w.heap.size, 0, none⟩ = some (.float .f64 t) ∧ W.cell? ⟨w.heap.size, 1, none⟩ = some (.int .i64 src) ∧ W.cell? ⟨w.heap.size, 2, none⟩ = some (.int .i64 n)) := hid fun W hW => by
    have h1 := hB1.below ((hC.out W).1 hW) hB1.lt
    exact ⟨h1.cell 0, h1.cell 1, h1.cell 2⟩
  have keep : ∀ {f : FuncId} {vs : Array Value} {v : Value}, (∀ W, Calls Tryz.prog f vs W fun e w' => e = .returned v ∧ Below W.heap.size W w') → ∀ W, C W → Calls Tryz.prog f vs W fun e w' => e = .returned v ∧ C w' := fun {f vs v} hc W hW => by
    refine (hc W).mono ?_
    rintro e w' ⟨rfl, hb⟩
    have h1 := (hC.out W).1 hW
    exact ⟨rfl, (hC.out w').2 (h1.trans (hb.mono h1.size))⟩
  have H1 := hid (keep HU.out)
  have H2 := hid (keep HS.out)
  have H3 := hid (keep HNN.out)
  have HC0 : Hid (C W1.drew) := hid ((hC.out _).2 (below_drewN (Below.refl _ W1) 1))
  have HF : Hid (∀ W, C W → Below w.heap.size w W) := hid fun W hW => hb1.trans (((hC.out W).1 hW).mono hb1.size)
  clear h ht hs hn htk hx hy hyB hb1 hB1 HU HS HNN keep hC
  by_cases hc : x < 9223372036854775808
  · have hci : ¬ 9223372036854775808 ≤ (x : Int) := by omega
    rw [if_pos hc] at HTK
    have hor := or_top x y hc HTK
    have hcb : decide (9223372036854775808 ≤ (x : Int)) = false := decide_eq_false hci
    have HOR := hid hor
    clear hc hci hor HTK hlt
    go_enter Tryz.func188, Tryz.ntmps188
    go_wp2_with (go_at_call 219; refine (HN.out _).mono ?_; rintro e w' ⟨rfl, rfl⟩)
    rw [HOR.out, ← hW1]
    refine qC_region (by kernel_rfl) (by kernel_rfl) C HC0.out ?_
    repeat (first | (refine qC_none rfl (fun K hK => ?_); apply Exists.intro; refine ⟨fun w0 hw0 => ?_, ?_⟩; (focus (obtain ⟨q0, q1, q2⟩ := HCL.out w0 hw0; go_simp; first | exact rfl | exact ⟨rfl, rfl⟩ | (first | exact H1.out w0 hw0 | exact H2.out w0 hw0 | exact H3.out w0 hw0))); go_simp; refine hK _ ?_; clear hK K) | (refine qC_yes _ _ _ rfl rfl (by rfl) (fun K hK => ?_); apply Exists.intro; refine ⟨fun w0 hw0 => ?_, ?_⟩; (focus (obtain ⟨q0, q1, q2⟩ := HCL.out w0 hw0; go_simp; first | exact rfl | exact ⟨rfl, rfl⟩ | (first | exact H1.out w0 hw0 | exact H2.out w0 hw0 | exact H3.out w0 hw0))); go_simp; refine hK _ ?_; clear hK K) | (refine qC_no _ _ _ rfl rfl (by rfl) (fun K hK => ?_); go_simp; refine hK _ ?_; clear hK K) | (refine qC_undef _ _ _ rfl rfl (by rfl) (fun K hK => ?_); go_simp; refine hK _ ?_; clear hK K))
    refine qC_nil ?_
    intro w5 hw5
    have H5 := hid (HF.out w5 hw5)
    clear hw5
    go_wp2
    go_ret2
    exact ⟨rfl, H5.out⟩
  · have hci : 9223372036854775808 ≤ (x : Int) := by omega
    rw [if_neg hc] at HTK
    have hor := xor_max x y hlt HTK
    have hcb : decide (9223372036854775808 ≤ (x : Int)) = true := decide_eq_true hci
    have HOR := hid hor
    clear hc hor hci HTK hlt
    go_enter Tryz.func188, Tryz.ntmps188
    go_wp2_with (go_at_call 219; refine (HN.out _).mono ?_; rintro e w' ⟨rfl, rfl⟩)
    rw [HOR.out, ← hW1]
    refine qC_region (by kernel_rfl) (by kernel_rfl) C HC0.out ?_
    repeat (first | (refine qC_none rfl (fun K hK => ?_); apply Exists.intro; refine ⟨fun w0 hw0 => ?_, ?_⟩; (focus (obtain ⟨q0, q1, q2⟩ := HCL.out w0 hw0; go_simp; first | exact rfl | exact ⟨rfl, rfl⟩ | (first | exact H1.out w0 hw0 | exact H2.out w0 hw0 | exact H3.out w0 hw0))); go_simp; refine hK _ ?_; clear hK K) | (refine qC_yes _ _ _ rfl rfl (by rfl) (fun K hK => ?_); apply Exists.intro; refine ⟨fun w0 hw0 => ?_, ?_⟩; (focus (obtain ⟨q0, q1, q2⟩ := HCL.out w0 hw0; go_simp; first | exact rfl | exact ⟨rfl, rfl⟩ | (first | exact H1.out w0 hw0 | exact H2.out w0 hw0 | exact H3.out w0 hw0))); go_simp; refine hK _ ?_; clear hK K) | (refine qC_no _ _ _ rfl rfl (by rfl) (fun K hK => ?_); go_simp; refine hK _ ?_; clear hK K) | (refine qC_undef _ _ _ rfl rfl (by rfl) (fun K hK => ?_); go_simp; refine hK _ ?_; clear hK K))
    refine qC_nil ?_
    intro w5 hw5
    have H5 := hid (HF.out w5 hw5)
    clear hw5
    go_wp2
    go_ret2
    exact ⟨rfl, H5.out⟩
end Go.Proofs.YtnnghcooidjlhaaGreat
end
section
set_option linter.unusedSimpArgs false
set_option linter.unusedVariables false
set_option maxRecDepth 100000
namespace Go.Proofs.YtnnghcooidjlhaaGreat
open Go.RowKit Go.Lib
theorem blk_one {W : World} {g : Nat} {T : TypeId} {cs : Array Value} {l : Bs} (hB : Blk W g T cs) (hc : cs = bA l) (n c : Nat) (hn : n = l.length) :
    (convert 129 9 (.slice (some ⟨g, 0, none⟩) n c)).run Tryz.prog W = .ok (.string (S l)) W := by
  subst hc
  exact bk_string (Bk.of_blk hB) hn
def evV (e : Ev) : Value := .agg #[.float .f64 e.t, .int .i64 e.src, .int .i64 e.n, .int .i64 e.dst, .int .i64 e.pay]
def evC (e : Ev) : List Value := [.float .f64 e.t, .int .i64 e.src, .int .i64 e.n, .int .i64 e.dst, .int .i64 e.pay]
set_option maxHeartbeats 8000000 in
theorem rightv_any (e : Ev) (w : World) :
    Calls Tryz.prog 148 #[evV e] w fun r w' => r = .returned (.bool (decide e.right)) ∧ Below w.heap.size w w' := by
  unfold evV
  cases h0 : fnan e.t
  · by_cases c0 : -1 ≤ e.src
    · by_cases c1 : e.src < 6
      · by_cases c2 : 0 ≤ e.n
        · by_cases c3 : e.n ≤ 1099511627776
          · by_cases c4 : 0 ≤ e.dst
            · by_cases c5 : e.dst < 6
              · rw [decide_eq_true (show e.right from ⟨h0, c0, c1, c2, c3, c4, c5⟩)]
                go_enter Tryz.func148, Tryz.ntmps148
                go_wp2_with (go_at_call 160; refine (isnan_any _ _).mono ?_; rintro r w' ⟨rfl, rfl⟩)
                go_ret
                refine ⟨?_, (Below.refl _ w).alloc (Nat.le_refl _) _⟩
                first | rfl | exact congrArg (fun b => Ending.returned (.bool b)) (decide_eq_false (by omega)) | exact congrArg (fun b => Ending.returned (.bool b)) (decide_eq_true (by omega))
              · rw [decide_eq_false (fun h : e.right => c5 h.2.2.2.2.2.2)]
                go_enter Tryz.func148, Tryz.ntmps148
                go_wp2_with (go_at_call 160; refine (isnan_any _ _).mono ?_; rintro r w' ⟨rfl, rfl⟩)
                go_ret
                refine ⟨?_, (Below.refl _ w).alloc (Nat.le_refl _) _⟩
                first | rfl | exact congrArg (fun b => Ending.returned (.bool b)) (decide_eq_false (by omega)) | exact congrArg (fun b => Ending.returned (.bool b)) (decide_eq_true (by omega))
            · rw [decide_eq_false (fun h : e.right => c4 h.2.2.2.2.2.1)]
              go_enter Tryz.func148, Tryz.ntmps148
              go_wp2_with (go_at_call 160; refine (isnan_any _ _).mono ?_; rintro r w' ⟨rfl, rfl⟩)
              go_ret
              refine ⟨?_, (Below.refl _ w).alloc (Nat.le_refl _) _⟩
              first | rfl | exact congrArg (fun b => Ending.returned (.bool b)) (decide_eq_false (by omega)) | exact congrArg (fun b => Ending.returned (.bool b)) (decide_eq_true (by omega))
          · rw [decide_eq_false (fun h : e.right => c3 h.2.2.2.2.1)]
            go_enter Tryz.func148, Tryz.ntmps148
            go_wp2_with (go_at_call 160; refine (isnan_any _ _).mono ?_; rintro r w' ⟨rfl, rfl⟩)
            go_ret
            refine ⟨?_, (Below.refl _ w).alloc (Nat.le_refl _) _⟩
            first | rfl | exact congrArg (fun b => Ending.returned (.bool b)) (decide_eq_false (by omega)) | exact congrArg (fun b => Ending.returned (.bool b)) (decide_eq_true (by omega))
        · rw [decide_eq_false (fun h : e.right => c2 h.2.2.2.1)]
          go_enter Tryz.func148, Tryz.ntmps148
          go_wp2_with (go_at_call 160; refine (isnan_any _ _).mono ?_; rintro r w' ⟨rfl, rfl⟩)
          go_ret
          refine ⟨?_, (Below.refl _ w).alloc (Nat.le_refl _) _⟩
          first | rfl | exact congrArg (fun b => Ending.returned (.bool b)) (decide_eq_false (by omega)) | exact congrArg (fun b => Ending.returned (.bool b)) (decide_eq_true (by omega))
      · rw [decide_eq_false (fun h : e.right => c1 h.2.2.1)]
        go_enter Tryz.func148, Tryz.ntmps148
        go_wp2_with (go_at_call 160; refine (isnan_any _ _).mono ?_; rintro r w' ⟨rfl, rfl⟩)
        go_ret
        refine ⟨?_, (Below.refl _ w).alloc (Nat.le_refl _) _⟩
        first | rfl | exact congrArg (fun b => Ending.returned (.bool b)) (decide_eq_false (by omega)) | exact congrArg (fun b => Ending.returned (.bool b)) (decide_eq_true (by omega))
    · rw [decide_eq_false (fun h : e.right => c0 h.2.1)]
      go_enter Tryz.func148, Tryz.ntmps148
      go_wp2_with (go_at_call 160; refine (isnan_any _ _).mono ?_; rintro r w' ⟨rfl, rfl⟩)
      go_ret
      refine ⟨?_, (Below.refl _ w).alloc (Nat.le_refl _) _⟩
      first | rfl | exact congrArg (fun b => Ending.returned (.bool b)) (decide_eq_false (by omega)) | exact congrArg (fun b => Ending.returned (.bool b)) (decide_eq_true (by omega))
  · rw [decide_eq_false (fun h : e.right => by have := h.1; rw [h0] at this; cases this)]
    go_enter Tryz.func148, Tryz.ntmps148
    go_wp2_with (go_at_call 160; refine (isnan_any _ _).mono ?_; rintro r w' ⟨rfl, rfl⟩)
    go_ret
    refine ⟨?_, (Below.refl _ w).alloc (Nat.le_refl _) _⟩
    first | rfl | exact congrArg (fun b => Ending.returned (.bool b)) (decide_eq_false (by omega)) | exact congrArg (fun b => Ending.returned (.bool b)) (decide_eq_true (by omega))
theorem one_any (n : Int) (h : 0 ≤ n ∧ n < 256) (w : World) :
    Calls Tryz.prog 128 #[.int .i64 n] w fun r w' => r = .returned (.string (S (oneB n))) ∧ Below w.heap.size w w' := by
  have w3 : IntKind.u8.wrap n = n := by rw [IntKind.wrap_u8]; omega
  have hcv := blk_one (l := oneB n) (Blk.new w 5 #[.int .u8 n]) (by
    simp [bA, cB, oneB]
    omega) 1 1 rfl
  go_enter Tryz.func128, Tryz.ntmps128
  go_wp2
  go_ret
  exact ⟨rfl, (Below.refl _ w).alloc (Nat.le_refl _) _⟩
set_option maxHeartbeats 2000000 in
theorem rtime_any (e : Ev) (h : e.right) (ho : e.ok) (w : World) :
    Calls Tryz.prog 149 #[evV e] w fun r w' => r = .returned (.string (S (timeB e.t))) ∧ Below w.heap.size w w' := by
  have HK := hid (fun W => stampkey_any e.t e.src e.n h.1 ho.1 ho.2.1 ho.2.2.1 W)
  have htk : (timeB e.t ++ encI e.src ++ encI e.n).take 8 = timeB e.t := by rw [List.append_assoc]; exact List.take_left' (timeB_length _)
  have htk2 : (timeB e.t ++ (encI e.src ++ encI e.n)).take 8 = timeB e.t := List.take_left' (timeB_length _)
  unfold evV
  clear h ho
  go_enter Tryz.func149, Tryz.ntmps149
  go_wp2_with fail
  (with_reducible refine (HK.out _).mono ?_)
  rintro r w' ⟨rfl, hb⟩
  have HB := hid (((Below.refl _ w).alloc (Nat.le_refl _) (.cells #[.float .f64 e.t, .int .i64 e.src, .int .i64 e.n, .int .i64 e.dst, .int .i64 e.pay] 67)).trans (hb.mono (by simp)))
  clear hb
  go_wp2
  go_ret
  exact ⟨rfl, HB.out⟩
end Go.Proofs.YtnnghcooidjlhaaGreat
end
section
set_option linter.unusedSimpArgs false
namespace Go.Proofs.YtnnghcooidjlhaaGreat
open Go.RowKit
theorem wpList_of_quiet {P : Program} {ops : Array Oper} {C : World → Prop} {Q : Act → Prop} {Q' : Exit → Act → World → Prop} (hQ : ∀ a w, C w → Q a → Q' .normal a w) : ∀ (l : List Oper) (a : Act) (w : World), C w → wpQuiet P ops C Q l a → wpList P ops Q' l a w
  | [], a, w, hC, h => hQ a w hC h
  | o :: rest, a, w, hC, h => by
    unfold wpQuiet at h
    unfold wpList
    split
    · next hw =>
      rw [if_pos hw] at h
      exact .inl (Oper.wp_of_quiet hC (fun a' w' hc hk => wpList_of_quiet hQ rest a' w' hc hk) h)
    · next hw =>
      rw [if_neg hw] at h
      exact wpList_of_quiet hQ rest _ w hC h
theorem qC_mid {P : Program} {l rest : List Oper} {Q : Exit → Act → World → Prop} {a : Act} {w : World} (C : World → Prop) (hC : C w)
    (h : wpC P l.toArray C (fun a' => ∀ w', C w' → Q .normal a' w') rest a) : wpList P l.toArray Q rest a w := by
  unfold wpC at h
  exact wpList_of_quiet (fun a w hc hq => hq w hc) rest a w hC h
theorem qC_plain {P : Program} {id : Nat} {l : List Oper} {Q : Exit → Act → World → Prop} {a : Act} {w : World} (C : World → Prop) (hC : C w)
    (h : wpC P l.toArray C (fun a' => ∀ w', C w' → Q .normal a' w') l a) : (Code.region id l.toArray false).wp P Q a w :=
  wp_region_lit (qC_mid C hC h)
def BelC (W1 : World) (W : World) : Prop := Below W1.heap.size W1 W
theorem BelC.out {W1 W : World} (h : BelC W1 W) : Below W1.heap.size W1 W := h
theorem BelC.refl (W1 : World) : BelC W1 W1 := Below.refl _ _
theorem BelC.drew (W1 : World) : BelC W1 W1.drew := below_drewN (Below.refl _ W1) 1
theorem BelC.call {P : Program} {W1 : World} {f : FuncId} {vs : Array Value} {v : Value} (hc : ∀ W, Calls P f vs W fun e w' => e = .returned v ∧ Below W.heap.size W w') : ∀ W, BelC W1 W → Calls P f vs W fun e w' => e = .returned v ∧ BelC W1 w' := fun W hW => by
  refine (hc W).mono ?_
  rintro e w' ⟨rfl, hb⟩
  exact ⟨rfl, hW.out.trans (hb.mono hW.out.size)⟩
theorem BelC.call_same {P : Program} {W1 : World} {f : FuncId} {vs : Array Value} {v : Value} (hc : ∀ W, Calls P f vs W fun e w' => e = .returned v ∧ W = w') : ∀ W, BelC W1 W → Calls P f vs W fun e w' => e = .returned v ∧ BelC W1 w' := fun W hW => by
  refine (hc W).mono ?_
  rintro e w' ⟨rfl, rfl⟩
  exact ⟨rfl, hW⟩
theorem BelC.blk {W1 W : World} {g : Nat} {t : TypeId} {cs : Array Value} (h : BelC W1 W) (hB : Blk W1 g t cs) : Blk W g t cs := hB.below h.out hB.lt
theorem BelC.alloc {W1 W : World} (h : BelC W1 W) (o : Obj) : BelC W1 (W.alloc o) := Below.alloc h (Below.size h) o
theorem BelC.drew_of {W1 W : World} (h : BelC W1 W) : BelC W1 W.drew := below_drewN h 1
theorem BelC.trans {W1 W2 W3 : World} (h : BelC W1 W2) (k : BelC W2 W3) : BelC W1 W3 := Below.trans h (k.out.mono h.out.size)
theorem BelC.of {W1 W2 : World} (h : Below W1.heap.size W1 W2) : BelC W1 W2 := h
theorem BelC.set_new {W1 W : World} (h : BelC W1 W) (p : Addr) (hp : W1.heap.size ≤ p.block) (u : Value) : BelC W1 (W.setCell p u) := Below.setCell h hp u
attribute [irreducible] BelC
end Go.Proofs.YtnnghcooidjlhaaGreat
end
section
set_option linter.unusedSimpArgs false
set_option linter.unusedVariables false
set_option maxRecDepth 100000
namespace Go.Proofs.YtnnghcooidjlhaaGreat
open Go.RowKit Go.Lib
set_option maxHeartbeats 8000000 in
theorem reckey_any (e : Ev) (h : e.right) (ho : e.ok) (w : World) :
    Calls Tryz.prog 106 #[evV e] w fun r w' => r = .returned (.tuple #[.string (S (keyB e)), .int .i64 0]) ∧ Below w.heap.size w w' := by
  have HR := hid (fun W => rightv_any e W)
  rw [decide_eq_true h] at HR
  have hw1 : IntKind.i64.wrap (e.src + 1) = e.src + 1 := by
    have := h.2.1; have := h.2.2.1
    rw [IntKind.wrap_i64]; omega
  have HCC := hid (fun (W1 : World) => (⟨BelC.call (W1 := W1) (rtime_any e h ho), BelC.call (W1 := W1) (one_any (e.src + 1) (by have := h.2.1; have := h.2.2.1; omega)), BelC.call (W1 := W1) (fun W => packI_any e.n W ho.2.2.1.1 ho.2.2.1.2), BelC.call (W1 := W1) (fun W => packI_any e.pay W ho.2.2.2.2.1 ho.2.2.2.2.2)⟩ : _ ∧ _ ∧ _ ∧ _))
  unfold evV at HCC HR ⊢
  clear h ho
  go_enter Tryz.func106, Tryz.ntmps106
  go_wp2_with fail
  (with_reducible refine (HR.out _).mono ?_)
  rintro r W1 ⟨rfl, hb1⟩
  have hB := (Blk.new w 67 #[.float .f64 e.t, .int .i64 e.src, .int .i64 e.n, .int .i64 e.dst, .int .i64 e.pay]).below hb1 (Blk.new _ _ _).lt
  have HB := hid (((Below.refl _ w).alloc (Nat.le_refl _) (.cells #[.float .f64 e.t, .int .i64 e.src, .int .i64 e.n, .int .i64 e.dst, .int .i64 e.pay] 67)).trans (hb1.mono (by simp)))
  have HCL : Hid (∀ W, BelC W1 W → W.cell? ⟨w.heap.size, 0, none⟩ = some (.float .f64 e.t) ∧ W.cell? ⟨w.heap.size, 1, none⟩ = some (.int .i64 e.src) ∧ W.cell? ⟨w.heap.size, 2, none⟩ = some (.int .i64 e.n) ∧ W.cell? ⟨w.heap.size, 3, none⟩ = some (.int .i64 e.dst) ∧ W.cell? ⟨w.heap.size, 4, none⟩ = some (.int .i64 e.pay)) := hid fun W hW => by
    have h1 := hW.blk hB
    exact ⟨h1.cell 0, h1.cell 1, h1.cell 2, h1.cell 3, h1.cell 4⟩
  have H1 := hid (HCC.out W1).1
  have H2 := hid (HCC.out W1).2.1
  have H3 := hid (HCC.out W1).2.2.1
  have H4 := hid (HCC.out W1).2.2.2
  have HF : Hid (∀ W, BelC W1 W → Below w.heap.size w W) := hid fun W hW => HB.out.trans (hW.out.mono HB.out.size)
  clear hb1 hB
  go_wp2
  refine qC_region (by kernel_rfl) (by kernel_rfl) (BelC W1) (BelC.drew W1) ?_
  repeat (first | (refine qC_none rfl (fun K hK => ?_); apply Exists.intro; refine ⟨fun w0 hw0 => ?_, ?_⟩; (focus (obtain ⟨q0, q1, q2, q3, q4⟩ := HCL.out w0 hw0; go_simp; first | exact rfl | exact ⟨rfl, rfl⟩ | (first | exact H1.out w0 hw0 | exact H2.out w0 hw0 | exact H3.out w0 hw0 | exact H4.out w0 hw0))); go_simp; refine hK _ ?_; clear hK K) | (refine qC_yes _ _ _ rfl rfl (by rfl) (fun K hK => ?_); apply Exists.intro; refine ⟨fun w0 hw0 => ?_, ?_⟩; (focus (obtain ⟨q0, q1, q2, q3, q4⟩ := HCL.out w0 hw0; go_simp; first | exact rfl | exact ⟨rfl, rfl⟩ | (first | exact H1.out w0 hw0 | exact H2.out w0 hw0 | exact H3.out w0 hw0 | exact H4.out w0 hw0))); go_simp; refine hK _ ?_; clear hK K) | (refine qC_no _ _ _ rfl rfl (by rfl) (fun K hK => ?_); go_simp; refine hK _ ?_; clear hK K) | (refine qC_undef _ _ _ rfl rfl (by rfl) (fun K hK => ?_); go_simp; refine hK _ ?_; clear hK K))
  refine qC_nil ?_
  intro w5 hw5
  have HW5 := hid (HF.out w5 hw5)
  clear hw5
  go_wp2
  go_ret2
  exact ⟨rfl, HW5.out⟩
set_option maxHeartbeats 2000000 in
theorem reckey_no (e : Ev) (h : ¬ e.right) (w : World) :
    Calls Tryz.prog 106 #[evV e] w fun r w' => r = .returned (.tuple #[.string ⟨#[]⟩, .int .i64 2]) ∧ Below w.heap.size w w' := by
  have HR := hid (fun W => rightv_any e W)
  rw [decide_eq_false h] at HR
  unfold evV at HR ⊢
  clear h
  go_enter Tryz.func106, Tryz.ntmps106
  go_wp2_with fail
  (with_reducible refine (HR.out _).mono ?_)
  rintro r W1 ⟨rfl, hb1⟩
  have HB := hid (((Below.refl _ w).alloc (Nat.le_refl _) (.cells #[.float .f64 e.t, .int .i64 e.src, .int .i64 e.n, .int .i64 e.dst, .int .i64 e.pay] 67)).trans (hb1.mono (by simp)))
  clear hb1
  go_wp2
  go_ret2
  exact ⟨rfl, HB.out⟩
set_option maxHeartbeats 8000000 in
theorem putev_any (e : Ev) (h : e.right) (ho : e.ok) (w : World) :
    Calls Tryz.prog 96 #[evV e] w fun r w' => r = .returned (.tuple #[.string (S (evB e)), .int .i64 0]) ∧ Below w.heap.size w w' := by
  have HR := hid (fun W => rightv_any e W)
  rw [decide_eq_true h] at HR
  have hw1 : IntKind.i64.wrap (e.src + 1) = e.src + 1 := by
    have := h.2.1; have := h.2.2.1
    rw [IntKind.wrap_i64]; omega
  have HCC := hid (fun (W1 : World) => (⟨BelC.call (W1 := W1) (rtime_any e h ho), BelC.call (W1 := W1) (one_any (e.src + 1) (by have := h.2.1; have := h.2.2.1; omega)), BelC.call (W1 := W1) (fun W => packI_any e.n W ho.2.2.1.1 ho.2.2.1.2), BelC.call (W1 := W1) (fun W => packI_any e.pay W ho.2.2.2.2.1 ho.2.2.2.2.2), BelC.call (W1 := W1) (one_any e.dst (by have := h.2.2.2.2.2.1; have := h.2.2.2.2.2.2; omega))⟩ : _ ∧ _ ∧ _ ∧ _ ∧ _))
  unfold evV at HCC HR ⊢
  clear h ho
  go_enter Tryz.func96, Tryz.ntmps96
  go_wp2_with fail
  (with_reducible refine (HR.out _).mono ?_)
  rintro r W1 ⟨rfl, hb1⟩
  have hB := (Blk.new w 67 #[.float .f64 e.t, .int .i64 e.src, .int .i64 e.n, .int .i64 e.dst, .int .i64 e.pay]).below hb1 (Blk.new _ _ _).lt
  have HB := hid (((Below.refl _ w).alloc (Nat.le_refl _) (.cells #[.float .f64 e.t, .int .i64 e.src, .int .i64 e.n, .int .i64 e.dst, .int .i64 e.pay] 67)).trans (hb1.mono (by simp)))
  have HCL : Hid (∀ W, BelC W1 W → W.cell? ⟨w.heap.size, 0, none⟩ = some (.float .f64 e.t) ∧ W.cell? ⟨w.heap.size, 1, none⟩ = some (.int .i64 e.src) ∧ W.cell? ⟨w.heap.size, 2, none⟩ = some (.int .i64 e.n) ∧ W.cell? ⟨w.heap.size, 3, none⟩ = some (.int .i64 e.dst) ∧ W.cell? ⟨w.heap.size, 4, none⟩ = some (.int .i64 e.pay)) := hid fun W hW => by
    have h1 := hW.blk hB
    exact ⟨h1.cell 0, h1.cell 1, h1.cell 2, h1.cell 3, h1.cell 4⟩
  have H1 := hid (HCC.out W1).1
  have H2 := hid (HCC.out W1).2.1
  have H3 := hid (HCC.out W1).2.2.1
  have H4 := hid (HCC.out W1).2.2.2.1
  have H5 := hid (HCC.out W1).2.2.2.2
  have HF : Hid (∀ W, BelC W1 W → Below w.heap.size w W) := hid fun W hW => HB.out.trans (hW.out.mono HB.out.size)
  clear hb1 hB
  go_wp2
  refine qC_region (by kernel_rfl) (by kernel_rfl) (BelC W1) (BelC.drew W1) ?_
  repeat (first | (refine qC_none rfl (fun K hK => ?_); apply Exists.intro; refine ⟨fun w0 hw0 => ?_, ?_⟩; (focus (obtain ⟨q0, q1, q2, q3, q4⟩ := HCL.out w0 hw0; go_simp; first | exact rfl | exact ⟨rfl, rfl⟩ | (first | exact H1.out w0 hw0 | exact H2.out w0 hw0 | exact H3.out w0 hw0 | exact H4.out w0 hw0 | exact H5.out w0 hw0))); go_simp; refine hK _ ?_; clear hK K) | (refine qC_yes _ _ _ rfl rfl (by rfl) (fun K hK => ?_); apply Exists.intro; refine ⟨fun w0 hw0 => ?_, ?_⟩; (focus (obtain ⟨q0, q1, q2, q3, q4⟩ := HCL.out w0 hw0; go_simp; first | exact rfl | exact ⟨rfl, rfl⟩ | (first | exact H1.out w0 hw0 | exact H2.out w0 hw0 | exact H3.out w0 hw0 | exact H4.out w0 hw0 | exact H5.out w0 hw0))); go_simp; refine hK _ ?_; clear hK K) | (refine qC_no _ _ _ rfl rfl (by rfl) (fun K hK => ?_); go_simp; refine hK _ ?_; clear hK K) | (refine qC_undef _ _ _ rfl rfl (by rfl) (fun K hK => ?_); go_simp; refine hK _ ?_; clear hK K))
  refine qC_nil ?_
  intro w5 hw5
  have HW5 := hid (HF.out w5 hw5)
  clear hw5
  go_wp2
  go_ret2
  exact ⟨rfl, HW5.out⟩
set_option maxHeartbeats 2000000 in
theorem putev_no (e : Ev) (h : ¬ e.right) (w : World) :
    Calls Tryz.prog 96 #[evV e] w fun r w' => r = .returned (.tuple #[.string ⟨#[]⟩, .int .i64 2]) ∧ Below w.heap.size w w' := by
  have HR := hid (fun W => rightv_any e W)
  rw [decide_eq_false h] at HR
  unfold evV at HR ⊢
  clear h
  go_enter Tryz.func96, Tryz.ntmps96
  go_wp2_with fail
  (with_reducible refine (HR.out _).mono ?_)
  rintro r W1 ⟨rfl, hb1⟩
  have HB := hid (((Below.refl _ w).alloc (Nat.le_refl _) (.cells #[.float .f64 e.t, .int .i64 e.src, .int .i64 e.n, .int .i64 e.dst, .int .i64 e.pay] 67)).trans (hb1.mono (by simp)))
  clear hb1
  go_wp2
  go_ret2
  exact ⟨rfl, HB.out⟩
def msgV (e : Ev) (a : Bool) : Value := .agg #[.float .f64 e.t, .int .i64 e.src, .int .i64 e.n, .int .i64 e.dst, .int .i64 e.pay, .bool a]
set_option maxHeartbeats 4000000 in
theorem putmsg_any (e : Ev) (a : Bool) (h : e.right) (ho : e.ok) (w : World) :
    Calls Tryz.prog 120 #[msgV e a] w fun r w' => r = .returned (.tuple #[.string (S (msgB e a)), .int .i64 0]) ∧ Below w.heap.size w w' := by
  have HR := hid (fun W => putev_any e h ho W)
  have H1 := hid (fun W => one_any 1 (by omega) W)
  have H0 := hid (fun W => one_any 0 (by omega) W)
  have hl : (evB e).length = 26 := evB_length e
  unfold evV at HR
  unfold msgV
  clear h ho
  go_enter Tryz.func120, Tryz.ntmps120
  go_wp2_with fail
  (with_reducible refine (HR.out _).mono ?_)
  rintro r W1 ⟨rfl, hb1⟩
  have hB := (Blk.new w 99 #[.float .f64 e.t, .int .i64 e.src, .int .i64 e.n, .int .i64 e.dst, .int .i64 e.pay, .bool a]).below hb1 (Blk.new _ _ _).lt
  have HB := hid (((Below.refl _ w).alloc (Nat.le_refl _) (.cells #[.float .f64 e.t, .int .i64 e.src, .int .i64 e.n, .int .i64 e.dst, .int .i64 e.pay, .bool a] 99)).trans (hb1.mono (by simp)))
  have k5 : W1.cell? ⟨w.heap.size, 5, none⟩ = some (.bool a) := hB.cell 5
  clear hb1 hB
  cases a with
  | true =>
    go_wp2_with fail
    (with_reducible refine (H1.out _).mono ?_)
    rintro r W2 ⟨rfl, hb2⟩
    have HB2 := hid (HB.out.trans (hb2.mono HB.out.size))
    clear hb2
    have hl1 : (oneB 1).length = 1 := rfl
    go_wp2
    go_ret2
    exact ⟨rfl, HB2.out⟩
  | false =>
    go_wp2_with fail
    (with_reducible refine (H0.out _).mono ?_)
    rintro r W2 ⟨rfl, hb2⟩
    have HB2 := hid (HB.out.trans (hb2.mono HB.out.size))
    clear hb2
    have hl1 : (oneB 0).length = 1 := rfl
    go_wp2
    go_ret2
    exact ⟨rfl, HB2.out⟩
set_option maxHeartbeats 4000000 in
theorem putmsg_no (e : Ev) (a : Bool) (h : ¬ e.right) (w : World) :
    Calls Tryz.prog 120 #[msgV e a] w fun r w' => r = .returned (.tuple #[.string ⟨#[]⟩, .int .i64 2]) ∧ Below w.heap.size w w' := by
  have HR := hid (fun W => putev_no e h W)
  unfold evV at HR
  unfold msgV
  clear h
  go_enter Tryz.func120, Tryz.ntmps120
  go_wp2_with fail
  (with_reducible refine (HR.out _).mono ?_)
  rintro r W1 ⟨rfl, hb1⟩
  have HB := hid (((Below.refl _ w).alloc (Nat.le_refl _) (.cells #[.float .f64 e.t, .int .i64 e.src, .int .i64 e.n, .int .i64 e.dst, .int .i64 e.pay, .bool a] 99)).trans (hb1.mono (by simp)))
  clear hb1
  go_wp2
  go_ret2
  exact ⟨rfl, HB.out⟩
end Go.Proofs.YtnnghcooidjlhaaGreat
end
section
set_option linter.unusedSimpArgs false
set_option linter.unusedVariables false
set_option maxRecDepth 100000
namespace Go.Proofs.YtnnghcooidjlhaaGreat
open Go.RowKit Go.Lib
theorem andNot_top (b x : Nat) (hb : b < 18446744073709551616) (h : 9223372036854775808 ≤ b) (hx : b = x + 9223372036854775808) : bits .andNot .u64 (b : Int) 9223372036854775808 = (x : Int) := by
  have h1 := u64_andNot b 9223372036854775808 (by omega) (by omega) (by decide) (by decide)
  rw [show ((9223372036854775808 : Int)).toNat = 9223372036854775808 from rfl, Int.toNat_natCast] at h1
  rw [h1]
  have h2 : b &&& 9223372036854775807 = b % 2 ^ 63 := by
    rw [← Nat.and_two_pow_sub_one_eq_mod]
  rw [show 18446744073709551615 - 9223372036854775808 = 9223372036854775807 from rfl, h2]
  have : b % 2 ^ 63 = x := by omega
  rw [this]
set_option maxHeartbeats 4000000 in
theorem stampread_any (x : Nat) (a c : Int) (h : fnan x = false) (hx : x < 18446744073709551616) (ha : -9223372036854775808 ≤ a ∧ a < 9223372036854775808) (hc : -9223372036854775808 ≤ c ∧ c < 9223372036854775808) (w : World) :
    Calls Tryz.prog 225 #[.string (S (timeB x ++ encI a ++ encI c)), .int .i64 0] w fun e w' => e = .returned (.tuple #[.agg #[.float .f64 (tn x), .int .i64 a, .int .i64 c], .int .i64 24, .int .i64 0]) ∧ Below w.heap.size w w' := by
  obtain ⟨s, hs⟩ : ∃ s, s = timeB x ++ encI a ++ encI c := ⟨_, rfl⟩
  have hsl : s.length = 24 := by rw [hs]; simp
  rw [← hs]
  have HU := hid (fun W => readU_any s 0 W (by omega) (by omega))
  have HA := hid (fun W => readI_any s 8 W (by omega) (by omega))
  have HC := hid (fun W => readI_any s 16 W (by omega) (by omega))
  have e0 : unbe ((s.drop 0).take 8) = tkey x := by
    rw [List.drop_zero, hs, List.append_assoc, List.take_left' (timeB_length _), unbe_timeB hx]
  have e1 : decI ((s.drop 8).take 8) = a := by
    rw [hs, mid_eq (by simp) (by simp), decI_encI ha.1 ha.2]
  have e2 : decI ((s.drop 16).take 8) = c := by
    have := mid_eq (a := timeB x ++ encI a) (b := encI c) (c := []) (n := 16) (m := 8) (by simp) (by simp)
    rw [List.append_nil] at this
    rw [hs, this, decI_encI hc.1 hc.2]
  rw [e0, show ((0 : Nat) : Int) = 0 from rfl, show ((0 + 8 : Nat) : Int) = 8 from rfl] at HU
  rw [e1, show ((8 : Nat) : Int) = 8 from rfl, show ((8 + 8 : Nat) : Int) = 16 from rfl] at HA
  rw [e2, show ((16 : Nat) : Int) = 16 from rfl, show ((16 + 8 : Nat) : Int) = 24 from rfl] at HC
  have hlt := tkey_lt hx
  have hun := unT_tk hx
  have hnan : fnan (tn x) = false := by rw [fnan_tn]; exact h
  have hne := tn_ne x
  obtain ⟨b, hb⟩ : ∃ b, b = tkey x := ⟨_, rfl⟩
  obtain ⟨y, hy⟩ : ∃ y, y = tn x := ⟨_, rfl⟩
  rw [← hb] at HU hlt hun
  rw [← hy] at hun hnan hne ⊢
  unfold unT at hun
  have hnei : ((y : Int) == 9223372036854775808) = false := by
    rw [beq_eq_false_iff_ne]; omega
  have hsz : (w.alloc (.cells #[.float .f64 0, .int .i64 0, .int .i64 0] 65)).heap.size = w.heap.size + 1 := by simp
  clear h hx ha hc hs hsl e0 e1 e2 hne hb hy
  by_cases hc : 9223372036854775808 ≤ b
  · have hcb : decide (9223372036854775808 ≤ (b : Int)) = true := decide_eq_true (by omega)
    rw [if_neg (by omega)] at hun
    have HOR := hid (andNot_top b y hlt hc (by omega))
    clear hc hlt hun
    go_enter Tryz.func225, Tryz.ntmps225
    go_wp2_with fail
    (with_reducible refine (HU.out _).mono ?_)
    rintro e w1 ⟨rfl, rfl⟩
    go_wp2_with fail
    (with_reducible refine (HA.out _).mono ?_)
    rintro e w1 ⟨rfl, rfl⟩
    go_wp2_with fail
    (with_reducible refine (HC.out _).mono ?_)
    rintro e w1 ⟨rfl, rfl⟩
    go_wp2_with fail
    rw [HOR.out, Int.toNat_natCast]
    (with_reducible refine (isnan_any _ _).mono ?_)
    rintro e w1 ⟨rfl, rfl⟩
    rw [hnan]
    go_wp2
    have hr := Blk.new w 65 #[.float .f64 y, .int .i64 a, .int .i64 c]
    have z0 := hr.cell 0
    have z1 := hr.cell 1
    have z2 := hr.cell 2
    simp only [List.getElem?_toArray, List.getElem?_cons_zero, List.getElem?_cons_succ] at z0 z1 z2
    refine bodyPost_ret (v := .tuple #[.agg #[.float .f64 y, .int .i64 a, .int .i64 c], .int .i64 24, .int .i64 0]) (by simp [results, Tryz.results225, go_sem, z0, z1, z2]) rfl ⟨rfl, (Below.refl _ w).alloc (Nat.le_refl _) _⟩
  · have hcb : decide (9223372036854775808 ≤ (b : Int)) = false := decide_eq_false (by omega)
    rw [if_pos (by omega)] at hun
    have HOR := hid (xor_max b y hlt (by omega))
    clear hc hlt hun
    go_enter Tryz.func225, Tryz.ntmps225
    go_wp2_with fail
    (with_reducible refine (HU.out _).mono ?_)
    rintro e w1 ⟨rfl, rfl⟩
    go_wp2_with fail
    (with_reducible refine (HA.out _).mono ?_)
    rintro e w1 ⟨rfl, rfl⟩
    go_wp2_with fail
    (with_reducible refine (HC.out _).mono ?_)
    rintro e w1 ⟨rfl, rfl⟩
    go_wp2_with fail
    rw [HOR.out, Int.toNat_natCast]
    (with_reducible refine (isnan_any _ _).mono ?_)
    rintro e w1 ⟨rfl, rfl⟩
    rw [hnan]
    go_wp2
    have hr := Blk.new w 65 #[.float .f64 y, .int .i64 a, .int .i64 c]
    have z0 := hr.cell 0
    have z1 := hr.cell 1
    have z2 := hr.cell 2
    simp only [List.getElem?_toArray, List.getElem?_cons_zero, List.getElem?_cons_succ] at z0 z1 z2
    refine bodyPost_ret (v := .tuple #[.agg #[.float .f64 y, .int .i64 a, .int .i64 c], .int .i64 24, .int .i64 0]) (by simp [results, Tryz.results225, go_sem, z0, z1, z2]) rfl ⟨rfl, (Below.refl _ w).alloc (Nat.le_refl _) _⟩
def RdI (w : World) (g : Nat) (s : Bs) (i : Nat) : Prop := Blk w g 246 #[.string (S s), .int .i64 i, .bool false]
section
variable {w : World} {g : Nat} {s : Bs} {i : Nat}
theorem RdI.cells (h : RdI w g s i) : w.cell? ⟨g, 0, none⟩ = some (.string (S s)) ∧ w.cell? ⟨g, 1, none⟩ = some (.int .i64 i) ∧ w.cell? ⟨g, 2, none⟩ = some (.bool false) := by
  unfold RdI at h
  exact ⟨h.cell 0, h.cell 1, h.cell 2⟩
theorem RdI.step (h : RdI w g s i) (j : Nat) : RdI (w.setCell ⟨g, 1, none⟩ (.int .i64 j)) g s j := by
  unfold RdI at h ⊢
  simpa using h.set_ 1 (.int .i64 j)
set_option maxHeartbeats 4000000 in
theorem rbyte_any (h : RdI w g s i) (hi : i < s.length) (hl : s.length ≤ 1000) :
    Calls Tryz.prog 134 #[.pointer (some ⟨g, 0, none⟩)] w fun e w' => e = .returned (.int .i64 ((s.getD i 0).toNat : Int)) ∧ RdI w' g s (i + 1) ∧ Kp [g] w w' := by
  have HCL : Hid (∀ W, BelC w W → W.cell? ⟨g, 0, none⟩ = some (.string (S s)) ∧ W.cell? ⟨g, 1, none⟩ = some (.int .i64 i)) := hid fun W hW => by
    have h1 : RdI W g s i := hW.blk h
    exact ⟨h1.cells.1, h1.cells.2.1⟩
  have HX := hid h
  have hii : (i : Int) < (s.length : Int) := by omega
  have hw1 : IntKind.i64.wrap ((i : Int) + 1) = (i : Int) + 1 := by rw [IntKind.wrap_i64]; omega
  have hw2 : IntKind.i64.wrap ((i : Int) + 1 - 1) = (i : Int) := by rw [IntKind.wrap_i64]; omega
  have hw3 : IntKind.i64.wrap (i : Int) = (i : Int) := by rw [IntKind.wrap_i64]; omega
  have hcv : IntKind.i64.wrap ((s.getD i 0).toNat : Int) = ((s.getD i 0).toNat : Int) := by
    have := (s.getD i 0).toNat_lt
    rw [IntKind.wrap_i64]; omega
  have HV : Hid (IntKind.i64.wrap ((s[i]'hi).toNat : Int) = ((s.getD i 0).toNat : Int)) := hid (by
    have e : s[i]'hi = s.getD i 0 := by simp [List.getD, hi]
    rw [e]
    exact hcv)
  have hdec : decide ((s.length : Int) ≤ (i : Int)) = false := decide_eq_false (by omega)
  have h0 : (0 : Int) ≤ (i : Int) := by omega
  have hlt := Blk.lt h
  clear h hl
  go_enter Tryz.func134, Tryz.ntmps134
  go_wp2
  refine qC_region (by kernel_rfl) (by kernel_rfl) (BelC w) (BelC.drew w) ?_
  repeat (first | (refine qC_none rfl (fun K hK => ?_); apply Exists.intro; refine ⟨fun w0 hw0 => ?_, ?_⟩; (focus (obtain ⟨q0, q1⟩ := HCL.out w0 hw0; go_simp; first | exact rfl | exact ⟨rfl, rfl⟩ | (fail))); go_simp; refine hK _ ?_; clear hK K) | (refine qC_yes _ _ _ rfl rfl (by rfl) (fun K hK => ?_); apply Exists.intro; refine ⟨fun w0 hw0 => ?_, ?_⟩; (focus (obtain ⟨q0, q1⟩ := HCL.out w0 hw0; go_simp; first | exact rfl | exact ⟨rfl, rfl⟩ | (fail))); go_simp; refine hK _ ?_; clear hK K) | (refine qC_no _ _ _ rfl rfl (by rfl) (fun K hK => ?_); go_simp; refine hK _ ?_; clear hK K) | (refine qC_undef _ _ _ rfl rfl (by rfl) (fun K hK => ?_); go_simp; refine hK _ ?_; clear hK K))
  refine qC_nil ?_
  intro w1 hw1'
  have h1 : RdI w1 g s i := hw1'.blk HX.out
  have hk1 : Kp [g] w w1 := Kp.of_below hw1'.out
  obtain ⟨c0, c1, c2⟩ := h1.cells
  have f1 := Blk.frozen h1 1
  have hlt1 := Blk.lt h1
  have H1 := hid (⟨h1, hk1⟩ : _ ∧ _)
  clear hw1' h1 hk1
  go_wp2
  obtain ⟨W2, hW2⟩ : ∃ W2, W2 = w1.setCell ⟨g, 1, none⟩ (.int .i64 ((i + 1 : Nat) : Int)) := ⟨_, rfl⟩
  have h2 : RdI W2 g s (i + 1) := by rw [hW2]; exact H1.out.1.step (i + 1)
  have hk2 : Kp [g] w W2 := by rw [hW2]; exact H1.out.2.setCell (.inl (by simp)) _
  have HW2 := hid hW2
  have ec : ((i + 1 : Nat) : Int) = (i : Int) + 1 := by omega
  rw [ec] at hW2
  rw [← hW2]
  have HCL2 : Hid (∀ W, BelC W2 W → W.cell? ⟨g, 0, none⟩ = some (.string (S s)) ∧ W.cell? ⟨g, 1, none⟩ = some (.int .i64 ((i : Int) + 1))) := hid fun W hW => by
    have h1 : RdI W g s (i + 1) := hW.blk h2
    rw [← ec]
    exact ⟨h1.cells.1, h1.cells.2.1⟩
  have H2 := hid (⟨h2, hk2⟩ : _ ∧ _)
  clear hW2 h2 hk2 ec c0 c1 c2 f1
  refine qC_region (by kernel_rfl) (by kernel_rfl) (BelC W2) (BelC.drew W2) ?_
  repeat (first | (refine qC_none rfl (fun K hK => ?_); apply Exists.intro; refine ⟨fun w0 hw0 => ?_, ?_⟩; (focus (obtain ⟨q0, q1⟩ := HCL2.out w0 hw0; go_simp; first | exact rfl | exact ⟨rfl, rfl⟩ | (fail))); go_simp; refine hK _ ?_; clear hK K) | (refine qC_yes _ _ _ rfl rfl (by rfl) (fun K hK => ?_); apply Exists.intro; refine ⟨fun w0 hw0 => ?_, ?_⟩; (focus (obtain ⟨q0, q1⟩ := HCL2.out w0 hw0; go_simp; first | exact rfl | exact ⟨rfl, rfl⟩ | (fail))); go_simp; refine hK _ ?_; clear hK K) | (refine qC_no _ _ _ rfl rfl (by rfl) (fun K hK => ?_); go_simp; refine hK _ ?_; clear hK K) | (refine qC_undef _ _ _ rfl rfl (by rfl) (fun K hK => ?_); go_simp; refine hK _ ?_; clear hK K))
  refine qC_nil ?_
  intro w3 hw3
  have H3 : Hid (RdI w3 g s (i + 1) ∧ Kp [g] w w3) := hid ⟨hw3.blk H2.out.1, H2.out.2.trans (Kp.of_below hw3.out)⟩
  clear hw3
  go_wp2
  go_ret
  exact ⟨congrArg (fun x => Ending.returned (.int .i64 x)) HV.out, H3.out⟩
set_option maxHeartbeats 4000000 in
theorem rint_any (h : RdI w g s i) (hi : i + 8 ≤ s.length) (hl : s.length ≤ 1000) :
    Calls Tryz.prog 135 #[.pointer (some ⟨g, 0, none⟩)] w fun e w' => e = .returned (.int .i64 (decI ((s.drop i).take 8))) ∧ RdI w' g s (i + 8) ∧ Kp [g] w w' := by
  have HCL : Hid (∀ W, BelC w W → W.cell? ⟨g, 0, none⟩ = some (.string (S s)) ∧ W.cell? ⟨g, 1, none⟩ = some (.int .i64 i)) := hid fun W hW => by
    have h1 : RdI W g s i := hW.blk h
    exact ⟨h1.cells.1, h1.cells.2.1⟩
  have HX := hid h
  have HC := hid (BelC.call_same (W1 := w) (fun W => readI_any s i W (by omega) hi))
  have hlt := Blk.lt h
  clear h hl hi
  go_enter Tryz.func135, Tryz.ntmps135
  go_wp2
  refine qC_region (by kernel_rfl) (by kernel_rfl) (BelC w) (BelC.drew w) ?_
  repeat (first | (refine qC_none rfl (fun K hK => ?_); apply Exists.intro; refine ⟨fun w0 hw0 => ?_, ?_⟩; (focus (obtain ⟨q0, q1⟩ := HCL.out w0 hw0; go_simp; first | exact rfl | exact ⟨rfl, rfl⟩ | (exact HC.out w0 hw0))); go_simp; refine hK _ ?_; clear hK K) | (refine qC_yes _ _ _ rfl rfl (by rfl) (fun K hK => ?_); apply Exists.intro; refine ⟨fun w0 hw0 => ?_, ?_⟩; (focus (obtain ⟨q0, q1⟩ := HCL.out w0 hw0; go_simp; first | exact rfl | exact ⟨rfl, rfl⟩ | (exact HC.out w0 hw0))); go_simp; refine hK _ ?_; clear hK K) | (refine qC_no _ _ _ rfl rfl (by rfl) (fun K hK => ?_); go_simp; refine hK _ ?_; clear hK K) | (refine qC_undef _ _ _ rfl rfl (by rfl) (fun K hK => ?_); go_simp; refine hK _ ?_; clear hK K))
  refine qC_nil ?_
  intro w1 hw1'
  have h1 : RdI w1 g s i := hw1'.blk HX.out
  have hk1 : Kp [g] w w1 := Kp.of_below hw1'.out
  obtain ⟨c0, c1, c2⟩ := h1.cells
  have f1 := Blk.frozen h1 1
  have hlt1 := Blk.lt h1
  have H1 : Hid (RdI (w1.setCell ⟨g, 1, none⟩ (.int .i64 ((i + 8 : Nat) : Int))) g s (i + 8) ∧ Kp [g] w (w1.setCell ⟨g, 1, none⟩ (.int .i64 ((i + 8 : Nat) : Int)))) := hid ⟨h1.step (i + 8), hk1.setCell (.inl (by simp)) _⟩
  have ec : ((i + 8 : Nat) : Int) = (i : Int) + 8 := by omega
  rw [ec] at H1
  clear hw1' h1 hk1 ec
  go_wp2
  go_ret
  exact ⟨rfl, H1.out⟩
end
end Go.Proofs.YtnnghcooidjlhaaGreat
end
