/- Sums, differences and products of 64-bit floats in a walk: what is no number may be any word that is none. -/
import Derived.Test.YtjoclapnjnmlkaaFl
import Derived.Test.YtjoclapnjnmlkaaQ
import Derived.WalkKit
import Derived.WalkSpells
import Derived.WalkLawsBesides
set_option linter.unusedSimpArgs false
namespace Go.Proofs.Ytjoclapnjnmlkaa
open Go.RowKit

@[go_sem] theorem fold_eq (x y : Nat) : (FloatKind.f64.format.order x y == some Ordering.eq) = feq x y := rfl
@[go_sem] theorem fold_ne (x y : Nat) : (FloatKind.f64.format.order x y != some Ordering.eq) = !feq x y := rfl
@[go_sem] theorem fold_lt (x y : Nat) : (FloatKind.f64.format.order x y == some Ordering.lt) = flt x y := rfl
@[go_sem] theorem fold_gt (x y : Nat) : (FloatKind.f64.format.order x y == some Ordering.gt) = fgt x y := rfl
@[go_sem] theorem fold_ge (x y : Nat) : (fgt x y || feq x y) = fge x y := rfl
@[go_sem] theorem fold_le (x y : Nat) : (flt x y || feq x y) = fle x y := rfl
@[go_sem] theorem feq_self (x : Nat) : feq x x = !fnan x := by unfold feq fnan; simp [bne]

def fsub (x y : Nat) : Option Nat := FloatKind.f64.format.sub x y
def fadd (x y : Nat) : Option Nat := FloatKind.f64.format.add x y
def fmul (x y : Nat) : Option Nat := FloatKind.f64.format.mul x y

/-- the word that is taken where there is no number -/
def nanW (w : World) (x y : Nat) : Nat := (Question.nanBits .f64 x y).cut (w.tape w.drawn (.nanBits .f64 x y))
theorem fnan_nanW (w : World) (x y : Nat) : fnan (nanW w x y) = true := by
  rw [fnan_iff]
  unfold nanW Question.cut frung
  simp only
  generalize w.tape w.drawn (.nanBits .f64 x y) = t
  have h1 : t % 2 < 2 := Nat.mod_lt _ (by omega)
  have h2 : t / 2 % (2 ^ 52 - 1) < 2 ^ 52 - 1 := Nat.mod_lt _ (by omega)
  generalize t % 2 = s at h1
  generalize t / 2 % (2 ^ 52 - 1) = m at h2
  omega
def orNan (w : World) (x y : Nat) : Option Nat → Nat
  | some r => r
  | none => nanW w x y
def draws : Option Nat → Nat
  | some _ => 0
  | none => 1

section
variable {P : Program} (w : World) (t : TypeId) (x y : Nat)
@[go_sem] theorem run_fsub : (binOp .sub t (.float .f64 x) (.float .f64 y)).run P w = .ok (.float .f64 (orNan w x y (fsub x y))) (w.drewN (draws (fsub x y))) := by
  cases h : fsub x y with
  | some r => have h' : FloatKind.f64.format.sub x y = some r := h
              simp [binOp, Op.floatArith, h', orNan, draws, World.drewN_zero]
  | none => have h' : FloatKind.f64.format.sub x y = none := h
            simp [binOp, Op.floatArith, h', orNan, draws, nanW, choose, Question.forced, Sem.run, World.drewN]
@[go_sem] theorem run_fadd : (binOp .add t (.float .f64 x) (.float .f64 y)).run P w = .ok (.float .f64 (orNan w x y (fadd x y))) (w.drewN (draws (fadd x y))) := by
  cases h : fadd x y with
  | some r => have h' : FloatKind.f64.format.add x y = some r := h
              simp [binOp, Op.floatArith, h', orNan, draws, World.drewN_zero]
  | none => have h' : FloatKind.f64.format.add x y = none := h
            simp [binOp, Op.floatArith, h', orNan, draws, nanW, choose, Question.forced, Sem.run, World.drewN]
@[go_sem] theorem run_fmul : (binOp .mul t (.float .f64 x) (.float .f64 y)).run P w = .ok (.float .f64 (orNan w x y (fmul x y))) (w.drewN (draws (fmul x y))) := by
  cases h : fmul x y with
  | some r => have h' : FloatKind.f64.format.mul x y = some r := h
              simp [binOp, Op.floatArith, h', orNan, draws, World.drewN_zero]
  | none => have h' : FloatKind.f64.format.mul x y = none := h
            simp [binOp, Op.floatArith, h', orNan, draws, nanW, choose, Question.forced, Sem.run, World.drewN]
end

@[go_sem] theorem run_store_float {P : Program} (w : World) (a : Addr) (m : Mode) (k : FloatKind) (b : Nat) : (store a (.float k b) m).run P w = stored P w a (.float k b) m := run_store P w a _ m rfl

/-- comparisons with what may be no number -/
def oLt : Option Nat → Nat → Bool
  | some r, z => flt r z
  | none, _ => false
def oGt : Option Nat → Nat → Bool
  | some r, z => fgt r z
  | none, _ => false
def oEq : Option Nat → Nat → Bool
  | some r, z => feq r z
  | none, _ => false
theorem flt_nan_l {x : Nat} (h : fnan x = true) (y : Nat) : flt x y = false := by unfold flt; rw [ford_nan_l h]; rfl
theorem fgt_nan_l {x : Nat} (h : fnan x = true) (y : Nat) : fgt x y = false := by unfold fgt; rw [ford_nan_l h]; rfl
theorem feq_nan_l {x : Nat} (h : fnan x = true) (y : Nat) : feq x y = false := by unfold feq; rw [ford_nan_l h]; rfl
theorem flt_nan_r {y : Nat} (h : fnan y = true) (x : Nat) : flt x y = false := by unfold flt; rw [ford_nan_r h]; rfl
theorem fgt_nan_r {y : Nat} (h : fnan y = true) (x : Nat) : fgt x y = false := by unfold fgt; rw [ford_nan_r h]; rfl
theorem feq_nan_r {y : Nat} (h : fnan y = true) (x : Nat) : feq x y = false := by unfold feq; rw [ford_nan_r h]; rfl
@[go_sem] theorem flt_orNan (w : World) (x y z : Nat) (o : Option Nat) : flt (orNan w x y o) z = oLt o z := by
  cases o with
  | some r => rfl
  | none => exact flt_nan_l (fnan_nanW w x y) z
@[go_sem] theorem fgt_orNan (w : World) (x y z : Nat) (o : Option Nat) : fgt (orNan w x y o) z = oGt o z := by
  cases o with
  | some r => rfl
  | none => exact fgt_nan_l (fnan_nanW w x y) z
@[go_sem] theorem feq_orNan (w : World) (x y z : Nat) (o : Option Nat) : feq (orNan w x y o) z = oEq o z := by
  cases o with
  | some r => rfl
  | none => exact feq_nan_l (fnan_nanW w x y) z
@[go_sem] theorem fnan_orNan (w : World) (x y : Nat) (o : Option Nat) : fnan (orNan w x y o) = (match o with | some r => fnan r | none => true) := by
  cases o with
  | some r => rfl
  | none => exact fnan_nanW w x y

/-- what a difference may be -/
def isOr (o : Option Nat) (r : Nat) : Prop := match o with | some z => r = z | none => fnan r = true
theorem isOr_orNan (w : World) (x y : Nat) (o : Option Nat) : isOr o (orNan w x y o) := by
  cases o with
  | some r => rfl
  | none => exact fnan_nanW w x y
theorem isOr.lt {o : Option Nat} {r : Nat} (h : isOr o r) (z : Nat) : flt r z = oLt o z := by
  cases o with
  | some q => rw [show r = q from h]; rfl
  | none => exact flt_nan_l h z
theorem isOr.gt {o : Option Nat} {r : Nat} (h : isOr o r) (z : Nat) : fgt r z = oGt o z := by
  cases o with
  | some q => rw [show r = q from h]; rfl
  | none => exact fgt_nan_l h z

/-- one operation of a drawn region that has one value, whatever has been drawn -/
def detUpon (w : World) (v : Value) : Result Next → Prop
  | .ok (.value u) w' => w' = w ∧ u = v
  | .ok .skip w' => w' = w ∧ undef = v
  | _ => False
def detOne (P : Program) (o : Oper) (a : Act) (w : World) (next : Act → Prop) : Prop := ∃ v, (∀ n, detUpon (w.drewN n) v ((execOp a.eval o).run P (w.drewN n))) ∧ next (a.put o.dst v)
attribute [go_sem] detOne detUpon
theorem vOne_det {P : Program} {o : Oper} {a : Act} {w : World} {K : Act → Prop} (h : detOne P o a w K) : vOne P o a (Dr w) K := by
  obtain ⟨v, h1, h2⟩ := h
  refine ⟨fun u => u = v, fun w' hw' => ?_, fun u hu => by rw [hu]; exact h2⟩
  obtain ⟨n, rfl⟩ := hw'
  have h3 := h1 n
  generalize (execOp a.eval o).run P (w.drewN n) = r at h3
  unfold detUpon at h3
  split at h3
  · exact ⟨⟨n, h3.1⟩, h3.2⟩
  · exact ⟨⟨n, h3.1⟩, h3.2⟩
  · exact h3.elim
theorem wpV_det {P : Program} {ops : Array Oper} {w : World} {Q : Act → Prop} {a : Act} {o : Oper} {rest : List Oper}
    (h : ∀ K : Act → Prop, (∀ a, wpV P ops (Dr w) Q rest a → K a) → if Region.wanted o (yielded ops a.tmps) then detOne P o a w K else K (a.put o.dst undef)) :
    wpV P ops (Dr w) Q (o :: rest) a :=
  wpV_step fun K hK => by
    have := h K hK
    split
    · rename_i hw; rw [if_pos hw] at this; exact vOne_det this
    · rename_i hw; rw [if_neg hw] at this; exact this
theorem wpV_want {P : Program} {ops : Array Oper} {w : World} {Q : Act → Prop} {a : Act} {o : Oper} {rest : List Oper} (hw : Region.wanted o (yielded ops a.tmps) = true)
    (h : ∀ K : Act → Prop, (∀ a, wpV P ops (Dr w) Q rest a → K a) → detOne P o a w K) : wpV P ops (Dr w) Q (o :: rest) a :=
  wpV_det fun K hK => by rw [if_pos hw]; exact h K hK
theorem wpV_pass {P : Program} {ops : Array Oper} {w : World} {Q : Act → Prop} {a : Act} {o : Oper} {rest : List Oper} (hw : Region.wanted o (yielded ops a.tmps) = false)
    (h : ∀ K : Act → Prop, (∀ a, wpV P ops (Dr w) Q rest a → K a) → K (a.put o.dst undef)) : wpV P ops (Dr w) Q (o :: rest) a :=
  wpV_det fun K hK => by rw [if_neg (by rw [hw]; exact Bool.false_ne_true)]; exact h K hK
theorem wanted_of {o : Oper} {l : List Oper} {a : Act} (j : Nat) (want : Bool) (d : Tmp) (b : Bool) (hg : o.guard = some (j, want)) (hd : (l[j]?).bind (·.dst) = some d)
    (hv : a.tmps.toList[d]? = some (.bool b)) : Region.wanted o (yielded l.toArray a.tmps) = (b == want) := by
  unfold Region.wanted yielded
  rw [hg]
  have h1 : l.toArray[j]? = l[j]? := by simp
  have h2 : a.tmps[d]? = a.tmps.toList[d]? := by simp
  simp only [h1, hd, Option.bind_some, h2, hv]
  cases b <;> cases want <;> rfl
theorem wpV_pass2 {P : Program} {l : List Oper} {w : World} {Q : Act → Prop} {a : Act} {o : Oper} {rest : List Oper} (j : Nat) (want : Bool) (d : Tmp) (hg : o.guard = some (j, want)) (hd : (l[j]?).bind (·.dst) = some d)
    (hv : a.tmps.toList[d]? = some (.bool !want))
    (h : ∀ K : Act → Prop, (∀ a, wpV P l.toArray (Dr w) Q rest a → K a) → K (a.put o.dst undef)) : wpV P l.toArray (Dr w) Q (o :: rest) a :=
  wpV_pass (by rw [wanted_of j want d _ hg hd hv]; cases want <;> rfl) h
theorem wpV_want2 {P : Program} {l : List Oper} {w : World} {Q : Act → Prop} {a : Act} {o : Oper} {rest : List Oper} (j : Nat) (want : Bool) (d : Tmp) (hg : o.guard = some (j, want)) (hd : (l[j]?).bind (·.dst) = some d)
    (hv : a.tmps.toList[d]? = some (.bool want))
    (h : ∀ K : Act → Prop, (∀ a, wpV P l.toArray (Dr w) Q rest a → K a) → detOne P o a w K) : wpV P l.toArray (Dr w) Q (o :: rest) a :=
  wpV_want (by rw [wanted_of j want d _ hg hd hv]; cases want <;> rfl) h
theorem wpV_pass3 {P : Program} {l : List Oper} {w : World} {Q : Act → Prop} {a : Act} {o : Oper} {rest : List Oper} (j : Nat) (want : Bool) (d : Tmp) (hg : o.guard = some (j, want)) (hd : (l[j]?).bind (·.dst) = some d)
    (hv : a.tmps.toList[d]? = some undef)
    (h : ∀ K : Act → Prop, (∀ a, wpV P l.toArray (Dr w) Q rest a → K a) → K (a.put o.dst undef)) : wpV P l.toArray (Dr w) Q (o :: rest) a :=
  wpV_pass (by
    unfold Region.wanted yielded
    rw [hg]
    have h1 : l.toArray[j]? = l[j]? := by simp
    have h2 : a.tmps[d]? = a.tmps.toList[d]? := by simp
    simp only [h1, hd, Option.bind_some, h2, hv]
    cases want <;> rfl) h
theorem wpV_none {P : Program} {l : List Oper} {w : World} {Q : Act → Prop} {a : Act} {o : Oper} {rest : List Oper} (hg : o.guard = none)
    (h : ∀ K : Act → Prop, (∀ a, wpV P l.toArray (Dr w) Q rest a → K a) → detOne P o a w K) : wpV P l.toArray (Dr w) Q (o :: rest) a :=
  wpV_want (by unfold Region.wanted; rw [hg]) h
/-- a difference in a drawn region -/
theorem wpV_sub {P : Program} {ops : Array Oper} {w : World} {Q : Act → Prop} {a : Act} {o : Oper} {rest : List Oper} (t t' : TypeId) (x y : Operand) (ho : o.op = .binOp .sub t x y t') (p q : Nat)
    (hx : a.eval x = .float .f64 p) (hy : a.eval y = .float .f64 q) (hw : Region.wanted o (yielded ops a.tmps) = true)
    (h0 : ∀ r, isOr (fsub p q) r → ∀ K : Act → Prop, (∀ a, wpV P ops (Dr w) Q rest a → K a) → K (a.put o.dst (.float .f64 r))) : wpV P ops (Dr w) Q (o :: rest) a := by
  have h : ∀ r, isOr (fsub p q) r → wpV P ops (Dr w) Q rest (a.put o.dst (.float .f64 r)) := fun r hr => h0 r hr _ (fun _ h => h)
  clear h0
  rw [wpV_cons]
  rw [if_pos hw]
  refine ⟨fun v => ∃ r, isOr (fsub p q) r ∧ v = .float .f64 r, fun w' hw' => ?_, fun v hv => ?_⟩
  · obtain ⟨n, rfl⟩ := hw'
    have hb : (execOp a.eval o).run P (w.drewN n) = .ok (.value (.float .f64 (orNan (w.drewN n) p q (fsub p q)))) ((w.drewN n).drewN (draws (fsub p q))) := by
      simp [execOp, ho, hx, hy, run_fsub, eqGuard]
    rw [hb]
    exact ⟨⟨_, World.drewN_drewN _ _ _⟩, _, isOr_orNan _ _ _ _, rfl⟩
  · obtain ⟨r, hr, rfl⟩ := hv
    exact h r hr
theorem wpV_sub2 {P : Program} {l : List Oper} {w : World} {Q : Act → Prop} {a : Act} {o : Oper} {rest : List Oper} (j : Nat) (want : Bool) (d : Tmp) (hg : o.guard = some (j, want)) (hd : (l[j]?).bind (·.dst) = some d)
    (hv : a.tmps.toList[d]? = some (.bool want)) (t t' : TypeId) (x y : Operand) (ho : o.op = .binOp .sub t x y t') (p q : Nat)
    (hx : a.eval x = .float .f64 p) (hy : a.eval y = .float .f64 q)
    (h0 : ∀ r, isOr (fsub p q) r → ∀ K : Act → Prop, (∀ a, wpV P l.toArray (Dr w) Q rest a → K a) → K (a.put o.dst (.float .f64 r))) : wpV P l.toArray (Dr w) Q (o :: rest) a :=
  wpV_sub t t' x y ho p q hx hy (by rw [wanted_of j want d _ hg hd hv]; cases want <;> rfl) h0
theorem wpV_sub0 {P : Program} {l : List Oper} {w : World} {Q : Act → Prop} {a : Act} {o : Oper} {rest : List Oper} (hg : o.guard = none)
    (t t' : TypeId) (x y : Operand) (ho : o.op = .binOp .sub t x y t') (p q : Nat)
    (hx : a.eval x = .float .f64 p) (hy : a.eval y = .float .f64 q)
    (h0 : ∀ r, isOr (fsub p q) r → ∀ K : Act → Prop, (∀ a, wpV P l.toArray (Dr w) Q rest a → K a) → K (a.put o.dst (.float .f64 r))) : wpV P l.toArray (Dr w) Q (o :: rest) a :=
  wpV_sub t t' x y ho p q hx hy (by unfold Region.wanted; rw [hg]) h0
end Go.Proofs.Ytjoclapnjnmlkaa
