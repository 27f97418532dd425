/- Parts of the proof: Oq+ Lpf. -/
import Derived.Test.YtfkoaooceickiaaGreatRows
import Derived.Deep.Slices
import Derived.ProofKit
import Derived.SizedLaws
import Derived.Laws.Cover2
import Derived.Carry
import Derived.Test.YtfkoaooceickiaaGreatH02
import Derived.Test.YtfkoaooceickiaaGreatH22
set_option linter.all false
set_option maxRecDepth 100000
namespace Go.Proofs.YtfkoaooceickiaaGreat
section
open Go.ChangeShapes Go.WideShapes Go.ChangeAt Go.RowKit Go.Deep
section
variable {H : Type} {enc : TypeId × Value → H} {P : Program} {w : World} {base : Nat} {spare : Nat → Bool} {held : Bool}
theorem leaf_bool {t : TypeId} {n : Nat} {c : Value} {x : DataW H × List MemPlace} (hu : P.underlying t = some .bool) (h : DataW.trod enc P w base spare held n t [c] = some x) : ∃ z, c = .bool z := by
 cases n with
 | zero => cases h
 | succ n =>
  cases c <;> simp [DataW.trod, hu] at h
  exact ⟨_, rfl⟩
end
theorem cellsBool : Tryz.prog.cellsOf 4 = 1 := by kernel_rfl
end
section
open Go.ChangeShapes Go.WideShapes Go.ChangeAt Go.RowKit Go.Deep
theorem cellsFour : Tryz.prog.cellsOf 89 = 4 := by kernel_rfl
section
variable {H : Type} {enc : TypeId × Value → H} {w : World} {spare : Nat → Bool} {held : Bool} {fuel : Nat}
theorem open_four {cs : List Value} {x : DataW H × List MemPlace} (h : DataW.trod enc Tryz.prog w 0 spare held fuel 89 cs = some x) :
  ∃ (t : Nat) (a : Bool) (fr n : Int), cs = [.float .f64 t, .bool a, .int .i64 fr, .int .i64 n] := by
 cases fuel with
 | zero => cases h
 | succ n =>
  obtain ⟨hl, hf⟩ := trod_fields Tryz.underlying89 h
  rw [cellsFour] at hl
  match cs, hl with
  | [c0, c1, c2, c3], _ =>
   simp [cellsInt, cellsBool, cellsFloat] at hf
   obtain ⟨⟨_, _, h0⟩, ⟨_, _, h1⟩, ⟨_, _, h2⟩, ⟨_, _, h3⟩⟩ := hf
   obtain ⟨t, rfl, _⟩ := leaf_float Tryz.underlying22 h0
   obtain ⟨a, rfl⟩ := leaf_bool Tryz.underlying4 h1
   obtain ⟨fr, rfl, _⟩ := leaf_int Tryz.underlying3 h2
   obtain ⟨m, rfl, _⟩ := leaf_int Tryz.underlying3 h3
   exact ⟨t, a, fr, m, rfl⟩
end
end
end Go.Proofs.YtfkoaooceickiaaGreat
