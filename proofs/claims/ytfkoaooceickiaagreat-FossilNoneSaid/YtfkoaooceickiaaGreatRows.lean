/-
  No cell of these rows narrows 'for every input' (looked for: loops, veiled, ifaces, maps, wideKeys, modest, calm, conditions, laid).
  DERIVED. THE GIVEN ROWS OF THIS SEAT. 5 by the template 'for every input the law returns true; each argument reads behind the call as it read before'; 0 by the template 'total and deterministic' (their statements: YtfkoaooceickiaaGreatTotals.lean).
  GIVEN WITH THE SEED: the statements are not yours to turn. If you find one false, say at which input.
  Laid BY PROGRAM, IN A SANDBOX (cutbox-rows.mjs): the forced cells as the released guide's own fill.sh prints them over the translation c4cbf83903a45769… (all of the seat's roots in one cut). By AI agents, Wed Nov 11 2026. No macro, syntax, notation, axiom, sorry.
-/
import Derived.Test.YtfkoaooceickiaaGreatChecked
import GoSem.Claim
import GoSem.ClaimJoined
import GoSem.ClaimMapViews
import Derived.JoinedTies
import Derived.KernelRfl
namespace Go.Proofs.YtfkoaooceickiaaGreat
/- THE CELL 'sum', in the pinned program and in every row, IS THE sha256 OF THE DUMP (.gsa) THAT YtfkoaooceickiaaGreatProg.lean LOADS. Nothing in Lean hashes anything: it is a label: what it is worth is what the hold of that sum in a sandbox is worth. -/
noncomputable def Tryz.pinned : Pinned := { name := "ytfkoaooceickiaagreat", sum := "c4cbf83903a45769e7fdff9c3f33873d1b921f608a2b6a2ab492fbb1805438ec", checked := Tryz.checked }
namespace Rows
def none {H : Type} : Left H := { results := [], args := [] }

/-- 'horologelaw26.LpNone': WHATEVER THE INPUT: true; the input reads as it did. -/
def lpNoneSpec : ChangeSpec := { name := "lpNone", fn := fun _ => fun
  | [d1, d2, d3] => { results := [.lit (.bool true)], args := [d1, d2, d3] }
  | _ => none }
def lpNoneRow : OpenClaim := { program := "ytfkoaooceickiaagreat", sum := "c4cbf83903a45769e7fdff9c3f33873d1b921f608a2b6a2ab492fbb1805438ec", func := "horologe/horologelaw26.LpNone", spec := "lpNone", inPlace := ["internal/bytealg.abigen_runtime_cmpstring", "slices.overlaps[horologe/node.Entry]", "math.Float64bits", "math.Float64frombits"], unfollowed := true, recurses := true, apart := false }
def LpNoneSaid : Prop := lpNoneRow.holds Tryz.pinned (OpenSpec.ofChange lpNoneSpec)

/-- ITS FALSE NEIGHBOUR: 'it returns false'. Refute it at one input. -/
def lpNoneWrong : ChangeSpec := { name := "lpNone", fn := fun _ => fun
  | [d1, d2, d3] => { results := [.lit (.bool false)], args := [d1, d2, d3] }
  | _ => none }
def LpNoneWrongFalsely : Prop := lpNoneRow.holds Tryz.pinned (OpenSpec.ofChange lpNoneWrong)

/-- 'horologelaw27.CancelNone': WHATEVER THE INPUT: true; the input reads as it did. -/
def cancelNoneSpec : ChangeSpec := { name := "cancelNone", fn := fun _ => fun
  | [d1, d2, d3] => { results := [.lit (.bool true)], args := [d1, d2, d3] }
  | _ => none }
def cancelNoneRow : OpenClaim := { program := "ytfkoaooceickiaagreat", sum := "c4cbf83903a45769e7fdff9c3f33873d1b921f608a2b6a2ab492fbb1805438ec", func := "horologe/horologelaw27.CancelNone", spec := "cancelNone", inPlace := ["internal/bytealg.abigen_runtime_cmpstring", "slices.overlaps[horologe/node.Entry]", "math.Float64bits", "math.Float64frombits"], unfollowed := true, recurses := true, apart := false }
def CancelNoneSaid : Prop := cancelNoneRow.holds Tryz.pinned (OpenSpec.ofChange cancelNoneSpec)

/-- ITS FALSE NEIGHBOUR: 'it returns false'. Refute it at one input. -/
def cancelNoneWrong : ChangeSpec := { name := "cancelNone", fn := fun _ => fun
  | [d1, d2, d3] => { results := [.lit (.bool false)], args := [d1, d2, d3] }
  | _ => none }
def CancelNoneWrongFalsely : Prop := cancelNoneRow.holds Tryz.pinned (OpenSpec.ofChange cancelNoneWrong)

/-- 'horologelaw28.GvtNone': WHATEVER THE INPUT: true; the input reads as it did. -/
def gvtNoneSpec : ChangeSpec := { name := "gvtNone", fn := fun _ => fun
  | [d] => { results := [.lit (.bool true)], args := [d] }
  | _ => none }
def gvtNoneRow : OpenClaim := { program := "ytfkoaooceickiaagreat", sum := "c4cbf83903a45769e7fdff9c3f33873d1b921f608a2b6a2ab492fbb1805438ec", func := "horologe/horologelaw28.GvtNone", spec := "gvtNone", inPlace := ["internal/bytealg.abigen_runtime_cmpstring", "slices.overlaps[horologe/node.Entry]", "math.Float64bits", "math.Float64frombits"], unfollowed := true, recurses := true, apart := false }
def GvtNoneSaid : Prop := gvtNoneRow.holds Tryz.pinned (OpenSpec.ofChange gvtNoneSpec)

/-- ITS FALSE NEIGHBOUR: 'it returns false'. Refute it at one input. -/
def gvtNoneWrong : ChangeSpec := { name := "gvtNone", fn := fun _ => fun
  | [d] => { results := [.lit (.bool false)], args := [d] }
  | _ => none }
def GvtNoneWrongFalsely : Prop := gvtNoneRow.holds Tryz.pinned (OpenSpec.ofChange gvtNoneWrong)

/-- 'horologelaw29.FossilNone': WHATEVER THE INPUT: true; the input reads as it did. -/
def fossilNoneSpec : ChangeSpec := { name := "fossilNone", fn := fun _ => fun
  | [d] => { results := [.lit (.bool true)], args := [d] }
  | _ => none }
def fossilNoneRow : OpenClaim := { program := "ytfkoaooceickiaagreat", sum := "c4cbf83903a45769e7fdff9c3f33873d1b921f608a2b6a2ab492fbb1805438ec", func := "horologe/horologelaw29.FossilNone", spec := "fossilNone", inPlace := ["internal/bytealg.abigen_runtime_cmpstring", "slices.overlaps[horologe/node.Entry]", "math.Float64bits", "math.Float64frombits"], unfollowed := true, recurses := true, apart := false }
def FossilNoneSaid : Prop := fossilNoneRow.holds Tryz.pinned (OpenSpec.ofChange fossilNoneSpec)

/-- ITS FALSE NEIGHBOUR: 'it returns false'. Refute it at one input. -/
def fossilNoneWrong : ChangeSpec := { name := "fossilNone", fn := fun _ => fun
  | [d] => { results := [.lit (.bool false)], args := [d] }
  | _ => none }
def FossilNoneWrongFalsely : Prop := fossilNoneRow.holds Tryz.pinned (OpenSpec.ofChange fossilNoneWrong)

/-- 'horologelaw30.KernelNone': WHATEVER THE INPUT: true; the input reads as it did. -/
def kernelNoneSpec : ChangeSpec := { name := "kernelNone", fn := fun _ => fun
  | [d1, d2] => { results := [.lit (.bool true)], args := [d1, d2] }
  | _ => none }
def kernelNoneRow : OpenClaim := { program := "ytfkoaooceickiaagreat", sum := "c4cbf83903a45769e7fdff9c3f33873d1b921f608a2b6a2ab492fbb1805438ec", func := "horologe/horologelaw30.KernelNone", spec := "kernelNone", inPlace := ["math.Float64bits", "internal/bytealg.abigen_runtime_cmpstring", "slices.overlaps[horologe/node.Entry]", "math.Float64frombits"], unfollowed := true, recurses := true, apart := false }
def KernelNoneSaid : Prop := kernelNoneRow.holds Tryz.pinned (OpenSpec.ofChange kernelNoneSpec)

/-- ITS FALSE NEIGHBOUR: 'it returns false'. Refute it at one input. -/
def kernelNoneWrong : ChangeSpec := { name := "kernelNone", fn := fun _ => fun
  | [d1, d2] => { results := [.lit (.bool false)], args := [d1, d2] }
  | _ => none }
def KernelNoneWrongFalsely : Prop := kernelNoneRow.holds Tryz.pinned (OpenSpec.ofChange kernelNoneWrong)

/- THE SECOND FORM. 'bulk': how many values and letters a reading holds, each counted each time it is reached (what is shared counts as often as it is met; a slice's spare places count too). A statement '..UptoSaid' is the law's where the arguments, and the package variables that the reading takes, are together of bulk at most 1048576: NARROWER than '..Said'. Prove '..Said' where nothing that the law and all that it calls make is longer than what came in: it says more and counts as full. Else prove '..UptoSaid'. A law counts once. -/
mutual
def uptoBulk {H : Type} : DataW H → Nat
  | .lit (.string bytes) => bytes.length + 1
  | .lit _ => 1
  | .nil => 1
  | .ptr d => uptoBulk d + 1
  | .slice elems spare => uptoBulkAll elems + uptoBulkAll spare + 1
  | .agg parts => uptoBulkAll parts + 1
  | .iface _ d => uptoBulk d + 1
  | .map entries => uptoBulkEntries entries + 1
  | .held _ => 1
def uptoBulkAll {H : Type} : List (DataW H) → Nat
  | [] => 0
  | d :: r => uptoBulk d + uptoBulkAll r
def uptoBulkEntries {H : Type} : List (Lit × DataW H) → Nat
  | [] => 0
  | x :: r => uptoBulkEntry x + uptoBulkEntries r
def uptoBulkEntry {H : Type} : Lit × DataW H → Nat
  | (.string bytes, d) => bytes.length + uptoBulk d + 1
  | (_, d) => uptoBulk d + 1
 end
def uptoSmall : (H : Type) → List (DataW H) → Bool := fun _ ds => decide (uptoBulkAll ds ≤ 1048576)
def OpenSpec.upto (s : _root_.Go.ChangeSpec) : _root_.Go.OpenSpec := { _root_.Go.OpenSpec.ofChange s with cond := some uptoSmall }

/-- 'horologelaw26.LpNone', WHERE WHAT IT READS IS OF BULK AT MOST 1048576: true; the input reads as it did. -/
def lpNoneUptoRow : OpenClaim := { program := "ytfkoaooceickiaagreat", sum := "c4cbf83903a45769e7fdff9c3f33873d1b921f608a2b6a2ab492fbb1805438ec", func := "horologe/horologelaw26.LpNone", spec := "lpNone", inPlace := ["internal/bytealg.abigen_runtime_cmpstring", "slices.overlaps[horologe/node.Entry]", "math.Float64bits", "math.Float64frombits"], unfollowed := true, recurses := true, apart := false, narrowed := true }
def LpNoneUptoSaid : Prop := lpNoneUptoRow.holds Tryz.pinned (OpenSpec.upto lpNoneSpec)

/-- 'horologelaw27.CancelNone', WHERE WHAT IT READS IS OF BULK AT MOST 1048576: true; the input reads as it did. -/
def cancelNoneUptoRow : OpenClaim := { program := "ytfkoaooceickiaagreat", sum := "c4cbf83903a45769e7fdff9c3f33873d1b921f608a2b6a2ab492fbb1805438ec", func := "horologe/horologelaw27.CancelNone", spec := "cancelNone", inPlace := ["internal/bytealg.abigen_runtime_cmpstring", "slices.overlaps[horologe/node.Entry]", "math.Float64bits", "math.Float64frombits"], unfollowed := true, recurses := true, apart := false, narrowed := true }
def CancelNoneUptoSaid : Prop := cancelNoneUptoRow.holds Tryz.pinned (OpenSpec.upto cancelNoneSpec)

/-- 'horologelaw28.GvtNone', WHERE WHAT IT READS IS OF BULK AT MOST 1048576: true; the input reads as it did. -/
def gvtNoneUptoRow : OpenClaim := { program := "ytfkoaooceickiaagreat", sum := "c4cbf83903a45769e7fdff9c3f33873d1b921f608a2b6a2ab492fbb1805438ec", func := "horologe/horologelaw28.GvtNone", spec := "gvtNone", inPlace := ["internal/bytealg.abigen_runtime_cmpstring", "slices.overlaps[horologe/node.Entry]", "math.Float64bits", "math.Float64frombits"], unfollowed := true, recurses := true, apart := false, narrowed := true }
def GvtNoneUptoSaid : Prop := gvtNoneUptoRow.holds Tryz.pinned (OpenSpec.upto gvtNoneSpec)

/-- 'horologelaw29.FossilNone', WHERE WHAT IT READS IS OF BULK AT MOST 1048576: true; the input reads as it did. -/
def fossilNoneUptoRow : OpenClaim := { program := "ytfkoaooceickiaagreat", sum := "c4cbf83903a45769e7fdff9c3f33873d1b921f608a2b6a2ab492fbb1805438ec", func := "horologe/horologelaw29.FossilNone", spec := "fossilNone", inPlace := ["internal/bytealg.abigen_runtime_cmpstring", "slices.overlaps[horologe/node.Entry]", "math.Float64bits", "math.Float64frombits"], unfollowed := true, recurses := true, apart := false, narrowed := true }
def FossilNoneUptoSaid : Prop := fossilNoneUptoRow.holds Tryz.pinned (OpenSpec.upto fossilNoneSpec)

/-- 'horologelaw30.KernelNone', WHERE WHAT IT READS IS OF BULK AT MOST 1048576: true; the input reads as it did. -/
def kernelNoneUptoRow : OpenClaim := { program := "ytfkoaooceickiaagreat", sum := "c4cbf83903a45769e7fdff9c3f33873d1b921f608a2b6a2ab492fbb1805438ec", func := "horologe/horologelaw30.KernelNone", spec := "kernelNone", inPlace := ["math.Float64bits", "internal/bytealg.abigen_runtime_cmpstring", "slices.overlaps[horologe/node.Entry]", "math.Float64frombits"], unfollowed := true, recurses := true, apart := false, narrowed := true }
def KernelNoneUptoSaid : Prop := kernelNoneUptoRow.holds Tryz.pinned (OpenSpec.upto kernelNoneSpec)

end Rows
end Go.Proofs.YtfkoaooceickiaaGreat
