/-
  No cell of these rows narrows 'for every input' (looked for: loops, veiled, ifaces, maps, wideKeys, modest, calm, conditions, laid).
  DERIVED. THE GIVEN ROWS OF THIS SEAT. 6 by the template 'for every input the law returns true; each argument reads behind the call as it read before'; 0 by the template 'total and deterministic' (their statements: YtjoclapnjnmlkaaTotals.lean).
  GIVEN WITH THE SEED: the statements are not yours to turn. If you find one false, say at which input.
  Laid BY PROGRAM, IN A SANDBOX (cutbox-rows.mjs): the forced cells as the released guide's own fill.sh prints them over the translation 76dbfeeeb407546c… (all of the seat's roots in one cut). By AI agents, Wed Nov 11 2026. No macro, syntax, notation, axiom, sorry.
-/
import Derived.Test.YtjoclapnjnmlkaaChecked
import GoSem.Claim
import GoSem.ClaimJoined
import GoSem.ClaimMapViews
import Derived.JoinedTies
import Derived.KernelRfl
namespace Go.Proofs.Ytjoclapnjnmlkaa
/- THE CELL 'sum', in the pinned program and in every row, IS THE sha256 OF THE DUMP (.gsa) THAT YtjoclapnjnmlkaaProg.lean LOADS. Nothing in Lean hashes anything: it is a label: what it is worth is what the hold of that sum in a sandbox is worth. -/
noncomputable def Try.pinned : Pinned := { name := "ytjoclapnjnmlkaa", sum := "76dbfeeeb407546c967231ccb7ab5acb0f2be3ffb57fb0b2436210a68eaa2f5d", checked := Try.checked }
namespace Rows
def none {H : Type} : Left H := { results := [], args := [] }

/-- 'horologelaw35.WindowMost': WHATEVER THE INPUT: true; the input reads as it did. -/
def windowMostSpec : ChangeSpec := { name := "windowMost", fn := fun _ => fun
  | [d1, d2] => { results := [.lit (.bool true)], args := [d1, d2] }
  | _ => none }
def windowMostRow : OpenClaim := { program := "ytjoclapnjnmlkaa", sum := "76dbfeeeb407546c967231ccb7ab5acb0f2be3ffb57fb0b2436210a68eaa2f5d", func := "horologe/horologelaw35.WindowMost", spec := "windowMost", inPlace := ["math.Float64frombits", "math.Float64bits"], unfollowed := true, recurses := true, apart := false }
def WindowMostSaid : Prop := windowMostRow.holds Try.pinned (OpenSpec.ofChange windowMostSpec)

/-- ITS FALSE NEIGHBOUR: 'it returns false'. Refute it at one input. -/
def windowMostWrong : ChangeSpec := { name := "windowMost", fn := fun _ => fun
  | [d1, d2] => { results := [.lit (.bool false)], args := [d1, d2] }
  | _ => none }
def WindowMostWrongFalsely : Prop := windowMostRow.holds Try.pinned (OpenSpec.ofChange windowMostWrong)

/-- 'horologelaw35.WindowParts': WHATEVER THE INPUT: true; the input reads as it did. -/
def windowPartsSpec : ChangeSpec := { name := "windowParts", fn := fun _ => fun
  | [d] => { results := [.lit (.bool true)], args := [d] }
  | _ => none }
def windowPartsRow : OpenClaim := { program := "ytjoclapnjnmlkaa", sum := "76dbfeeeb407546c967231ccb7ab5acb0f2be3ffb57fb0b2436210a68eaa2f5d", func := "horologe/horologelaw35.WindowParts", spec := "windowParts", inPlace := ["math.Float64bits", "math.Float64frombits"], unfollowed := true, recurses := true, apart := false }
def WindowPartsSaid : Prop := windowPartsRow.holds Try.pinned (OpenSpec.ofChange windowPartsSpec)

/-- ITS FALSE NEIGHBOUR: 'it returns false'. Refute it at one input. -/
def windowPartsWrong : ChangeSpec := { name := "windowParts", fn := fun _ => fun
  | [d] => { results := [.lit (.bool false)], args := [d] }
  | _ => none }
def WindowPartsWrongFalsely : Prop := windowPartsRow.holds Try.pinned (OpenSpec.ofChange windowPartsWrong)

/-- 'horologelaw35.WindowGaps': WHATEVER THE INPUT: true; the input reads as it did. -/
def windowGapsSpec : ChangeSpec := { name := "windowGaps", fn := fun _ => fun
  | [d] => { results := [.lit (.bool true)], args := [d] }
  | _ => none }
def windowGapsRow : OpenClaim := { program := "ytjoclapnjnmlkaa", sum := "76dbfeeeb407546c967231ccb7ab5acb0f2be3ffb57fb0b2436210a68eaa2f5d", func := "horologe/horologelaw35.WindowGaps", spec := "windowGaps", inPlace := ["math.Float64frombits", "math.Float64bits"], unfollowed := true, recurses := true, apart := false }
def WindowGapsSaid : Prop := windowGapsRow.holds Try.pinned (OpenSpec.ofChange windowGapsSpec)

/-- ITS FALSE NEIGHBOUR: 'it returns false'. Refute it at one input. -/
def windowGapsWrong : ChangeSpec := { name := "windowGaps", fn := fun _ => fun
  | [d] => { results := [.lit (.bool false)], args := [d] }
  | _ => none }
def WindowGapsWrongFalsely : Prop := windowGapsRow.holds Try.pinned (OpenSpec.ofChange windowGapsWrong)

/-- 'horologelaw35.WindowOrder': WHATEVER THE INPUT: true; the input reads as it did. -/
def windowOrderSpec : ChangeSpec := { name := "windowOrder", fn := fun _ => fun
  | [d1, d2, d3] => { results := [.lit (.bool true)], args := [d1, d2, d3] }
  | _ => none }
def windowOrderRow : OpenClaim := { program := "ytjoclapnjnmlkaa", sum := "76dbfeeeb407546c967231ccb7ab5acb0f2be3ffb57fb0b2436210a68eaa2f5d", func := "horologe/horologelaw35.WindowOrder", spec := "windowOrder", inPlace := ["math.Float64bits", "math.Float64frombits"], unfollowed := true, recurses := true, apart := false }
def WindowOrderSaid : Prop := windowOrderRow.holds Try.pinned (OpenSpec.ofChange windowOrderSpec)

/-- ITS FALSE NEIGHBOUR: 'it returns false'. Refute it at one input. -/
def windowOrderWrong : ChangeSpec := { name := "windowOrder", fn := fun _ => fun
  | [d1, d2, d3] => { results := [.lit (.bool false)], args := [d1, d2, d3] }
  | _ => none }
def WindowOrderWrongFalsely : Prop := windowOrderRow.holds Try.pinned (OpenSpec.ofChange windowOrderWrong)

/-- 'horologelaw35.WindowGrows': WHATEVER THE INPUT: true; the input reads as it did. -/
def windowGrowsSpec : ChangeSpec := { name := "windowGrows", fn := fun _ => fun
  | [d] => { results := [.lit (.bool true)], args := [d] }
  | _ => none }
def windowGrowsRow : OpenClaim := { program := "ytjoclapnjnmlkaa", sum := "76dbfeeeb407546c967231ccb7ab5acb0f2be3ffb57fb0b2436210a68eaa2f5d", func := "horologe/horologelaw35.WindowGrows", spec := "windowGrows", inPlace := ["math.Float64frombits", "math.Float64bits"], unfollowed := true, recurses := true, apart := false }
def WindowGrowsSaid : Prop := windowGrowsRow.holds Try.pinned (OpenSpec.ofChange windowGrowsSpec)

/-- ITS FALSE NEIGHBOUR: 'it returns false'. Refute it at one input. -/
def windowGrowsWrong : ChangeSpec := { name := "windowGrows", fn := fun _ => fun
  | [d] => { results := [.lit (.bool false)], args := [d] }
  | _ => none }
def WindowGrowsWrongFalsely : Prop := windowGrowsRow.holds Try.pinned (OpenSpec.ofChange windowGrowsWrong)

/-- 'horologelaw35.WindowSpans': WHATEVER THE INPUT: true; the input reads as it did. -/
def windowSpansSpec : ChangeSpec := { name := "windowSpans", fn := fun _ => fun
  | [d1, d2] => { results := [.lit (.bool true)], args := [d1, d2] }
  | _ => none }
def windowSpansRow : OpenClaim := { program := "ytjoclapnjnmlkaa", sum := "76dbfeeeb407546c967231ccb7ab5acb0f2be3ffb57fb0b2436210a68eaa2f5d", func := "horologe/horologelaw35.WindowSpans", spec := "windowSpans", inPlace := ["math.Float64frombits", "math.Float64bits"], unfollowed := true, recurses := true, apart := false }
def WindowSpansSaid : Prop := windowSpansRow.holds Try.pinned (OpenSpec.ofChange windowSpansSpec)

/-- ITS FALSE NEIGHBOUR: 'it returns false'. Refute it at one input. -/
def windowSpansWrong : ChangeSpec := { name := "windowSpans", fn := fun _ => fun
  | [d1, d2] => { results := [.lit (.bool false)], args := [d1, d2] }
  | _ => none }
def WindowSpansWrongFalsely : Prop := windowSpansRow.holds Try.pinned (OpenSpec.ofChange windowSpansWrong)

/- THE SECOND FORM. 'bulk': how many values and letters a reading holds, each counted each time it is reached (what is shared counts as often as it is met; a slice's spare places count too). A statement '..UptoSaid' is the law's where the arguments, and the package variables that the reading takes, are together of bulk at most 1048576: NARROWER than '..Said'. Prove '..Said' where nothing that the law and all that it calls make is longer than what came in: it says more and counts as full. Else prove '..UptoSaid'. A law counts once. -/
mutual
def uptoBulk {H : Type} : DataW H → Nat
  | .lit (.string bytes) => bytes.length + 1
  | .lit _ => 1
  | .nil => 1
  | .ptr d => uptoBulk d + 1
  | .slice elems spare => uptoBulkAll elems + uptoBulkAll spare + 1
  | .agg parts => uptoBulkAll parts + 1
  | .iface _ d => uptoBulk d + 1
  | .map entries => uptoBulkEntries entries + 1
  | .held _ => 1
def uptoBulkAll {H : Type} : List (DataW H) → Nat
  | [] => 0
  | d :: r => uptoBulk d + uptoBulkAll r
def uptoBulkEntries {H : Type} : List (Lit × DataW H) → Nat
  | [] => 0
  | x :: r => uptoBulkEntry x + uptoBulkEntries r
def uptoBulkEntry {H : Type} : Lit × DataW H → Nat
  | (.string bytes, d) => bytes.length + uptoBulk d + 1
  | (_, d) => uptoBulk d + 1
 end
def uptoSmall : (H : Type) → List (DataW H) → Bool := fun _ ds => decide (uptoBulkAll ds ≤ 1048576)
def OpenSpec.upto (s : _root_.Go.ChangeSpec) : _root_.Go.OpenSpec := { _root_.Go.OpenSpec.ofChange s with cond := some uptoSmall }

/-- 'horologelaw35.WindowMost', WHERE WHAT IT READS IS OF BULK AT MOST 1048576: true; the input reads as it did. -/
def windowMostUptoRow : OpenClaim := { program := "ytjoclapnjnmlkaa", sum := "76dbfeeeb407546c967231ccb7ab5acb0f2be3ffb57fb0b2436210a68eaa2f5d", func := "horologe/horologelaw35.WindowMost", spec := "windowMost", inPlace := ["math.Float64frombits", "math.Float64bits"], unfollowed := true, recurses := true, apart := false, narrowed := true }
def WindowMostUptoSaid : Prop := windowMostUptoRow.holds Try.pinned (OpenSpec.upto windowMostSpec)

/-- 'horologelaw35.WindowParts', WHERE WHAT IT READS IS OF BULK AT MOST 1048576: true; the input reads as it did. -/
def windowPartsUptoRow : OpenClaim := { program := "ytjoclapnjnmlkaa", sum := "76dbfeeeb407546c967231ccb7ab5acb0f2be3ffb57fb0b2436210a68eaa2f5d", func := "horologe/horologelaw35.WindowParts", spec := "windowParts", inPlace := ["math.Float64bits", "math.Float64frombits"], unfollowed := true, recurses := true, apart := false, narrowed := true }
def WindowPartsUptoSaid : Prop := windowPartsUptoRow.holds Try.pinned (OpenSpec.upto windowPartsSpec)

/-- 'horologelaw35.WindowGaps', WHERE WHAT IT READS IS OF BULK AT MOST 1048576: true; the input reads as it did. -/
def windowGapsUptoRow : OpenClaim := { program := "ytjoclapnjnmlkaa", sum := "76dbfeeeb407546c967231ccb7ab5acb0f2be3ffb57fb0b2436210a68eaa2f5d", func := "horologe/horologelaw35.WindowGaps", spec := "windowGaps", inPlace := ["math.Float64frombits", "math.Float64bits"], unfollowed := true, recurses := true, apart := false, narrowed := true }
def WindowGapsUptoSaid : Prop := windowGapsUptoRow.holds Try.pinned (OpenSpec.upto windowGapsSpec)

/-- 'horologelaw35.WindowOrder', WHERE WHAT IT READS IS OF BULK AT MOST 1048576: true; the input reads as it did. -/
def windowOrderUptoRow : OpenClaim := { program := "ytjoclapnjnmlkaa", sum := "76dbfeeeb407546c967231ccb7ab5acb0f2be3ffb57fb0b2436210a68eaa2f5d", func := "horologe/horologelaw35.WindowOrder", spec := "windowOrder", inPlace := ["math.Float64bits", "math.Float64frombits"], unfollowed := true, recurses := true, apart := false, narrowed := true }
def WindowOrderUptoSaid : Prop := windowOrderUptoRow.holds Try.pinned (OpenSpec.upto windowOrderSpec)

/-- 'horologelaw35.WindowGrows', WHERE WHAT IT READS IS OF BULK AT MOST 1048576: true; the input reads as it did. -/
def windowGrowsUptoRow : OpenClaim := { program := "ytjoclapnjnmlkaa", sum := "76dbfeeeb407546c967231ccb7ab5acb0f2be3ffb57fb0b2436210a68eaa2f5d", func := "horologe/horologelaw35.WindowGrows", spec := "windowGrows", inPlace := ["math.Float64frombits", "math.Float64bits"], unfollowed := true, recurses := true, apart := false, narrowed := true }
def WindowGrowsUptoSaid : Prop := windowGrowsUptoRow.holds Try.pinned (OpenSpec.upto windowGrowsSpec)

/-- 'horologelaw35.WindowSpans', WHERE WHAT IT READS IS OF BULK AT MOST 1048576: true; the input reads as it did. -/
def windowSpansUptoRow : OpenClaim := { program := "ytjoclapnjnmlkaa", sum := "76dbfeeeb407546c967231ccb7ab5acb0f2be3ffb57fb0b2436210a68eaa2f5d", func := "horologe/horologelaw35.WindowSpans", spec := "windowSpans", inPlace := ["math.Float64frombits", "math.Float64bits"], unfollowed := true, recurses := true, apart := false, narrowed := true }
def WindowSpansUptoSaid : Prop := windowSpansUptoRow.holds Try.pinned (OpenSpec.upto windowSpansSpec)

end Rows
end Go.Proofs.Ytjoclapnjnmlkaa
