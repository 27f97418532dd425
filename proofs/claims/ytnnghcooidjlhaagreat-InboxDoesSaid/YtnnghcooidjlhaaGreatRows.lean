/-
  No cell of these rows narrows 'for every input' (looked for: loops, veiled, ifaces, maps, wideKeys, modest, calm, conditions, laid).
  DERIVED. THE GIVEN ROWS OF THIS SEAT. 16 by the template 'for every input the law returns true; each argument reads behind the call as it read before'; 0 by the template 'total and deterministic' (their statements: YtnnghcooidjlhaaGreatTotals.lean).
  GIVEN WITH THE SEED: the statements are not yours to turn. If you find one false, say at which input.
  Laid BY PROGRAM, IN A SANDBOX (cutbox-rows.mjs): the forced cells as the released guide's own fill.sh prints them over the translation 2741aad1d4977054… (all of the seat's roots in one cut). By AI agents, Wed Nov 11 2026. No macro, syntax, notation, axiom, sorry.
-/
import Derived.Test.YtnnghcooidjlhaaGreatChecked
import GoSem.Claim
import GoSem.ClaimJoined
import GoSem.ClaimMapViews
import Derived.JoinedTies
import Derived.KernelRfl
namespace Go.Proofs.YtnnghcooidjlhaaGreat
/- THE CELL 'sum', in the pinned program and in every row, IS THE sha256 OF THE DUMP (.gsa) THAT YtnnghcooidjlhaaGreatProg.lean LOADS. Nothing in Lean hashes anything: it is a label: what it is worth is what the hold of that sum in a sandbox is worth. -/
noncomputable def Tryz.pinned : Pinned := { name := "ytnnghcooidjlhaagreat", sum := "2741aad1d4977054a40b5610de58adebb3713b6c7b1987f47aa088183ccc82c7", checked := Tryz.checked }
namespace Rows
def none {H : Type} : Left H := { results := [], args := [] }

/-- 'horologelaw25.SnapsNearest': WHATEVER THE INPUT: true; the input reads as it did. -/
def snapsNearestSpec : ChangeSpec := { name := "snapsNearest", fn := fun _ => fun
  | [d1, d2] => { results := [.lit (.bool true)], args := [d1, d2] }
  | _ => none }
def snapsNearestRow : OpenClaim := { program := "ytnnghcooidjlhaagreat", sum := "2741aad1d4977054a40b5610de58adebb3713b6c7b1987f47aa088183ccc82c7", func := "horologe/horologelaw25.SnapsNearest", spec := "snapsNearest", inPlace := ["internal/bytealg.abigen_runtime_cmpstring", "slices.overlaps[horologe/node.Entry]"], unfollowed := true, recurses := true, apart := false }
def SnapsNearestSaid : Prop := snapsNearestRow.holds Tryz.pinned (OpenSpec.ofChange snapsNearestSpec)

/-- ITS FALSE NEIGHBOUR: 'it returns false'. Refute it at one input. -/
def snapsNearestWrong : ChangeSpec := { name := "snapsNearest", fn := fun _ => fun
  | [d1, d2] => { results := [.lit (.bool false)], args := [d1, d2] }
  | _ => none }
def SnapsNearestWrongFalsely : Prop := snapsNearestRow.holds Tryz.pinned (OpenSpec.ofChange snapsNearestWrong)

/-- 'horologelaw25.SnapsDo': WHATEVER THE INPUT: true; the input reads as it did. -/
def snapsDoSpec : ChangeSpec := { name := "snapsDo", fn := fun _ => fun
  | [d] => { results := [.lit (.bool true)], args := [d] }
  | _ => none }
def snapsDoRow : OpenClaim := { program := "ytnnghcooidjlhaagreat", sum := "2741aad1d4977054a40b5610de58adebb3713b6c7b1987f47aa088183ccc82c7", func := "horologe/horologelaw25.SnapsDo", spec := "snapsDo", inPlace := ["internal/bytealg.abigen_runtime_cmpstring", "slices.overlaps[horologe/node.Entry]"], unfollowed := true, recurses := true, apart := false }
def SnapsDoSaid : Prop := snapsDoRow.holds Tryz.pinned (OpenSpec.ofChange snapsDoSpec)

/-- ITS FALSE NEIGHBOUR: 'it returns false'. Refute it at one input. -/
def snapsDoWrong : ChangeSpec := { name := "snapsDo", fn := fun _ => fun
  | [d] => { results := [.lit (.bool false)], args := [d] }
  | _ => none }
def SnapsDoWrongFalsely : Prop := snapsDoRow.holds Tryz.pinned (OpenSpec.ofChange snapsDoWrong)

/-- 'horologelaw25.SnapsApart': WHATEVER THE INPUT: true; the input reads as it did. -/
def snapsApartSpec : ChangeSpec := { name := "snapsApart", fn := fun _ => fun
  | [d1, d2] => { results := [.lit (.bool true)], args := [d1, d2] }
  | _ => none }
def snapsApartRow : OpenClaim := { program := "ytnnghcooidjlhaagreat", sum := "2741aad1d4977054a40b5610de58adebb3713b6c7b1987f47aa088183ccc82c7", func := "horologe/horologelaw25.SnapsApart", spec := "snapsApart", inPlace := ["internal/bytealg.abigen_runtime_cmpstring", "slices.overlaps[horologe/node.Entry]"], unfollowed := true, recurses := true, apart := false }
def SnapsApartSaid : Prop := snapsApartRow.holds Tryz.pinned (OpenSpec.ofChange snapsApartSpec)

/-- ITS FALSE NEIGHBOUR: 'it returns false'. Refute it at one input. -/
def snapsApartWrong : ChangeSpec := { name := "snapsApart", fn := fun _ => fun
  | [d1, d2] => { results := [.lit (.bool false)], args := [d1, d2] }
  | _ => none }
def SnapsApartWrongFalsely : Prop := snapsApartRow.holds Tryz.pinned (OpenSpec.ofChange snapsApartWrong)

/-- 'horologelaw25.SnapsNone': WHATEVER THE INPUT: true; the input reads as it did. -/
def snapsNoneSpec : ChangeSpec := { name := "snapsNone", fn := fun _ => fun
  | [d1, d2] => { results := [.lit (.bool true)], args := [d1, d2] }
  | _ => none }
def snapsNoneRow : OpenClaim := { program := "ytnnghcooidjlhaagreat", sum := "2741aad1d4977054a40b5610de58adebb3713b6c7b1987f47aa088183ccc82c7", func := "horologe/horologelaw25.SnapsNone", spec := "snapsNone", inPlace := ["internal/bytealg.abigen_runtime_cmpstring", "slices.overlaps[horologe/node.Entry]"], unfollowed := true, recurses := true, apart := false }
def SnapsNoneSaid : Prop := snapsNoneRow.holds Tryz.pinned (OpenSpec.ofChange snapsNoneSpec)

/-- ITS FALSE NEIGHBOUR: 'it returns false'. Refute it at one input. -/
def snapsNoneWrong : ChangeSpec := { name := "snapsNone", fn := fun _ => fun
  | [d1, d2] => { results := [.lit (.bool false)], args := [d1, d2] }
  | _ => none }
def SnapsNoneWrongFalsely : Prop := snapsNoneRow.holds Tryz.pinned (OpenSpec.ofChange snapsNoneWrong)

/-- 'horologelaw24.OutboxMoves': WHATEVER THE INPUT: true; the input reads as it did. -/
def outboxMovesSpec : ChangeSpec := { name := "outboxMoves", fn := fun _ => fun
  | [d1, d2] => { results := [.lit (.bool true)], args := [d1, d2] }
  | _ => none }
def outboxMovesRow : OpenClaim := { program := "ytnnghcooidjlhaagreat", sum := "2741aad1d4977054a40b5610de58adebb3713b6c7b1987f47aa088183ccc82c7", func := "horologe/horologelaw24.OutboxMoves", spec := "outboxMoves", inPlace := ["math.Float64bits", "internal/bytealg.abigen_runtime_cmpstring", "slices.overlaps[horologe/node.Entry]", "math.Float64frombits"], unfollowed := true, recurses := true, apart := false }
def OutboxMovesSaid : Prop := outboxMovesRow.holds Tryz.pinned (OpenSpec.ofChange outboxMovesSpec)

/-- ITS FALSE NEIGHBOUR: 'it returns false'. Refute it at one input. -/
def outboxMovesWrong : ChangeSpec := { name := "outboxMoves", fn := fun _ => fun
  | [d1, d2] => { results := [.lit (.bool false)], args := [d1, d2] }
  | _ => none }
def OutboxMovesWrongFalsely : Prop := outboxMovesRow.holds Tryz.pinned (OpenSpec.ofChange outboxMovesWrong)

/-- 'horologelaw24.OutboxOrder': WHATEVER THE INPUT: true; the input reads as it did. -/
def outboxOrderSpec : ChangeSpec := { name := "outboxOrder", fn := fun _ => fun
  | [d1, d2] => { results := [.lit (.bool true)], args := [d1, d2] }
  | _ => none }
def outboxOrderRow : OpenClaim := { program := "ytnnghcooidjlhaagreat", sum := "2741aad1d4977054a40b5610de58adebb3713b6c7b1987f47aa088183ccc82c7", func := "horologe/horologelaw24.OutboxOrder", spec := "outboxOrder", inPlace := ["math.Float64bits", "internal/bytealg.abigen_runtime_cmpstring", "slices.overlaps[horologe/node.Entry]", "math.Float64frombits"], unfollowed := true, recurses := true, apart := false }
def OutboxOrderSaid : Prop := outboxOrderRow.holds Tryz.pinned (OpenSpec.ofChange outboxOrderSpec)

/-- ITS FALSE NEIGHBOUR: 'it returns false'. Refute it at one input. -/
def outboxOrderWrong : ChangeSpec := { name := "outboxOrder", fn := fun _ => fun
  | [d1, d2] => { results := [.lit (.bool false)], args := [d1, d2] }
  | _ => none }
def OutboxOrderWrongFalsely : Prop := outboxOrderRow.holds Tryz.pinned (OpenSpec.ofChange outboxOrderWrong)

/-- 'horologelaw24.OutboxDoes': WHATEVER THE INPUT: true; the input reads as it did. -/
def outboxDoesSpec : ChangeSpec := { name := "outboxDoes", fn := fun _ => fun
  | [d] => { results := [.lit (.bool true)], args := [d] }
  | _ => none }
def outboxDoesRow : OpenClaim := { program := "ytnnghcooidjlhaagreat", sum := "2741aad1d4977054a40b5610de58adebb3713b6c7b1987f47aa088183ccc82c7", func := "horologe/horologelaw24.OutboxDoes", spec := "outboxDoes", inPlace := ["math.Float64bits", "internal/bytealg.abigen_runtime_cmpstring", "slices.overlaps[horologe/node.Entry]", "math.Float64frombits"], unfollowed := true, recurses := true, apart := false }
def OutboxDoesSaid : Prop := outboxDoesRow.holds Tryz.pinned (OpenSpec.ofChange outboxDoesSpec)

/-- ITS FALSE NEIGHBOUR: 'it returns false'. Refute it at one input. -/
def outboxDoesWrong : ChangeSpec := { name := "outboxDoes", fn := fun _ => fun
  | [d] => { results := [.lit (.bool false)], args := [d] }
  | _ => none }
def OutboxDoesWrongFalsely : Prop := outboxDoesRow.holds Tryz.pinned (OpenSpec.ofChange outboxDoesWrong)

/-- 'horologelaw24.OutboxNone': WHATEVER THE INPUT: true; the input reads as it did. -/
def outboxNoneSpec : ChangeSpec := { name := "outboxNone", fn := fun _ => fun
  | [d1, d2] => { results := [.lit (.bool true)], args := [d1, d2] }
  | _ => none }
def outboxNoneRow : OpenClaim := { program := "ytnnghcooidjlhaagreat", sum := "2741aad1d4977054a40b5610de58adebb3713b6c7b1987f47aa088183ccc82c7", func := "horologe/horologelaw24.OutboxNone", spec := "outboxNone", inPlace := ["internal/bytealg.abigen_runtime_cmpstring", "math.Float64frombits", "math.Float64bits", "slices.overlaps[horologe/node.Entry]"], unfollowed := true, recurses := true, apart := false }
def OutboxNoneSaid : Prop := outboxNoneRow.holds Tryz.pinned (OpenSpec.ofChange outboxNoneSpec)

/-- ITS FALSE NEIGHBOUR: 'it returns false'. Refute it at one input. -/
def outboxNoneWrong : ChangeSpec := { name := "outboxNone", fn := fun _ => fun
  | [d1, d2] => { results := [.lit (.bool false)], args := [d1, d2] }
  | _ => none }
def OutboxNoneWrongFalsely : Prop := outboxNoneRow.holds Tryz.pinned (OpenSpec.ofChange outboxNoneWrong)

/-- 'horologelaw23.InboxBack': WHATEVER THE INPUT: true; the input reads as it did. -/
def inboxBackSpec : ChangeSpec := { name := "inboxBack", fn := fun _ => fun
  | [d] => { results := [.lit (.bool true)], args := [d] }
  | _ => none }
def inboxBackRow : OpenClaim := { program := "ytnnghcooidjlhaagreat", sum := "2741aad1d4977054a40b5610de58adebb3713b6c7b1987f47aa088183ccc82c7", func := "horologe/horologelaw23.InboxBack", spec := "inboxBack", inPlace := ["math.Float64bits", "internal/bytealg.abigen_runtime_cmpstring", "slices.overlaps[horologe/node.Entry]", "math.Float64frombits"], unfollowed := true, recurses := true, apart := false }
def InboxBackSaid : Prop := inboxBackRow.holds Tryz.pinned (OpenSpec.ofChange inboxBackSpec)

/-- ITS FALSE NEIGHBOUR: 'it returns false'. Refute it at one input. -/
def inboxBackWrong : ChangeSpec := { name := "inboxBack", fn := fun _ => fun
  | [d] => { results := [.lit (.bool false)], args := [d] }
  | _ => none }
def InboxBackWrongFalsely : Prop := inboxBackRow.holds Tryz.pinned (OpenSpec.ofChange inboxBackWrong)

/-- 'horologelaw23.InboxOrder': WHATEVER THE INPUT: true; the input reads as it did. -/
def inboxOrderSpec : ChangeSpec := { name := "inboxOrder", fn := fun _ => fun
  | [d1, d2] => { results := [.lit (.bool true)], args := [d1, d2] }
  | _ => none }
def inboxOrderRow : OpenClaim := { program := "ytnnghcooidjlhaagreat", sum := "2741aad1d4977054a40b5610de58adebb3713b6c7b1987f47aa088183ccc82c7", func := "horologe/horologelaw23.InboxOrder", spec := "inboxOrder", inPlace := ["math.Float64bits", "internal/bytealg.abigen_runtime_cmpstring", "slices.overlaps[horologe/node.Entry]", "math.Float64frombits"], unfollowed := true, recurses := true, apart := false }
def InboxOrderSaid : Prop := inboxOrderRow.holds Tryz.pinned (OpenSpec.ofChange inboxOrderSpec)

/-- ITS FALSE NEIGHBOUR: 'it returns false'. Refute it at one input. -/
def inboxOrderWrong : ChangeSpec := { name := "inboxOrder", fn := fun _ => fun
  | [d1, d2] => { results := [.lit (.bool false)], args := [d1, d2] }
  | _ => none }
def InboxOrderWrongFalsely : Prop := inboxOrderRow.holds Tryz.pinned (OpenSpec.ofChange inboxOrderWrong)

/-- 'horologelaw22.FlightDoes': WHATEVER THE INPUT: true; the input reads as it did. -/
def flightDoesSpec : ChangeSpec := { name := "flightDoes", fn := fun _ => fun
  | [d] => { results := [.lit (.bool true)], args := [d] }
  | _ => none }
def flightDoesRow : OpenClaim := { program := "ytnnghcooidjlhaagreat", sum := "2741aad1d4977054a40b5610de58adebb3713b6c7b1987f47aa088183ccc82c7", func := "horologe/horologelaw22.FlightDoes", spec := "flightDoes", inPlace := ["math.Float64bits", "internal/bytealg.abigen_runtime_cmpstring", "slices.overlaps[horologe/node.Entry]", "math.Float64frombits"], unfollowed := true, recurses := true, apart := false }
def FlightDoesSaid : Prop := flightDoesRow.holds Tryz.pinned (OpenSpec.ofChange flightDoesSpec)

/-- ITS FALSE NEIGHBOUR: 'it returns false'. Refute it at one input. -/
def flightDoesWrong : ChangeSpec := { name := "flightDoes", fn := fun _ => fun
  | [d] => { results := [.lit (.bool false)], args := [d] }
  | _ => none }
def FlightDoesWrongFalsely : Prop := flightDoesRow.holds Tryz.pinned (OpenSpec.ofChange flightDoesWrong)

/-- 'horologelaw22.FlightOnce': WHATEVER THE INPUT: true; the input reads as it did. -/
def flightOnceSpec : ChangeSpec := { name := "flightOnce", fn := fun _ => fun
  | [d1, d2] => { results := [.lit (.bool true)], args := [d1, d2] }
  | _ => none }
def flightOnceRow : OpenClaim := { program := "ytnnghcooidjlhaagreat", sum := "2741aad1d4977054a40b5610de58adebb3713b6c7b1987f47aa088183ccc82c7", func := "horologe/horologelaw22.FlightOnce", spec := "flightOnce", inPlace := ["math.Float64bits", "internal/bytealg.abigen_runtime_cmpstring", "slices.overlaps[horologe/node.Entry]", "math.Float64frombits"], unfollowed := true, recurses := true, apart := false }
def FlightOnceSaid : Prop := flightOnceRow.holds Tryz.pinned (OpenSpec.ofChange flightOnceSpec)

/-- ITS FALSE NEIGHBOUR: 'it returns false'. Refute it at one input. -/
def flightOnceWrong : ChangeSpec := { name := "flightOnce", fn := fun _ => fun
  | [d1, d2] => { results := [.lit (.bool false)], args := [d1, d2] }
  | _ => none }
def FlightOnceWrongFalsely : Prop := flightOnceRow.holds Tryz.pinned (OpenSpec.ofChange flightOnceWrong)

/-- 'horologelaw22.FlightLeast': WHATEVER THE INPUT: true; the input reads as it did. -/
def flightLeastSpec : ChangeSpec := { name := "flightLeast", fn := fun _ => fun
  | [d] => { results := [.lit (.bool true)], args := [d] }
  | _ => none }
def flightLeastRow : OpenClaim := { program := "ytnnghcooidjlhaagreat", sum := "2741aad1d4977054a40b5610de58adebb3713b6c7b1987f47aa088183ccc82c7", func := "horologe/horologelaw22.FlightLeast", spec := "flightLeast", inPlace := ["math.Float64bits", "internal/bytealg.abigen_runtime_cmpstring", "slices.overlaps[horologe/node.Entry]", "math.Float64frombits"], unfollowed := true, recurses := true, apart := false }
def FlightLeastSaid : Prop := flightLeastRow.holds Tryz.pinned (OpenSpec.ofChange flightLeastSpec)

/-- ITS FALSE NEIGHBOUR: 'it returns false'. Refute it at one input. -/
def flightLeastWrong : ChangeSpec := { name := "flightLeast", fn := fun _ => fun
  | [d] => { results := [.lit (.bool false)], args := [d] }
  | _ => none }
def FlightLeastWrongFalsely : Prop := flightLeastRow.holds Tryz.pinned (OpenSpec.ofChange flightLeastWrong)

/-- 'horologelaw22.FlightNone': WHATEVER THE INPUT: true; the input reads as it did. -/
def flightNoneSpec : ChangeSpec := { name := "flightNone", fn := fun _ => fun
  | [d] => { results := [.lit (.bool true)], args := [d] }
  | _ => none }
def flightNoneRow : OpenClaim := { program := "ytnnghcooidjlhaagreat", sum := "2741aad1d4977054a40b5610de58adebb3713b6c7b1987f47aa088183ccc82c7", func := "horologe/horologelaw22.FlightNone", spec := "flightNone", inPlace := ["internal/bytealg.abigen_runtime_cmpstring", "math.Float64frombits", "math.Float64bits", "slices.overlaps[horologe/node.Entry]"], unfollowed := true, recurses := true, apart := false }
def FlightNoneSaid : Prop := flightNoneRow.holds Tryz.pinned (OpenSpec.ofChange flightNoneSpec)

/-- ITS FALSE NEIGHBOUR: 'it returns false'. Refute it at one input. -/
def flightNoneWrong : ChangeSpec := { name := "flightNone", fn := fun _ => fun
  | [d] => { results := [.lit (.bool false)], args := [d] }
  | _ => none }
def FlightNoneWrongFalsely : Prop := flightNoneRow.holds Tryz.pinned (OpenSpec.ofChange flightNoneWrong)

/-- 'horologelaw23.InboxDoes': WHATEVER THE INPUT: true; the input reads as it did. -/
def inboxDoesSpec : ChangeSpec := { name := "inboxDoes", fn := fun _ => fun
  | [d1, d2, d3] => { results := [.lit (.bool true)], args := [d1, d2, d3] }
  | _ => none }
def inboxDoesRow : OpenClaim := { program := "ytnnghcooidjlhaagreat", sum := "2741aad1d4977054a40b5610de58adebb3713b6c7b1987f47aa088183ccc82c7", func := "horologe/horologelaw23.InboxDoes", spec := "inboxDoes", inPlace := ["math.Float64bits", "internal/bytealg.abigen_runtime_cmpstring", "slices.overlaps[horologe/node.Entry]", "math.Float64frombits"], unfollowed := true, recurses := true, apart := false }
def InboxDoesSaid : Prop := inboxDoesRow.holds Tryz.pinned (OpenSpec.ofChange inboxDoesSpec)

/-- ITS FALSE NEIGHBOUR: 'it returns false'. Refute it at one input. -/
def inboxDoesWrong : ChangeSpec := { name := "inboxDoes", fn := fun _ => fun
  | [d1, d2, d3] => { results := [.lit (.bool false)], args := [d1, d2, d3] }
  | _ => none }
def InboxDoesWrongFalsely : Prop := inboxDoesRow.holds Tryz.pinned (OpenSpec.ofChange inboxDoesWrong)

/-- 'horologelaw23.InboxNone': WHATEVER THE INPUT: true; the input reads as it did. -/
def inboxNoneSpec : ChangeSpec := { name := "inboxNone", fn := fun _ => fun
  | [d1, d2, d3] => { results := [.lit (.bool true)], args := [d1, d2, d3] }
  | _ => none }
def inboxNoneRow : OpenClaim := { program := "ytnnghcooidjlhaagreat", sum := "2741aad1d4977054a40b5610de58adebb3713b6c7b1987f47aa088183ccc82c7", func := "horologe/horologelaw23.InboxNone", spec := "inboxNone", inPlace := ["math.Float64bits", "internal/bytealg.abigen_runtime_cmpstring", "slices.overlaps[horologe/node.Entry]", "math.Float64frombits"], unfollowed := true, recurses := true, apart := false }
def InboxNoneSaid : Prop := inboxNoneRow.holds Tryz.pinned (OpenSpec.ofChange inboxNoneSpec)

/-- ITS FALSE NEIGHBOUR: 'it returns false'. Refute it at one input. -/
def inboxNoneWrong : ChangeSpec := { name := "inboxNone", fn := fun _ => fun
  | [d1, d2, d3] => { results := [.lit (.bool false)], args := [d1, d2, d3] }
  | _ => none }
def InboxNoneWrongFalsely : Prop := inboxNoneRow.holds Tryz.pinned (OpenSpec.ofChange inboxNoneWrong)

/- THE SECOND FORM. 'bulk': how many values and letters a reading holds, each counted each time it is reached (what is shared counts as often as it is met; a slice's spare places count too). A statement '..UptoSaid' is the law's where the arguments, and the package variables that the reading takes, are together of bulk at most 1048576: NARROWER than '..Said'. Prove '..Said' where nothing that the law and all that it calls make is longer than what came in: it says more and counts as full. Else prove '..UptoSaid'. A law counts once. -/
mutual
def uptoBulk {H : Type} : DataW H → Nat
  | .lit (.string bytes) => bytes.length + 1
  | .lit _ => 1
  | .nil => 1
  | .ptr d => uptoBulk d + 1
  | .slice elems spare => uptoBulkAll elems + uptoBulkAll spare + 1
  | .agg parts => uptoBulkAll parts + 1
  | .iface _ d => uptoBulk d + 1
  | .map entries => uptoBulkEntries entries + 1
  | .held _ => 1
def uptoBulkAll {H : Type} : List (DataW H) → Nat
  | [] => 0
  | d :: r => uptoBulk d + uptoBulkAll r
def uptoBulkEntries {H : Type} : List (Lit × DataW H) → Nat
  | [] => 0
  | x :: r => uptoBulkEntry x + uptoBulkEntries r
def uptoBulkEntry {H : Type} : Lit × DataW H → Nat
  | (.string bytes, d) => bytes.length + uptoBulk d + 1
  | (_, d) => uptoBulk d + 1
 end
def uptoSmall : (H : Type) → List (DataW H) → Bool := fun _ ds => decide (uptoBulkAll ds ≤ 1048576)
def OpenSpec.upto (s : _root_.Go.ChangeSpec) : _root_.Go.OpenSpec := { _root_.Go.OpenSpec.ofChange s with cond := some uptoSmall }

/-- 'horologelaw25.SnapsNearest', WHERE WHAT IT READS IS OF BULK AT MOST 1048576: true; the input reads as it did. -/
def snapsNearestUptoRow : OpenClaim := { program := "ytnnghcooidjlhaagreat", sum := "2741aad1d4977054a40b5610de58adebb3713b6c7b1987f47aa088183ccc82c7", func := "horologe/horologelaw25.SnapsNearest", spec := "snapsNearest", inPlace := ["internal/bytealg.abigen_runtime_cmpstring", "slices.overlaps[horologe/node.Entry]"], unfollowed := true, recurses := true, apart := false, narrowed := true }
def SnapsNearestUptoSaid : Prop := snapsNearestUptoRow.holds Tryz.pinned (OpenSpec.upto snapsNearestSpec)

/-- 'horologelaw25.SnapsDo', WHERE WHAT IT READS IS OF BULK AT MOST 1048576: true; the input reads as it did. -/
def snapsDoUptoRow : OpenClaim := { program := "ytnnghcooidjlhaagreat", sum := "2741aad1d4977054a40b5610de58adebb3713b6c7b1987f47aa088183ccc82c7", func := "horologe/horologelaw25.SnapsDo", spec := "snapsDo", inPlace := ["internal/bytealg.abigen_runtime_cmpstring", "slices.overlaps[horologe/node.Entry]"], unfollowed := true, recurses := true, apart := false, narrowed := true }
def SnapsDoUptoSaid : Prop := snapsDoUptoRow.holds Tryz.pinned (OpenSpec.upto snapsDoSpec)

/-- 'horologelaw25.SnapsApart', WHERE WHAT IT READS IS OF BULK AT MOST 1048576: true; the input reads as it did. -/
def snapsApartUptoRow : OpenClaim := { program := "ytnnghcooidjlhaagreat", sum := "2741aad1d4977054a40b5610de58adebb3713b6c7b1987f47aa088183ccc82c7", func := "horologe/horologelaw25.SnapsApart", spec := "snapsApart", inPlace := ["internal/bytealg.abigen_runtime_cmpstring", "slices.overlaps[horologe/node.Entry]"], unfollowed := true, recurses := true, apart := false, narrowed := true }
def SnapsApartUptoSaid : Prop := snapsApartUptoRow.holds Tryz.pinned (OpenSpec.upto snapsApartSpec)

/-- 'horologelaw25.SnapsNone', WHERE WHAT IT READS IS OF BULK AT MOST 1048576: true; the input reads as it did. -/
def snapsNoneUptoRow : OpenClaim := { program := "ytnnghcooidjlhaagreat", sum := "2741aad1d4977054a40b5610de58adebb3713b6c7b1987f47aa088183ccc82c7", func := "horologe/horologelaw25.SnapsNone", spec := "snapsNone", inPlace := ["internal/bytealg.abigen_runtime_cmpstring", "slices.overlaps[horologe/node.Entry]"], unfollowed := true, recurses := true, apart := false, narrowed := true }
def SnapsNoneUptoSaid : Prop := snapsNoneUptoRow.holds Tryz.pinned (OpenSpec.upto snapsNoneSpec)

/-- 'horologelaw24.OutboxMoves', WHERE WHAT IT READS IS OF BULK AT MOST 1048576: true; the input reads as it did. -/
def outboxMovesUptoRow : OpenClaim := { program := "ytnnghcooidjlhaagreat", sum := "2741aad1d4977054a40b5610de58adebb3713b6c7b1987f47aa088183ccc82c7", func := "horologe/horologelaw24.OutboxMoves", spec := "outboxMoves", inPlace := ["math.Float64bits", "internal/bytealg.abigen_runtime_cmpstring", "slices.overlaps[horologe/node.Entry]", "math.Float64frombits"], unfollowed := true, recurses := true, apart := false, narrowed := true }
def OutboxMovesUptoSaid : Prop := outboxMovesUptoRow.holds Tryz.pinned (OpenSpec.upto outboxMovesSpec)

/-- 'horologelaw24.OutboxOrder', WHERE WHAT IT READS IS OF BULK AT MOST 1048576: true; the input reads as it did. -/
def outboxOrderUptoRow : OpenClaim := { program := "ytnnghcooidjlhaagreat", sum := "2741aad1d4977054a40b5610de58adebb3713b6c7b1987f47aa088183ccc82c7", func := "horologe/horologelaw24.OutboxOrder", spec := "outboxOrder", inPlace := ["math.Float64bits", "internal/bytealg.abigen_runtime_cmpstring", "slices.overlaps[horologe/node.Entry]", "math.Float64frombits"], unfollowed := true, recurses := true, apart := false, narrowed := true }
def OutboxOrderUptoSaid : Prop := outboxOrderUptoRow.holds Tryz.pinned (OpenSpec.upto outboxOrderSpec)

/-- 'horologelaw24.OutboxDoes', WHERE WHAT IT READS IS OF BULK AT MOST 1048576: true; the input reads as it did. -/
def outboxDoesUptoRow : OpenClaim := { program := "ytnnghcooidjlhaagreat", sum := "2741aad1d4977054a40b5610de58adebb3713b6c7b1987f47aa088183ccc82c7", func := "horologe/horologelaw24.OutboxDoes", spec := "outboxDoes", inPlace := ["math.Float64bits", "internal/bytealg.abigen_runtime_cmpstring", "slices.overlaps[horologe/node.Entry]", "math.Float64frombits"], unfollowed := true, recurses := true, apart := false, narrowed := true }
def OutboxDoesUptoSaid : Prop := outboxDoesUptoRow.holds Tryz.pinned (OpenSpec.upto outboxDoesSpec)

/-- 'horologelaw24.OutboxNone', WHERE WHAT IT READS IS OF BULK AT MOST 1048576: true; the input reads as it did. -/
def outboxNoneUptoRow : OpenClaim := { program := "ytnnghcooidjlhaagreat", sum := "2741aad1d4977054a40b5610de58adebb3713b6c7b1987f47aa088183ccc82c7", func := "horologe/horologelaw24.OutboxNone", spec := "outboxNone", inPlace := ["internal/bytealg.abigen_runtime_cmpstring", "math.Float64frombits", "math.Float64bits", "slices.overlaps[horologe/node.Entry]"], unfollowed := true, recurses := true, apart := false, narrowed := true }
def OutboxNoneUptoSaid : Prop := outboxNoneUptoRow.holds Tryz.pinned (OpenSpec.upto outboxNoneSpec)

/-- 'horologelaw23.InboxBack', WHERE WHAT IT READS IS OF BULK AT MOST 1048576: true; the input reads as it did. -/
def inboxBackUptoRow : OpenClaim := { program := "ytnnghcooidjlhaagreat", sum := "2741aad1d4977054a40b5610de58adebb3713b6c7b1987f47aa088183ccc82c7", func := "horologe/horologelaw23.InboxBack", spec := "inboxBack", inPlace := ["math.Float64bits", "internal/bytealg.abigen_runtime_cmpstring", "slices.overlaps[horologe/node.Entry]", "math.Float64frombits"], unfollowed := true, recurses := true, apart := false, narrowed := true }
def InboxBackUptoSaid : Prop := inboxBackUptoRow.holds Tryz.pinned (OpenSpec.upto inboxBackSpec)

/-- 'horologelaw23.InboxOrder', WHERE WHAT IT READS IS OF BULK AT MOST 1048576: true; the input reads as it did. -/
def inboxOrderUptoRow : OpenClaim := { program := "ytnnghcooidjlhaagreat", sum := "2741aad1d4977054a40b5610de58adebb3713b6c7b1987f47aa088183ccc82c7", func := "horologe/horologelaw23.InboxOrder", spec := "inboxOrder", inPlace := ["math.Float64bits", "internal/bytealg.abigen_runtime_cmpstring", "slices.overlaps[horologe/node.Entry]", "math.Float64frombits"], unfollowed := true, recurses := true, apart := false, narrowed := true }
def InboxOrderUptoSaid : Prop := inboxOrderUptoRow.holds Tryz.pinned (OpenSpec.upto inboxOrderSpec)

/-- 'horologelaw22.FlightDoes', WHERE WHAT IT READS IS OF BULK AT MOST 1048576: true; the input reads as it did. -/
def flightDoesUptoRow : OpenClaim := { program := "ytnnghcooidjlhaagreat", sum := "2741aad1d4977054a40b5610de58adebb3713b6c7b1987f47aa088183ccc82c7", func := "horologe/horologelaw22.FlightDoes", spec := "flightDoes", inPlace := ["math.Float64bits", "internal/bytealg.abigen_runtime_cmpstring", "slices.overlaps[horologe/node.Entry]", "math.Float64frombits"], unfollowed := true, recurses := true, apart := false, narrowed := true }
def FlightDoesUptoSaid : Prop := flightDoesUptoRow.holds Tryz.pinned (OpenSpec.upto flightDoesSpec)

/-- 'horologelaw22.FlightOnce', WHERE WHAT IT READS IS OF BULK AT MOST 1048576: true; the input reads as it did. -/
def flightOnceUptoRow : OpenClaim := { program := "ytnnghcooidjlhaagreat", sum := "2741aad1d4977054a40b5610de58adebb3713b6c7b1987f47aa088183ccc82c7", func := "horologe/horologelaw22.FlightOnce", spec := "flightOnce", inPlace := ["math.Float64bits", "internal/bytealg.abigen_runtime_cmpstring", "slices.overlaps[horologe/node.Entry]", "math.Float64frombits"], unfollowed := true, recurses := true, apart := false, narrowed := true }
def FlightOnceUptoSaid : Prop := flightOnceUptoRow.holds Tryz.pinned (OpenSpec.upto flightOnceSpec)

/-- 'horologelaw22.FlightLeast', WHERE WHAT IT READS IS OF BULK AT MOST 1048576: true; the input reads as it did. -/
def flightLeastUptoRow : OpenClaim := { program := "ytnnghcooidjlhaagreat", sum := "2741aad1d4977054a40b5610de58adebb3713b6c7b1987f47aa088183ccc82c7", func := "horologe/horologelaw22.FlightLeast", spec := "flightLeast", inPlace := ["math.Float64bits", "internal/bytealg.abigen_runtime_cmpstring", "slices.overlaps[horologe/node.Entry]", "math.Float64frombits"], unfollowed := true, recurses := true, apart := false, narrowed := true }
def FlightLeastUptoSaid : Prop := flightLeastUptoRow.holds Tryz.pinned (OpenSpec.upto flightLeastSpec)

/-- 'horologelaw22.FlightNone', WHERE WHAT IT READS IS OF BULK AT MOST 1048576: true; the input reads as it did. -/
def flightNoneUptoRow : OpenClaim := { program := "ytnnghcooidjlhaagreat", sum := "2741aad1d4977054a40b5610de58adebb3713b6c7b1987f47aa088183ccc82c7", func := "horologe/horologelaw22.FlightNone", spec := "flightNone", inPlace := ["internal/bytealg.abigen_runtime_cmpstring", "math.Float64frombits", "math.Float64bits", "slices.overlaps[horologe/node.Entry]"], unfollowed := true, recurses := true, apart := false, narrowed := true }
def FlightNoneUptoSaid : Prop := flightNoneUptoRow.holds Tryz.pinned (OpenSpec.upto flightNoneSpec)

/-- 'horologelaw23.InboxDoes', WHERE WHAT IT READS IS OF BULK AT MOST 1048576: true; the input reads as it did. -/
def inboxDoesUptoRow : OpenClaim := { program := "ytnnghcooidjlhaagreat", sum := "2741aad1d4977054a40b5610de58adebb3713b6c7b1987f47aa088183ccc82c7", func := "horologe/horologelaw23.InboxDoes", spec := "inboxDoes", inPlace := ["math.Float64bits", "internal/bytealg.abigen_runtime_cmpstring", "slices.overlaps[horologe/node.Entry]", "math.Float64frombits"], unfollowed := true, recurses := true, apart := false, narrowed := true }
def InboxDoesUptoSaid : Prop := inboxDoesUptoRow.holds Tryz.pinned (OpenSpec.upto inboxDoesSpec)

/-- 'horologelaw23.InboxNone', WHERE WHAT IT READS IS OF BULK AT MOST 1048576: true; the input reads as it did. -/
def inboxNoneUptoRow : OpenClaim := { program := "ytnnghcooidjlhaagreat", sum := "2741aad1d4977054a40b5610de58adebb3713b6c7b1987f47aa088183ccc82c7", func := "horologe/horologelaw23.InboxNone", spec := "inboxNone", inPlace := ["math.Float64bits", "internal/bytealg.abigen_runtime_cmpstring", "slices.overlaps[horologe/node.Entry]", "math.Float64frombits"], unfollowed := true, recurses := true, apart := false, narrowed := true }
def InboxNoneUptoSaid : Prop := inboxNoneUptoRow.holds Tryz.pinned (OpenSpec.upto inboxNoneSpec)

end Rows
end Go.Proofs.YtnnghcooidjlhaaGreat
