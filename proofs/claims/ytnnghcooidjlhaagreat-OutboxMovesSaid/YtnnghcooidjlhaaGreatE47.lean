/- Parts of the proof: Mf24. -/
import Derived.Test.YtnnghcooidjlhaaGreatE34
set_option linter.all false
set_option maxRecDepth 100000
namespace Go.Proofs.YtnnghcooidjlhaaGreat
section
open Go.ChangeShapes Go.WideShapes Go.ChangeAt Go.RowKit Go.Deep
set_option maxHeartbeats 8000000 in
set_option maxRecDepth 100000 in
theorem outboxMoves_facts : joinedFacts Tryz.checked.prog 7 Tryz.f7 Rows.outboxMovesSpec Rows.outboxMovesRow = true := by
 unfold joinedFacts
 repeat' (rw [Bool.and_eq_true]; refine ⟨?_, ?_⟩)
 all_goals (as_aux_lemma => kernel_rfl)
end
end Go.Proofs.YtnnghcooidjlhaaGreat
