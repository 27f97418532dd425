/- Parts of the proof: Mf26n. -/
import Derived.Test.YtfkoaooceickiaaGreatH22
set_option linter.all false
set_option maxRecDepth 100000
namespace Go.Proofs.YtfkoaooceickiaaGreat
section
open Go.ChangeShapes Go.WideShapes Go.ChangeAt Go.RowKit Go.Deep
set_option maxHeartbeats 8000000 in
set_option maxRecDepth 100000 in
theorem lpNone_facts : joinedFacts Tryz.checked.prog 3 Tryz.f3 Rows.lpNoneSpec Rows.lpNoneRow = true := by
 unfold joinedFacts
 repeat' (rw [Bool.and_eq_true]; refine ⟨?_, ?_⟩)
 all_goals (as_aux_lemma => kernel_rfl)
end
end Go.Proofs.YtfkoaooceickiaaGreat
