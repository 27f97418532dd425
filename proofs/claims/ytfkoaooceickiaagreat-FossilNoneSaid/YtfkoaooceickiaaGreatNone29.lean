/- The law FossilNone: without a store or of no worker nothing is written down. -/
import Derived.Test.YtfkoaooceickiaaGreatH22
import Derived.Test.YtfkoaooceickiaaGreatH35
import Derived.Test.YtfkoaooceickiaaGreatH36
import Derived.Test.YtfkoaooceickiaaGreatH37
set_option linter.all false
set_option linter.unusedSimpArgs false
namespace Go.Proofs.YtfkoaooceickiaaGreat
open Go.ChangeShapes Go.WideShapes Go.ChangeAt Go.RowKit Go.Deep
set_option maxHeartbeats 800000 in
set_option maxRecDepth 100000 in
theorem fossilNone_lifted (os : Os) (started : os.Started) (H : Type) (enc : TypeId × Value → H) :
    ReturnsInHanded {} Tryz.checked os 6 .any (Rows.fossilNoneSpec.pre6 enc Tryz.prog Tryz.f6 Rows.fossilNoneRow.domain false) (Rows.fossilNoneSpec.post enc Tryz.prog Tryz.f6 false true false false) := by
  refine returnsInHanded_of_change (C := Tryz.checked) own started (by kernel_rfl) Tryz.func6
    (ChangeSpec.witness6 (enc := enc) (C := Tryz.checked) false ⟨#[], #[.agg #[.float .f64 0, .bool false, .int .i64 0, .int .i64 0]], []⟩ 8 (by kernel_rfl) (by kernel_rfl) (by kernel_rfl) (by kernel_rfl)) ?_
  intro W base args ds gs before hval0 hW _ _
  have hval : ∀ (j : Nat) t v, Tryz.f6.params[j]? = some t → args[j]? = some v → Value.okWide Tryz.prog W .any base t v := hval0
  have hW' := hW
  obtain ⟨p, q, hA0, hV, rfl, hfz, hnd⟩ := hW
  have hA : DataW.TrodAll enc Tryz.prog W 0 (fun _ => true) true Tryz.f6.params.toList args.toList ds p := hA0
  rw [Tryz.params6] at hA hval
  have hA2 := hA
  obtain ⟨v0, d0, rfl, rfl, h0⟩ := trodAll_one hA
  obtain ⟨rfl, rfl⟩ := trodVars_none hV
  obtain ⟨cs, rfl, _⟩ := okWide_struct Tryz.underlying89 (hval 0 89 v0 rfl rfl)
  obtain ⟨fuel, hf⟩ := h0
  obtain ⟨t, a, fr, n, he⟩ := open_four (by simpa [Value.cells] using hf)
  have hcs : cs = #[.float .f64 t, .bool a, .int .i64 fr, .int .i64 n] := by
    apply Array.ext'
    simpa using he
  rw [hcs]
  rw [hcs] at hA2 hW'
  refine (fossilnone_any t a fr n W).mono fun r W' ⟨he, hb⟩ => ?_
  subst he
  exact ⟨_, rfl, _, _, _, [], _, [], hW', trodAll_mk1 (shut_bool Tryz.underlying4 true), trodAll_below laid hb hA2 (by decide +kernel), rfl, hb.frame _, fun h => by cases h⟩
set_option maxRecDepth 100000 in
theorem fossilNone_holds : Rows.FossilNoneSaid :=
  OpenClaim.holds_of_wide 6 Tryz.f6 rfl rfl rfl rfl rfl rfl rfl ⟨rfl, rfl, rfl, rfl, rfl⟩ rfl rfl rfl rfl rfl (by kernel_rfl) Tryz.func6 fossilNone_facts
    (of_decide_eq_true (by kernel_rfl)) (by unfold Func.isWrapper; rw [if_neg (of_decide_eq_false (by kernel_rfl))]; exact ⟨rfl, rfl⟩)
    (fun os started H enc _ => fossilNone_lifted os started H enc)
#print axioms fossilNone_holds
end Go.Proofs.YtfkoaooceickiaaGreat
