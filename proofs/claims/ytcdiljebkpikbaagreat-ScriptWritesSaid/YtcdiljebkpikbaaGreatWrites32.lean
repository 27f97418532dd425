/- The law ScriptWrites: every script that is not too great has a text or may have none and is told alike by both. -/
import Derived.Test.YtcdiljebkpikbaaGreatW34
import Derived.Test.YtcdiljebkpikbaaGreatW38
import Derived.Test.YtcdiljebkpikbaaGreatW40
set_option linter.all false
set_option linter.unusedSimpArgs false
namespace Go.Proofs.YtcdiljebkpikbaaGreat
open Go.ChangeShapes Go.WideShapes Go.ChangeAt Go.RowKit Go.Deep
set_option maxHeartbeats 800000 in
set_option maxRecDepth 100000 in
theorem xd (os : Os) (started : os.Started) (H : Type) (enc : TypeId × Value → H) :
    ReturnsInHanded {} Tryz.checked os 4 .any (Rows.scriptWritesSpec.pre6 enc Tryz.prog Tryz.f4 Rows.scriptWritesRow.domain false) (Rows.scriptWritesSpec.post enc Tryz.prog Tryz.f4 false true false false) := by
  refine returnsInHanded_of_change (C := Tryz.checked) own started (by kernel_rfl) Tryz.func4
    (ChangeSpec.witness6 (enc := enc) (C := Tryz.checked) false ⟨#[], #[.agg #[.int .i64 0, .int .i64 0, .int .i64 0, .float .f64 0, .slice none 0 0, .slice none 0 0, .slice none 0 0, .slice none 0 0, .slice none 0 0]], []⟩ 8 (by kernel_rfl) (by kernel_rfl) (by kernel_rfl) (by kernel_rfl)) ?_
  intro W base args ds gs before hval0 hW _ _
  have hval : ∀ (j : Nat) t v, Tryz.f4.params[j]? = some t → args[j]? = some v → Value.okWide Tryz.prog W .any base t v := hval0
  have hW' := hW
  obtain ⟨p, q, hA0, hV, rfl, hfz, hnd⟩ := hW
  have hA : DataW.TrodAll enc Tryz.prog W 0 (fun _ => true) true Tryz.f4.params.toList args.toList ds p := hA0
  rw [Tryz.params4] at hA hval
  have hA2 := hA
  obtain ⟨v0, d0, rfl, rfl, h0⟩ := trodAll_one hA
  obtain ⟨rfl, rfl⟩ := trodVars_none hV
  obtain ⟨cs, rfl, _⟩ := okWide_struct Tryz.underlying36 (hval 0 36 v0 rfl rfl)
  obtain ⟨fuel, hf⟩ := h0
  obtain ⟨x, he, hx, hn⟩ := aS1 (by simpa [Value.cells] using hf)
  have hcs : cs = (scC x).toArray := by
    apply Array.ext'
    simpa using he
  rw [hcs]
  rw [hcs] at hA2 hW'
  refine (aTb ZC hx hn).mono fun r W' ⟨he, hb⟩ => ?_
  subst he
  exact ⟨_, rfl, _, _, _, [], _, [], hW', trodAll_mk1 (shut_bool Tryz.underlying4 true), qN aSC hb hA2 (by decide +kernel), rfl, hb.frame _, fun h => by cases h⟩
set_option maxRecDepth 100000 in
theorem scriptWrites_holds : Rows.ScriptWritesSaid :=
  OpenClaim.holds_of_wide 4 Tryz.f4 rfl rfl rfl rfl rfl rfl rfl ⟨rfl, rfl, rfl, rfl, rfl⟩ rfl rfl rfl rfl rfl (by kernel_rfl) Tryz.func4 qw
    (of_decide_eq_true (by kernel_rfl)) (by unfold Func.isWrapper; rw [if_neg (of_decide_eq_false (by kernel_rfl))]; exact ⟨rfl, rfl⟩)
    (fun os started H enc _ => xd os started H enc)
#print axioms scriptWrites_holds
end Go.Proofs.YtcdiljebkpikbaaGreat
