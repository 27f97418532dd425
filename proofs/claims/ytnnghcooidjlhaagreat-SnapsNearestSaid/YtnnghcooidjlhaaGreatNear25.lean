/- The law SnapsNearest: what Ahead tells is the nearest: of all keys none lies between, whatever the calls and the key are. -/
import Derived.Test.YtnnghcooidjlhaaGreatB28
import Derived.Test.YtnnghcooidjlhaaGreatB29
set_option linter.all false
section
set_option linter.unusedSimpArgs false
namespace Go.Proofs.YtnnghcooidjlhaaGreat
open Go.ChangeShapes Go.WideShapes Go.ChangeAt Go.RowKit Go.Deep
set_option maxHeartbeats 800000 in
set_option maxRecDepth 100000 in
theorem snapsNearest_lifted (os : Os) (started : os.Started) (H : Type) (enc : TypeId × Value → H) :
    ReturnsInHanded {} Tryz.checked os 3 .any (Rows.snapsNearestSpec.pre6 enc Tryz.prog Tryz.f3 Rows.snapsNearestRow.domain false) (Rows.snapsNearestSpec.post enc Tryz.prog Tryz.f3 false true false false) := by
  refine returnsInHanded_of_change (C := Tryz.checked) own started (by kernel_rfl) Tryz.func3
    (ChangeSpec.witness6 (enc := enc) (C := Tryz.checked) false ⟨#[], #[.slice none 0 0, .string ⟨#[]⟩], []⟩ 8 (by kernel_rfl) (by kernel_rfl) (by kernel_rfl) (by kernel_rfl)) ?_
  intro W base args ds gs before hval0 hW _ _
  have hval : ∀ (j : Nat) t v, Tryz.f3.params[j]? = some t → args[j]? = some v → Value.okWide Tryz.prog W .any base t v := hval0
  have hW' := hW
  obtain ⟨p, q, hA0, hV, rfl, hfz, hnd⟩ := hW
  have hA : DataW.TrodAll enc Tryz.prog W 0 (fun _ => true) true Tryz.f3.params.toList args.toList ds p := hA0
  rw [Tryz.params3] at hA hval
  have hA2 := hA
  obtain ⟨v0, v1, d0, d1, p0, p1, rfl, rfl, rfl, h0, h1⟩ := trodAll_two hA
  obtain ⟨rfl, rfl⟩ := trodVars_none hV
  obtain ⟨a0, len, cap, rfl⟩ := okWide_slice Tryz.underlying22 (hval 0 22 v0 rfl rfl)
  obtain ⟨ks, rfl⟩ := okWide_string Tryz.underlying9 (hval 1 9 v1 rfl rfl)
  obtain ⟨fuel, hf⟩ := h0
  obtain ⟨pa, n, c, l, he, hn, hv, hok⟩ := open_acts25 (by simpa [Value.cells] using hf)
  have hks : ks = S ks.data.toList := rfl
  rw [he]
  rw [he] at hA2 hW'
  refine (snear25_any hv hn hok ks.data.toList).mono fun r W' ⟨he, hb⟩ => ?_
  subst he
  exact ⟨_, rfl, _, _, _, [], _, [], hW', trodAll_mk1 (shut_bool Tryz.underlying4 true), trodAll_below laid hb hA2 (by decide +kernel), rfl, hb.frame _, fun h => by cases h⟩
set_option maxHeartbeats 8000000 in
set_option maxRecDepth 100000 in
theorem snapsNearest_facts : joinedFacts Tryz.checked.prog 3 Tryz.f3 Rows.snapsNearestSpec Rows.snapsNearestRow = true := by
  unfold joinedFacts
  repeat' (rw [Bool.and_eq_true]; refine ⟨?_, ?_⟩)
  all_goals (as_aux_lemma => kernel_rfl)
set_option maxRecDepth 100000 in
theorem snapsNearest_holds : Rows.SnapsNearestSaid :=
  OpenClaim.holds_of_wide 3 Tryz.f3 rfl rfl rfl rfl rfl rfl rfl ⟨rfl, rfl, rfl, rfl, rfl⟩ rfl rfl rfl rfl rfl (by kernel_rfl) Tryz.func3 snapsNearest_facts
    (of_decide_eq_true (by kernel_rfl)) (by unfold Func.isWrapper; rw [if_neg (of_decide_eq_false (by kernel_rfl))]; exact ⟨rfl, rfl⟩)
    (fun os started H enc _ => snapsNearest_lifted os started H enc)
#print axioms snapsNearest_holds
end Go.Proofs.YtnnghcooidjlhaaGreat
end
