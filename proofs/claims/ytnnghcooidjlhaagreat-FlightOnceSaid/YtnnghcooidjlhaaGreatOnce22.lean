/- The law FlightOnce: what is taken was sent and is taken once, whatever the messages and the turns are. -/
import Derived.Test.YtnnghcooidjlhaaGreatA27
set_option linter.all false
section
set_option linter.unusedSimpArgs false
namespace Go.Proofs.YtnnghcooidjlhaaGreat
open Go.ChangeShapes Go.WideShapes Go.ChangeAt Go.RowKit Go.Deep
set_option maxHeartbeats 800000 in
set_option maxRecDepth 100000 in
theorem flightOnce_lifted (os : Os) (started : os.Started) (H : Type) (enc : TypeId × Value → H) :
    ReturnsInHanded {} Tryz.checked os 14 .any (Rows.flightOnceSpec.pre6 enc Tryz.prog Tryz.f14 Rows.flightOnceRow.domain false) (Rows.flightOnceSpec.post enc Tryz.prog Tryz.f14 false true false false) := by
  refine returnsInHanded_of_change (C := Tryz.checked) own started (by kernel_rfl) Tryz.func14
    (ChangeSpec.witness6 (enc := enc) (C := Tryz.checked) false ⟨#[], #[.slice none 0 0, .slice none 0 0], []⟩ 8 (by kernel_rfl) (by kernel_rfl) (by kernel_rfl) (by kernel_rfl)) ?_
  intro W base args ds gs before hval0 hW _ _
  have hval : ∀ (j : Nat) t v, Tryz.f14.params[j]? = some t → args[j]? = some v → Value.okWide Tryz.prog W .any base t v := hval0
  have hW' := hW
  obtain ⟨p, q, hA0, hV, rfl, hfz, hnd⟩ := hW
  have hA : DataW.TrodAll enc Tryz.prog W 0 (fun _ => true) true Tryz.f14.params.toList args.toList ds p := hA0
  rw [Tryz.params14] at hA hval
  have hA2 := hA
  obtain ⟨v0, v1, d0, d1, p0, p1, rfl, rfl, rfl, h0, h1⟩ := trodAll_two hA
  obtain ⟨rfl, rfl⟩ := trodVars_none hV
  obtain ⟨a0, len, cap, rfl⟩ := okWide_slice Tryz.underlying112 (hval 0 112 v0 rfl rfl)
  obtain ⟨a1, len1, cap1, rfl⟩ := okWide_slice Tryz.underlying129 (hval 1 129 v1 rfl rfl)
  obtain ⟨fuel, hf⟩ := h0
  obtain ⟨fuel1, hf1⟩ := h1
  obtain ⟨pa, n, c, l, he, hn, hv, hok⟩ := open_msgs22 (by simpa [Value.cells] using hf)
  obtain ⟨pb, n1, c1, l1, he1, hn1, hv1, hok1⟩ := open_u8s (by simpa [Value.cells] using hf1)
  rw [he, he1]
  rw [he, he1] at hA2 hW'
  refine (lonce22_any hv hn hok hv1 hn1 hok1).mono fun r W' ⟨he, hb⟩ => ?_
  subst he
  exact ⟨_, rfl, _, _, _, [], _, [], hW', trodAll_mk1 (shut_bool Tryz.underlying4 true), trodAll_below laid hb hA2 (by decide +kernel), rfl, hb.frame _, fun h => by cases h⟩
set_option maxHeartbeats 8000000 in
set_option maxRecDepth 100000 in
theorem flightOnce_facts : joinedFacts Tryz.checked.prog 14 Tryz.f14 Rows.flightOnceSpec Rows.flightOnceRow = true := by
  unfold joinedFacts
  repeat' (rw [Bool.and_eq_true]; refine ⟨?_, ?_⟩)
  all_goals (as_aux_lemma => kernel_rfl)
set_option maxRecDepth 100000 in
theorem flightOnce_holds : Rows.FlightOnceSaid :=
  OpenClaim.holds_of_wide 14 Tryz.f14 rfl rfl rfl rfl rfl rfl rfl ⟨rfl, rfl, rfl, rfl, rfl⟩ rfl rfl rfl rfl rfl (by kernel_rfl) Tryz.func14 flightOnce_facts
    (of_decide_eq_true (by kernel_rfl)) (by unfold Func.isWrapper; rw [if_neg (of_decide_eq_false (by kernel_rfl))]; exact ⟨rfl, rfl⟩)
    (fun os started H enc _ => flightOnce_lifted os started H enc)
#print axioms flightOnce_holds
end Go.Proofs.YtnnghcooidjlhaaGreat
end
