/- The law OutboxMoves: moving loses nothing: what was there is in the one or in the other one as it was, whatever the items and the moves are. -/
import Derived.Test.YtnnghcooidjlhaaGreatE43
import Derived.Test.YtnnghcooidjlhaaGreatE45
import Derived.Test.YtnnghcooidjlhaaGreatE46
import Derived.Test.YtnnghcooidjlhaaGreatE47
set_option linter.all false
set_option linter.unusedSimpArgs false
namespace Go.Proofs.YtnnghcooidjlhaaGreat
open Go.ChangeShapes Go.WideShapes Go.ChangeAt Go.RowKit Go.Deep
set_option maxHeartbeats 800000 in
set_option maxRecDepth 100000 in
theorem outboxMoves_lifted (os : Os) (started : os.Started) (H : Type) (enc : TypeId × Value → H) :
    ReturnsInHanded {} Tryz.checked os 7 .any (Rows.outboxMovesSpec.pre6 enc Tryz.prog Tryz.f7 Rows.outboxMovesRow.domain false) (Rows.outboxMovesSpec.post enc Tryz.prog Tryz.f7 false true false false) := by
  refine returnsInHanded_of_change_sized (C := Tryz.checked) own started (by kernel_rfl) Tryz.func7
    (ChangeSpec.witness6 (enc := enc) (C := Tryz.checked) false ⟨#[], #[.slice none 0 0, .slice none 0 0], []⟩ 8 (by kernel_rfl) (by kernel_rfl) (by kernel_rfl) (by kernel_rfl)) ?_
  intro W base args ds gs before hval0 hW _ hwt _
  have hval : ∀ (j : Nat) t v, Tryz.f7.params[j]? = some t → args[j]? = some v → Value.okWide Tryz.prog W .any base t v := hval0
  have hW' := hW
  obtain ⟨p, q, hA0, hV, rfl, hfz, hnd⟩ := hW
  have hA : DataW.TrodAll enc Tryz.prog W 0 (fun _ => true) true Tryz.f7.params.toList args.toList ds p := hA0
  rw [Tryz.params7] at hA hval
  have hA2 := hA
  obtain ⟨v0, v1, d0, d1, p0, p1, rfl, rfl, rfl, h0, h1⟩ := trodAll_two hA
  obtain ⟨rfl, rfl⟩ := trodVars_none hV
  obtain ⟨a0, len, cap, rfl⟩ := okWide_slice Tryz.underlying56 (hval 0 56 v0 rfl rfl)
  obtain ⟨a1, len1, cap1, rfl⟩ := okWide_slice Tryz.underlying36 (hval 1 36 v1 rfl rfl)
  obtain ⟨fuel, hf⟩ := h0
  obtain ⟨fuel1, hf1⟩ := h1
  rw [Tryz.params7] at hwt
  obtain ⟨pa, n, c, l, he, hn, hv, hok⟩ := open_items24 (by simpa [Value.cells] using hf) (fun n hn => by
    have := List.all_eq_true.1 hwt n (DataW.weights_mem_each (j := 0) rfl rfl n hn)
    simpa using this)
  obtain ⟨p2, n2, c2, fs, he1, hn2, hv2⟩ := open_strs24 (by simpa [Value.cells] using hf1)
  rw [he, he1]
  rw [he, he1] at hA2 hW'
  have hC := (Nat.lt_or_ge 15 n).elim (fun h => omoves24_many h hv hn hok hv2 hn2) (fun h => omoves24_few h hv hn hok hv2 hn2)
  refine hC.mono fun r W' ⟨he, hb⟩ => ?_
  subst he
  exact ⟨_, rfl, _, _, _, [], _, [], hW', trodAll_mk1 (shut_bool Tryz.underlying4 true), trodAll_below laid hb hA2 (by decide +kernel), rfl, hb.frame _, fun h => by cases h⟩
set_option maxRecDepth 100000 in
theorem outboxMoves_holds : Rows.OutboxMovesSaid :=
  OpenClaim.holds_of_wide 7 Tryz.f7 rfl rfl rfl rfl rfl rfl rfl ⟨rfl, rfl, rfl, rfl, rfl⟩ rfl rfl rfl rfl rfl (by kernel_rfl) Tryz.func7 outboxMoves_facts
    (of_decide_eq_true (by kernel_rfl)) (by unfold Func.isWrapper; rw [if_neg (of_decide_eq_false (by kernel_rfl))]; exact ⟨rfl, rfl⟩)
    (fun os started H enc _ => outboxMoves_lifted os started H enc)
#print axioms outboxMoves_holds
end Go.Proofs.YtnnghcooidjlhaaGreat
