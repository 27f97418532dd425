/- The law InboxDoes: every call of an inbox is answered as the document says, whatever the calls and the two events are. -/
import Derived.Test.YtnnghcooidjlhaaGreatD35
import Derived.Test.YtnnghcooidjlhaaGreatD42
set_option linter.all false
set_option linter.unusedSimpArgs false
namespace Go.Proofs.YtnnghcooidjlhaaGreat
open Go.ChangeShapes Go.WideShapes Go.ChangeAt Go.RowKit Go.Deep
set_option maxHeartbeats 800000 in
set_option maxRecDepth 100000 in
theorem inboxDoes_lifted (os : Os) (started : os.Started) (H : Type) (enc : TypeId × Value → H) :
    ReturnsInHanded {} Tryz.checked os 17 .any (Rows.inboxDoesSpec.pre6 enc Tryz.prog Tryz.f17 Rows.inboxDoesRow.domain false) (Rows.inboxDoesSpec.post enc Tryz.prog Tryz.f17 false true false false) := by
  refine returnsInHanded_of_change (C := Tryz.checked) own started (by kernel_rfl) Tryz.func17
    (ChangeSpec.witness6 (enc := enc) (C := Tryz.checked) false ⟨#[], #[.slice none 0 0, .agg #[.float .f64 0, .int .i64 0, .int .i64 0, .int .i64 0, .int .i64 0], .agg #[.float .f64 0, .int .i64 0, .int .i64 0, .int .i64 0, .int .i64 0]], []⟩ 8 (by kernel_rfl) (by kernel_rfl) (by kernel_rfl) (by kernel_rfl)) ?_
  intro W base args ds gs before hval0 hW _ _
  have hval : ∀ (j : Nat) t v, Tryz.f17.params[j]? = some t → args[j]? = some v → Value.okWide Tryz.prog W .any base t v := hval0
  have hW' := hW
  obtain ⟨p, q, hA0, hV, rfl, hfz, hnd⟩ := hW
  have hA : DataW.TrodAll enc Tryz.prog W 0 (fun _ => true) true Tryz.f17.params.toList args.toList ds p := hA0
  rw [Tryz.params17] at hA hval
  have hA2 := hA
  obtain ⟨v0, v1, v2, d0, d1, d2, p0, p1, p2, rfl, rfl, rfl, h0, h1, h2⟩ := trodAll_three hA
  obtain ⟨rfl, rfl⟩ := trodVars_none hV
  obtain ⟨a0, len, cap, rfl⟩ := okWide_slice Tryz.underlying91 (hval 0 91 v0 rfl rfl)
  obtain ⟨c1, rfl, _⟩ := okWide_struct Tryz.underlying67 (hval 1 67 v1 rfl rfl)
  obtain ⟨c2, rfl, _⟩ := okWide_struct Tryz.underlying67 (hval 2 67 v2 rfl rfl)
  obtain ⟨fuel, hf⟩ := h0
  obtain ⟨fuel1, hf1⟩ := h1
  obtain ⟨fuel2, hf2⟩ := h2
  obtain ⟨pa, n, c, l, he, hn, hv, hok⟩ := open_acts23 (by simpa [Value.cells] using hf)
  obtain ⟨a, ea, hoa⟩ := open_event (by simpa [Value.cells] using hf1)
  obtain ⟨z, ez, hoz⟩ := open_event (by simpa [Value.cells] using hf2)
  have hc1 : c1 = #[.float .f64 a.t, .int .i64 a.src, .int .i64 a.n, .int .i64 a.dst, .int .i64 a.pay] := by
    apply Array.ext'
    simpa [evC] using ea
  have hc2 : c2 = #[.float .f64 z.t, .int .i64 z.src, .int .i64 z.n, .int .i64 z.dst, .int .i64 z.pay] := by
    apply Array.ext'
    simpa [evC] using ez
  rw [he, hc1, hc2]
  rw [he, hc1, hc2] at hA2 hW'
  refine (idoes23_any hv hn hok a z hoa hoz).mono fun r W' ⟨he, hb⟩ => ?_
  subst he
  exact ⟨_, rfl, _, _, _, [], _, [], hW', trodAll_mk1 (shut_bool Tryz.underlying4 true), trodAll_below laid hb hA2 (by decide +kernel), rfl, hb.frame _, fun h => by cases h⟩
set_option maxRecDepth 100000 in
theorem inboxDoes_holds : Rows.InboxDoesSaid :=
  OpenClaim.holds_of_wide 17 Tryz.f17 rfl rfl rfl rfl rfl rfl rfl ⟨rfl, rfl, rfl, rfl, rfl⟩ rfl rfl rfl rfl rfl (by kernel_rfl) Tryz.func17 inboxDoes_facts
    (of_decide_eq_true (by kernel_rfl)) (by unfold Func.isWrapper; rw [if_neg (of_decide_eq_false (by kernel_rfl))]; exact ⟨rfl, rfl⟩)
    (fun os started H enc _ => inboxDoes_lifted os started H enc)
#print axioms inboxDoes_holds
end Go.Proofs.YtnnghcooidjlhaaGreat
