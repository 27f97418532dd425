/- The law InboxOrder: in which order events come and are taken back plays no part for what is in the inbox, whatever the calls and the turn are. -/
import Derived.Test.YtnnghcooidjlhaaGreatD35
import Derived.Test.YtnnghcooidjlhaaGreatD37
set_option linter.all false
set_option linter.unusedSimpArgs false
namespace Go.Proofs.YtnnghcooidjlhaaGreat
open Go.ChangeShapes Go.WideShapes Go.ChangeAt Go.RowKit Go.Deep
theorem wf_u8 {z : Int} (h : (Lit.int .u8 z).wf = true) : 0 ≤ z ∧ z < 256 := by
  have := h
  simp [Lit.wf, IntKind.has, IntKind.min, IntKind.max, IntKind.signed, IntKind.bits] at this
  omega
set_option maxHeartbeats 800000 in
set_option maxRecDepth 100000 in
theorem inboxOrder_lifted (os : Os) (started : os.Started) (H : Type) (enc : TypeId × Value → H) :
    ReturnsInHanded {} Tryz.checked os 12 .any (Rows.inboxOrderSpec.pre6 enc Tryz.prog Tryz.f12 Rows.inboxOrderRow.domain false) (Rows.inboxOrderSpec.post enc Tryz.prog Tryz.f12 false true false false) := by
  refine returnsInHanded_of_change (C := Tryz.checked) own started (by kernel_rfl) Tryz.func12
    (ChangeSpec.witness6 (enc := enc) (C := Tryz.checked) false ⟨#[], #[.slice none 0 0, .int .u8 0], []⟩ 8 (by kernel_rfl) (by kernel_rfl) (by kernel_rfl) (by kernel_rfl)) ?_
  intro W base args ds gs before hval0 hW _ _
  have hval : ∀ (j : Nat) t v, Tryz.f12.params[j]? = some t → args[j]? = some v → Value.okWide Tryz.prog W .any base t v := hval0
  have hW' := hW
  obtain ⟨p, q, hA0, hV, rfl, hfz, hnd⟩ := hW
  have hA : DataW.TrodAll enc Tryz.prog W 0 (fun _ => true) true Tryz.f12.params.toList args.toList ds p := hA0
  rw [Tryz.params12] at hA hval
  have hA2 := hA
  obtain ⟨v0, v1, d0, d1, p0, p1, rfl, rfl, rfl, h0, h1⟩ := trodAll_two hA
  obtain ⟨rfl, rfl⟩ := trodVars_none hV
  obtain ⟨a0, len, cap, rfl⟩ := okWide_slice Tryz.underlying91 (hval 0 91 v0 rfl rfl)
  obtain ⟨tu, rfl⟩ := okWide_int Tryz.underlying5 (hval 1 5 v1 rfl rfl)
  obtain ⟨fuel, hf⟩ := h0
  obtain ⟨fuel1, hf1⟩ := h1
  obtain ⟨z1, hz1, hw1⟩ := leaf_int Tryz.underlying5 (by simpa [Value.cells] using hf1)
  obtain ⟨pa, n, c, l, he, hn, hv, hok⟩ := open_acts23 (by simpa [Value.cells] using hf)
  rw [he]
  rw [he] at hA2 hW'
  refine (iorder23_any hv hn hok tu (by injection hz1 with _ e; rw [e]; exact wf_u8 hw1)).mono fun r W' ⟨he, hb⟩ => ?_
  subst he
  exact ⟨_, rfl, _, _, _, [], _, [], hW', trodAll_mk1 (shut_bool Tryz.underlying4 true), trodAll_below laid hb hA2 (by decide +kernel), rfl, hb.frame _, fun h => by cases h⟩
set_option maxRecDepth 100000 in
theorem inboxOrder_holds : Rows.InboxOrderSaid :=
  OpenClaim.holds_of_wide 12 Tryz.f12 rfl rfl rfl rfl rfl rfl rfl ⟨rfl, rfl, rfl, rfl, rfl⟩ rfl rfl rfl rfl rfl (by kernel_rfl) Tryz.func12 inboxOrder_facts
    (of_decide_eq_true (by kernel_rfl)) (by unfold Func.isWrapper; rw [if_neg (of_decide_eq_false (by kernel_rfl))]; exact ⟨rfl, rfl⟩)
    (fun os started H enc _ => inboxOrder_lifted os started H enc)
#print axioms inboxOrder_holds
end Go.Proofs.YtnnghcooidjlhaaGreat
