/- The law WindowGrows: a longer window has no fewer; with events more there are no fewer; never more than there are. -/
import Derived.Test.YtjoclapnjnmlkaaOp
import Derived.Test.YtjoclapnjnmlkaaLg
set_option linter.unusedSimpArgs false
namespace Go.Proofs.Ytjoclapnjnmlkaa
open Go.ChangeShapes Go.WideShapes Go.ChangeAt Go.RowKit Go.Deep

theorem cellsGrow : Try.prog.cellsOf 49 = 9 := by kernel_rfl
theorem cellsRow : Try.prog.cellsOf 22 = 1 := by kernel_rfl

section
variable {H : Type} {enc : TypeId × Value → H} {w : World} {base : Nat} {spare : Nat → Bool} {held : Bool}
theorem open_grow {fuel : Nat} {cs : List Value} {x : DataW H × List MemPlace} (h : DataW.trod enc Try.prog w 0 spare held fuel 49 cs = some x) :
    ∃ (p : Option Addr) (ds : List Done) (cap wv vv : Nat) (y : Done), cs = [.slice p ds.length cap, .float .f64 wv, .float .f64 vv, .float .f64 y.t, .int .i64 y.a, .int .i64 y.b, .int .i64 y.c, .int .i64 y.d, .int .i64 y.f] ∧ Arg w p ds cap := by
  cases fuel with
  | zero => cases h
  | succ n =>
    obtain ⟨hl, hf⟩ := trod_fields Try.underlying49 h
    rw [cellsGrow] at hl
    match cs, hl with
    | [c0, c1, c2, c3, c4, c5, c6, c7, c8], _ =>
      simp [cellsRow, cellsFloat, cellsDone] at hf
      obtain ⟨⟨_, _, h0⟩, ⟨_, _, h1⟩, ⟨_, _, h2⟩, ⟨_, _, h3⟩⟩ := hf
      obtain ⟨p, ds, cap, rfl, hA⟩ := open_hist h0
      obtain ⟨wv, rfl, _⟩ := leaf_float Try.underlying23 h1
      obtain ⟨vv, rfl, _⟩ := leaf_float Try.underlying23 h2
      obtain ⟨y, hy, _⟩ := open_done h3
      simp only [List.cons.injEq, and_true] at hy
      obtain ⟨rfl, rfl, rfl, rfl, rfl, rfl⟩ := hy
      exact ⟨p, ds, cap, wv, vv, y, rfl, hA⟩
end
set_option maxHeartbeats 800000 in
set_option maxRecDepth 100000 in
theorem grows_lifted (os : Os) (started : os.Started) (H : Type) (enc : TypeId × Value → H) :
    ReturnsInHanded {} Try.checked os 7 .any (Rows.windowGrowsSpec.pre6 enc Try.prog Try.f7 Rows.windowGrowsRow.domain false) (Rows.windowGrowsSpec.post enc Try.prog Try.f7 false true false false) := by
  refine returnsInHanded_of_change (C := Try.checked) own started (by kernel_rfl) Try.func7
    (ChangeSpec.witness6 (enc := enc) (C := Try.checked) false ⟨#[], #[.agg #[.slice none 0 0, .float .f64 0, .float .f64 0, .float .f64 0, .int .i64 0, .int .i64 0, .int .i64 0, .int .i64 0, .int .i64 0]], []⟩ 8 (by kernel_rfl) (by kernel_rfl) (by kernel_rfl) (by kernel_rfl)) ?_
  intro W base args ds gs before hval0 hW _ _
  have hval : ∀ (j : Nat) t v, Try.f7.params[j]? = some t → args[j]? = some v → Value.okWide Try.prog W .any base t v := hval0
  have hW' := hW
  obtain ⟨p, q, hA0, hV, rfl, hfz, hnd⟩ := hW
  have hA : DataW.TrodAll enc Try.prog W 0 (fun _ => true) true Try.f7.params.toList args.toList ds p := hA0
  rw [Try.params7] at hA hval
  have hA2 := hA
  obtain ⟨v0, d0, rfl, rfl, h0⟩ := trodAll_one hA
  obtain ⟨rfl, rfl⟩ := trodVars_none hV
  obtain ⟨cs, rfl, _⟩ := okWide_struct Try.underlying49 (hval 0 49 v0 rfl rfl)
  obtain ⟨fuel, hf⟩ := h0
  obtain ⟨pa, es, cap', wv, vv, y, he, hArg⟩ := open_grow (cs := cs.toList) hf
  obtain ⟨l⟩ := cs
  simp only at he
  subst he
  refine (lgrows_any pa es cap' wv vv y W hArg).mono fun e W' ⟨he, hb⟩ => ?_
  subst he
  exact ⟨_, rfl, _, _, _, [], _, [], hW', trodAll_mk1 (shut_bool Try.underlying4 true), trodAll_below laid hb hA2 (by decide +kernel), rfl, hb.frame _, fun h => by cases h⟩

theorem grows_holds : Rows.WindowGrowsSaid :=
  OpenClaim.holds_of_wide 7 Try.f7 rfl rfl rfl rfl rfl rfl rfl ⟨rfl, rfl, rfl, rfl, rfl⟩ rfl rfl rfl rfl rfl (by kernel_rfl) Try.func7 (by kernel_rfl)
    (of_decide_eq_true (by kernel_rfl)) (by unfold Func.isWrapper; rw [if_neg (of_decide_eq_false (by kernel_rfl))]; exact ⟨rfl, rfl⟩)
    (fun os started H enc _ => grows_lifted os started H enc)

#print axioms grows_holds
end Go.Proofs.Ytjoclapnjnmlkaa
