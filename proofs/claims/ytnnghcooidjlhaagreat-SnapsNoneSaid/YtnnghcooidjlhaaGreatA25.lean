/- Parts of the proof: Vc Vd Oq. -/
import Derived.Test.YtnnghcooidjlhaaGreatRows
import Derived.Deep.Slices
import Derived.ProofKit
import Derived.SizedLaws
import Derived.Laws.Cover2
import Derived.Carry
import Derived.Test.YtnnghcooidjlhaaGreatA24
set_option linter.all false
section
set_option linter.unusedSimpArgs false
set_option linter.unusedVariables false
set_option maxRecDepth 100000
namespace Go.Proofs.YtnnghcooidjlhaaGreat
open Go.RowKit Go.Lib
def awF (j : Nat) : Nat := if j = 0 then 4613937818241073152 else if j = 1 then 4611686018427387904 else 4607182418800017408
def awE (j : Nat) : Ev := ⟨awF j, 0, j, 0, 0⟩
def awL (j : Nat) : List Fl := (List.range j).map fun i => ⟨i, awE i, false⟩
theorem awE_ok (j : Nat) (h : j < 3) : (awE j).right ∧ (awE j).ok ∧ (awE j).nrm = awE j := by
  rcases j with _ | _ | _ | j
  · refine ⟨by decide, ?_, by decide⟩
    unfold Ev.ok awE awF
    simp
  · refine ⟨by decide, ?_, by decide⟩
    unfold Ev.ok awE awF
    simp
  · refine ⟨by decide, ?_, by decide⟩
    unfold Ev.ok awE awF
    simp
  · omega
theorem aw_msg (j : Nat) : msgV (awE j) false = .agg #[.float .f64 (awF j), .int .i64 0, .int .i64 j, .int .i64 0, .int .i64 0, .bool false] := rfl
theorem aw_sub (j : Nat) (h : j < 3) : fsub 4613937818241073152 (floatOfInt .f64 j) = some (awF j) := by
  rcases j with _ | _ | _ | j
  · decide +kernel
  · decide +kernel
  · decide +kernel
  · omega
set_option maxHeartbeats 8000000 in
theorem awake22_any (w : World) :
    Calls Tryz.prog 55 #[] w fun e w' => e = .returned (.bool true) ∧ Below w.heap.size w w' := by
  have HB := hid (begun22_any w)
  go_enter Tryz.func55, Tryz.ntmps55
  go_wp2_with fail
  (with_reducible refine HB.out.mono ?_)
  rintro r W1 ⟨fb, s, O, rfl, hF, hb, ho⟩
  have HI0 : Hid (∃ O', FlI W1 fb s O' (2 * 0) 0 (awL 0) ∧ Below w.heap.size w W1 ∧ ∀ b ∈ fb :: s.sb :: s.tb :: O', w.heap.size ≤ b) := hid ⟨O, hF, hb, ho⟩
  clear hF hb ho
  go_wp2
  go_loopg [2] 3 (fun gg s2 wr => ∃ j : Nat, j ≤ 3 ∧ 3 - j ≤ gg ∧ s2 = .int .i64 j ∧ Hid (∃ O', FlI wr fb s O' (2 * j) j (awL j) ∧ Below w.heap.size w wr ∧ ∀ b ∈ fb :: s.sb :: s.tb :: O', w.heap.size ≤ b))
  case atStart => exact ⟨0, by omega, by omega, rfl, HI0⟩
  case round =>
    obtain ⟨j, hj, hgg, rfl, HI⟩ := hrel
    by_cases hje : j < 3
    · have hji : (j : Int) < 3 := by omega
      obtain ⟨O', hF, hb, ho⟩ := HI.out
      have HS := hid (fsend_any hF (awE_ok j hje).1 (awE_ok j hje).2.1 false (by omega) (by omega))
      rw [(awE_ok j hje).2.2] at HS
      have HX := hid (⟨hb, ho⟩ : _ ∧ _)
      clear hF hb ho
      rw [aw_msg j] at HS
      have hsub := aw_sub j hje
      have hst : awL (j + 1) = awL j ++ [⟨j, awE j, false⟩] := by unfold awL; rw [List.range_succ, List.map_append]; rfl
      have HST := hid hst
      clear hst hje
      go_wp2_with fail
      simp only [hsub, orNan, draws, World.drewN_zero]
      (with_reducible refine HS.out.mono ?_)
      rintro r W2 ⟨O2, rfl, hF2, hk2, hg2⟩
      rw [← HST.out] at hF2
      obtain ⟨hb, ho⟩ := HX.out
      have HI2 : Hid (∃ O', FlI W2 fb s O' (2 * (j + 1)) (j + 1) (awL (j + 1)) ∧ Below w.heap.size w W2 ∧ ∀ b ∈ fb :: s.sb :: s.tb :: O', w.heap.size ≤ b) := hid ⟨O2, hF2, hb.trans (hk2.to_below hb.size (fun x hx => ho x (by simp [hx]))), fun b hm => by
        rcases List.mem_cons.1 hm with rfl | hm
        · exact ho b (by simp)
        rcases List.mem_cons.1 hm with rfl | hm
        · exact ho s.sb (by simp)
        rcases List.mem_cons.1 hm with rfl | hm
        · exact ho s.tb (by simp)
        rcases hg2 b hm with h | h
        · exact ho b (by simp [h])
        · exact Nat.le_trans hb.size h⟩
      clear hF2 hk2 hg2 hb ho
      go_wp2
      go_roundg (3 - (j + 1))
      case measure => omega
      case rel => exact ⟨j + 1, by omega, by omega, by go_num, HI2⟩
    · have hjl : j = 3 := by omega
      subst hjl
      clear hj hgg hje
      obtain ⟨O', hF, hb, ho⟩ := HI.out
      have HT := hid (ftake_any hF (by decide) (i := 1) (x := ⟨1, awE 1, false⟩) rfl)
      have HX := hid (⟨hb, ho⟩ : _ ∧ _)
      clear hF hb ho
      rw [aw_msg 1, show ((1 : Nat) : Int) = 1 from rfl] at HT
      go_wp2_with fail
      (with_reducible refine HT.out.mono ?_)
      rintro r W2 ⟨rfl, hF2, hk2⟩
      obtain ⟨W3, hW3⟩ : ∃ W3, W3 = W2.alloc (.cells #[.float .f64 (awF 1), .int .i64 0, .int .i64 1, .int .i64 0, .int .i64 0, .bool false] 99) := ⟨_, rfl⟩
      have hb3 : Below W2.heap.size W2 W3 := by rw [hW3]; exact (Below.refl _ W2).alloc (Nat.le_refl _) _
      have hB3 : Blk W3 W2.heap.size 99 #[.float .f64 (awF 1), .int .i64 0, .int .i64 1, .int .i64 0, .int .i64 0, .bool false] := by rw [hW3]; exact Blk.new W2 _ _
      have hno : W2.heap.size ∉ O' := fun hm => by have := hF2.lts W2.heap.size (by simp [hm]); omega
      have HN := hid (flen_any (hF2.below hb3) (by decide))
      have H2 := hid (⟨hk2.trans (Kp.of_below hb3), hB3, hno⟩ : _ ∧ _ ∧ _)
      rw [hW3] at HN
      have HW3 := hid hW3
      clear hF2 hk2 hb3 hB3 hno hW3
      go_wp2_with fail
      (with_reducible refine HN.out.mono ?_)
      rintro r W4 ⟨rfl, hF4, hk4⟩
      rw [← HW3.out] at hk4
      have HL := hid (fleast_any hF4 (by decide))
      rw [show leastF ((awL 3).eraseIdx 1) = (true, 4607182418800017408) by decide +kernel] at HL
      have H4 := hid (⟨H2.out.1.trans hk4, H2.out.2.1.kp hk4 H2.out.2.2, H2.out.2.2⟩ : _ ∧ _ ∧ _)
      clear hF4 hk4
      rw [show (((awL 3).eraseIdx 1).length : Int) = 2 from rfl]
      go_wp2_with fail
      (with_reducible refine HL.out.mono ?_)
      rintro r W5 ⟨rfl, hF5, hk5⟩
      have hB5 := H4.out.2.1.kp hk5 H4.out.2.2
      have c2 : W5.cell? ⟨W2.heap.size, 2, none⟩ = some (.int .i64 1) := hB5.cell 2
      have HF := hid ((H4.out.1.trans hk5).to_below HX.out.1.size (fun x hx => HX.out.2 x (by simp [hx])))
      have HFF := hid (HX.out.1.trans (HF.out.mono (Nat.le_refl _)))
      clear hF5 hk5 hB5
      go_wp2
      go_ret
      exact ⟨rfl, HFF.out⟩
end Go.Proofs.YtnnghcooidjlhaaGreat
end
section
set_option linter.unusedSimpArgs false
set_option linter.unusedVariables false
set_option maxRecDepth 100000
namespace Go.Proofs.YtnnghcooidjlhaaGreat
open Go.RowKit Go.Lib
def fl0 : Fl := ⟨0, ⟨0, 0, 0, 0, 0⟩, false⟩
theorem Ms.one {w : World} {b : Nat} {t : TypeId} {x : Fl} {c : Nat} (h : Blk w b t #[.float .f64 x.e.t, .int .i64 x.e.src, .int .i64 x.e.n, .int .i64 x.e.dst, .int .i64 x.e.pay, .bool x.a]) : Ms w (.slice (some ⟨b, 0, none⟩) 1 c) [x] := by
  refine ⟨some ⟨b, 0, none⟩, c, rfl, .inr ⟨b, 0, rfl, h.lt, fun i y hy q u hu => ?_⟩⟩
  rcases i with _ | i
  · simp at hy
    subst hy
    rw [Nat.zero_mul, Nat.add_zero, Nat.zero_add, h.cell]
    rw [← hu]
    simp [msgC]
  · simp at hy
set_option maxHeartbeats 8000000 in
theorem lnone22_any (k i : Int) (e : Ev) (a : Bool) (w : World) :
    Calls Tryz.prog 16 #[.agg #[.int .i64 k, .int .i64 i, .float .f64 e.t, .int .i64 e.src, .int .i64 e.n, .int .i64 e.dst, .int .i64 e.pay, .bool a]] w fun r w' => r = .returned (.bool true) ∧ Below w.heap.size w w' := by
  obtain ⟨W1, hW1⟩ : ∃ W1, W1 = w.alloc (.cells #[.int .i64 k, .int .i64 i, .float .f64 e.t, .int .i64 e.src, .int .i64 e.n, .int .i64 e.dst, .int .i64 e.pay, .bool a] 118) := ⟨_, rfl⟩
  have hb1 : Below w.heap.size w W1 := by rw [hW1]; exact (Below.refl _ w).alloc (Nat.le_refl _) _
  have hB1 : Blk W1 w.heap.size 118 #[.int .i64 k, .int .i64 i, .float .f64 e.t, .int .i64 e.src, .int .i64 e.n, .int .i64 e.dst, .int .i64 e.pay, .bool a] := by rw [hW1]; exact Blk.new w _ _
  have HT := hid (ftake_nil i W1)
  have HL := hid (fun W => flist_nil W)
  have HN := hid (fun W => flen_nil W)
  have HLE := hid (fun W => fleast_nil W)
  have HO := hid (fun W => flight_of_nil W)
  have HA := hid (fun W => awake22_any W)
  have HM := hid (fun W => msg22_any e a W)
  have HS := hid (fun W => fsend_nil e a W)
  unfold msgV at HM HS
  unfold msg0 at HT
  rw [hW1] at HT
  have HX := hid (⟨hb1, hB1⟩ : _ ∧ _)
  have HW1 := hid hW1
  clear hb1 hB1 hW1
  go_enter Tryz.func16, Tryz.ntmps16
  go_wp2_with fail
  (with_reducible refine HT.out.mono ?_)
  rintro r W2 ⟨rfl, hb2⟩
  rw [← HW1.out] at hb2
  have HB2 := hid hb2
  clear hb2
  go_wp2_with (first
      | (go_at_call 57; refine (HL.out _).mono ?_; rintro e w' ⟨rfl, rfl⟩)
      | (go_at_call 58; refine (HN.out _).mono ?_; rintro e w' ⟨rfl, rfl⟩)
      | (go_at_call 59; refine (HLE.out _).mono ?_; rintro e w' ⟨rfl, rfl⟩)
      | (go_at_call 67; refine (HO.out _).mono ?_; rintro e w' ⟨rfl, rfl⟩))
  obtain ⟨W3, hW3⟩ : ∃ W3, W3 = W2.alloc (.cells #[.float .f64 0, .int .i64 0, .int .i64 0, .int .i64 0, .int .i64 0, .bool false] 99) := ⟨_, rfl⟩
  have hb3 : Below W2.heap.size W2 W3 := by rw [hW3]; exact (Below.refl _ W2).alloc (Nat.le_refl _) _
  have hB3 : Blk W3 W2.heap.size 99 #[.float .f64 0, .int .i64 0, .int .i64 0, .int .i64 0, .int .i64 0, .bool false] := by rw [hW3]; exact Blk.new W2 _ _
  have hA3 := (HX.out.2.below HB2.out HX.out.2.lt).below hb3 (HX.out.2.below HB2.out HX.out.2.lt).lt
  have hb03 := HX.out.1.trans ((HB2.out.trans (hb3.mono HB2.out.size)).mono HX.out.1.size)
  have H3 := hid (⟨hb03, hA3, hB3⟩ : _ ∧ _ ∧ _)
  have HA3 := hid (HA.out W3)
  rw [hW3] at HA3
  have HW3 := hid hW3
  clear hb3 hB3 hA3 hb03 hW3
  (with_reducible refine HA3.out.mono ?_)
  rintro r W4 ⟨rfl, hb4⟩
  rw [← HW3.out] at hb4
  have hA4 := H3.out.2.1.below hb4 H3.out.2.1.lt
  have hB4 := H3.out.2.2.below hb4 H3.out.2.2.lt
  have a2 : W4.cell? ⟨w.heap.size, 2, none⟩ = some (.float .f64 e.t) := hA4.cell 2
  have a3 : W4.cell? ⟨w.heap.size, 3, none⟩ = some (.int .i64 e.src) := hA4.cell 3
  have a4 : W4.cell? ⟨w.heap.size, 4, none⟩ = some (.int .i64 e.n) := hA4.cell 4
  have a5 : W4.cell? ⟨w.heap.size, 5, none⟩ = some (.int .i64 e.dst) := hA4.cell 5
  have a6 : W4.cell? ⟨w.heap.size, 6, none⟩ = some (.int .i64 e.pay) := hA4.cell 6
  have a7 : W4.cell? ⟨w.heap.size, 7, none⟩ = some (.bool a) := hA4.cell 7
  have H4 := hid (⟨H3.out.1.trans (hb4.mono H3.out.1.size), hB4⟩ : _ ∧ _)
  clear hb4 hA4 hB4
  go_wp2_with fail
  (with_reducible refine (HM.out W4).mono ?_)
  rintro r W5 ⟨rfl, hb5⟩
  have H5 := hid (⟨H4.out.1.trans (hb5.mono H4.out.1.size), H4.out.2.below hb5 H4.out.2.lt⟩ : _ ∧ _)
  clear hb5 a2 a3 a4 a5 a6 a7
  go_wp2_with fail
  (with_reducible refine (HS.out W5).mono ?_)
  rintro r W6 ⟨rfl, hb6⟩
  have hB6 := H5.out.2.below hb6 H5.out.2.lt
  have b0 : W6.cell? ⟨W2.heap.size, 0, none⟩ = some (.float .f64 0) := hB6.cell 0
  have b1 : W6.cell? ⟨W2.heap.size, 1, none⟩ = some (.int .i64 0) := hB6.cell 1
  have b2 : W6.cell? ⟨W2.heap.size, 2, none⟩ = some (.int .i64 0) := hB6.cell 2
  have b3 : W6.cell? ⟨W2.heap.size, 3, none⟩ = some (.int .i64 0) := hB6.cell 3
  have b4 : W6.cell? ⟨W2.heap.size, 4, none⟩ = some (.int .i64 0) := hB6.cell 4
  have b5 : W6.cell? ⟨W2.heap.size, 5, none⟩ = some (.bool false) := hB6.cell 5
  have H6 := hid (⟨H5.out.1.trans (hb6.mono H5.out.1.size), hB6⟩ : _ ∧ _)
  clear hb6 hB6
  obtain ⟨W7, hW7⟩ : ∃ W7, W7 = (W6.alloc (.cells #[.float .f64 0, .int .i64 0, .int .i64 0, .int .i64 0, .int .i64 0, .bool false] 99)).alloc (.cells #[.float .f64 0, .int .i64 0, .int .i64 0, .int .i64 0, .int .i64 0, .bool false] 116) := ⟨_, rfl⟩
  have hb7 : Below W6.heap.size W6 W7 := by rw [hW7]; exact ((Below.refl _ W6).alloc (Nat.le_refl _) _).alloc (by simp) _
  have hM1 : Ms W7 (.slice (some ⟨W6.heap.size, 0, none⟩) 1 1) [fl0] := by
    refine Ms.one (t := 99) (x := fl0) ?_
    rw [hW7]
    exact (Blk.new W6 _ _).alloc _
  have hM2 : Ms W7 (.slice (some ⟨W6.heap.size + 1, 0, none⟩) 1 1) [fl0] := by
    refine Ms.one (t := 116) (x := fl0) ?_
    rw [hW7]
    have h1 := Blk.new (W6.alloc (.cells #[.float .f64 0, .int .i64 0, .int .i64 0, .int .i64 0, .int .i64 0, .bool false] 99)) 116 #[.float .f64 0, .int .i64 0, .int .i64 0, .int .i64 0, .int .i64 0, .bool false]
    rw [show (W6.alloc (.cells #[.float .f64 0, .int .i64 0, .int .i64 0, .int .i64 0, .int .i64 0, .bool false] 99)).heap.size = W6.heap.size + 1 by simp] at h1
    exact h1
  have HSM := hid (same22_any hM1 hM2 (by decide))
  rw [hW7] at HSM
  have H7 := hid (H6.out.1.trans (hb7.mono H6.out.1.size))
  have HW7 := hid hW7
  clear hb7 hM1 hM2 hW7
  go_wp2_with fail
  (with_reducible refine HSM.out.mono ?_)
  rintro r W8 ⟨rfl, hb8⟩
  rw [← HW7.out] at hb8
  have H8 := hid (H7.out.trans (hb8.mono H7.out.size))
  clear hb8
  go_wp2
  go_ret
  exact ⟨rfl, H8.out⟩
end Go.Proofs.YtnnghcooidjlhaaGreat
end
section
set_option linter.unusedSimpArgs false
set_option maxRecDepth 100000
namespace Go.Proofs.YtnnghcooidjlhaaGreat
open Go.ChangeShapes Go.WideShapes Go.ChangeAt Go.RowKit Go.Deep
theorem own : ownKnob Tryz.prog.godebug = none := by kernel_rfl
theorem laid : laidOutB Tryz.prog = true := by kernel_rfl
section
variable {H : Type} {enc : TypeId × Value → H} {P : Program} {w : World} {base : Nat} {spare : Nat → Bool} {held : Bool}
theorem mapM_some {α β : Type} (f : α → Option β) : ∀ (l : List α) (ys : List β), l.mapM f = some ys → ∀ a ∈ l, ∃ b, f a = some b := by
  intro l
  induction l with
  | nil => intro ys _ a ha; cases ha
  | cons x l ih =>
    intro ys h a ha
    rw [List.mapM_cons] at h
    cases hx : f x with
    | none => rw [hx] at h; cases h
    | some b =>
      cases hl : l.mapM f with
      | none => rw [hx, hl] at h; cases h
      | some bs =>
        cases ha with
        | head => exact ⟨b, hx⟩
        | tail _ ha => exact ih bs hl a ha
theorem trod_fields {t : TypeId} {fs : Array Field} {n : Nat} {cs : List Value} {x : DataW H × List MemPlace} (hu : P.underlying t = some (.struct fs)) (h : DataW.trod enc P w base spare held (n + 1) t cs = some x) :
    cs.length = P.cellsOf t ∧ ∀ f ∈ fs.toList, ∃ y, DataW.trod enc P w base spare held n f.type ((cs.drop f.offset).take (P.cellsOf f.type)) = some y := by
  simp only [DataW.trod, hu] at h
  split at h
  · rename_i hl
    refine ⟨hl, ?_⟩
    cases hm : fs.toList.mapM fun f => DataW.trod enc P w base spare held n f.type ((cs.drop f.offset).take (P.cellsOf f.type)) with
    | none => rw [hm] at h; cases h
    | some ys => exact mapM_some _ _ ys hm
  · cases h
theorem leaf_int {t : TypeId} {k : IntKind} {n : Nat} {c : Value} {x : DataW H × List MemPlace} (hu : P.underlying t = some (.int k)) (h : DataW.trod enc P w base spare held n t [c] = some x) : ∃ z, c = .int k z ∧ (Lit.int k z).wf = true := by
  cases n with
  | zero => cases h
  | succ n =>
    cases c <;> simp [DataW.trod, hu] at h
    rename_i k' z
    obtain ⟨⟨rfl, hw⟩, _⟩ := h
    exact ⟨z, rfl, hw⟩
theorem leaf_float {t : TypeId} {k : FloatKind} {n : Nat} {c : Value} {x : DataW H × List MemPlace} (hu : P.underlying t = some (.float k)) (h : DataW.trod enc P w base spare held n t [c] = some x) : ∃ z, c = .float k z ∧ (Lit.float k z).wf = true := by
  cases n with
  | zero => cases h
  | succ n =>
    cases c <;> simp [DataW.trod, hu] at h
    rename_i k' z
    obtain ⟨⟨rfl, hw⟩, _⟩ := h
    exact ⟨z, rfl, hw⟩
theorem wf_float {b : Nat} (h : (Lit.float .f64 b).wf = true) : b < 18446744073709551616 := by
  simpa [Lit.wf, FloatKind.has] using h
theorem wf_int {z : Int} (h : (Lit.int .i64 z).wf = true) : -9223372036854775808 ≤ z ∧ z < 9223372036854775808 := by
  have := h
  simp [Lit.wf, IntKind.has, IntKind.min, IntKind.max, IntKind.signed, IntKind.bits] at this
  omega
theorem leaf_bool {t : TypeId} {n : Nat} {c : Value} {x : DataW H × List MemPlace} (hu : P.underlying t = some .bool) (h : DataW.trod enc P w base spare held n t [c] = some x) : ∃ z, c = .bool z := by
  cases n with
  | zero => cases h
  | succ n =>
    cases c <;> simp [DataW.trod, hu] at h
    exact ⟨_, rfl⟩
end
theorem cellsEvent : Tryz.prog.cellsOf 67 = 5 := by kernel_rfl
theorem cellsStamp : Tryz.prog.cellsOf 65 = 3 := by kernel_rfl
theorem cellsInt : Tryz.prog.cellsOf 3 = 1 := by kernel_rfl
theorem cellsBool : Tryz.prog.cellsOf 4 = 1 := by kernel_rfl
theorem cellsFloat : Tryz.prog.cellsOf 63 = 1 := by kernel_rfl
theorem cellsMsg22 : Tryz.prog.cellsOf 116 = 6 := by kernel_rfl
theorem cellsAct22 : Tryz.prog.cellsOf 118 = 8 := by kernel_rfl
section
variable {H : Type} {enc : TypeId × Value → H} {w : World} {base : Nat} {spare : Nat → Bool} {held : Bool}
theorem open_event {fuel : Nat} {cs : List Value} {x : DataW H × List MemPlace} (h : DataW.trod enc Tryz.prog w base spare held fuel 67 cs = some x) :
    ∃ e : Ev, cs = evC e ∧ e.ok := by
  cases fuel with
  | zero => cases h
  | succ n =>
    obtain ⟨hl, hf⟩ := trod_fields Tryz.underlying67 h
    rw [cellsEvent] at hl
    match cs, hl with
    | [c0, c1, c2, c3, c4], _ =>
      simp [cellsStamp, cellsInt] at hf
      obtain ⟨⟨_, _, hs⟩, ⟨_, _, h3⟩, ⟨_, _, h4⟩⟩ := hf
      obtain ⟨z3, rfl, w3⟩ := leaf_int Tryz.underlying3 h3
      obtain ⟨z4, rfl, w4⟩ := leaf_int Tryz.underlying3 h4
      cases n with
      | zero => cases hs
      | succ n =>
        obtain ⟨_, hf⟩ := trod_fields Tryz.underlying65 hs
        simp [cellsFloat, cellsInt] at hf
        obtain ⟨⟨_, _, h0⟩, ⟨_, _, h1⟩, ⟨_, _, h2⟩⟩ := hf
        obtain ⟨z0, rfl, w0⟩ := leaf_float Tryz.underlying63 h0
        obtain ⟨z1, rfl, w1⟩ := leaf_int Tryz.underlying3 h1
        obtain ⟨z2, rfl, w2⟩ := leaf_int Tryz.underlying3 h2
        exact ⟨⟨z0, z1, z2, z3, z4⟩, rfl, wf_float w0, wf_int w1, wf_int w2, wf_int w3, wf_int w4⟩
theorem open_msg22 {fuel : Nat} {cs : List Value} {x : DataW H × List MemPlace} (h : DataW.trod enc Tryz.prog w base spare held fuel 116 cs = some x) :
    ∃ (e : Ev) (a : Bool), cs = evC e ++ [.bool a] ∧ e.ok := by
  cases fuel with
  | zero => cases h
  | succ n =>
    obtain ⟨hl, hf⟩ := trod_fields Tryz.underlying116 h
    rw [cellsMsg22] at hl
    match cs, hl with
    | [c0, c1, c2, c3, c4, c5], _ =>
      simp [cellsEvent, cellsBool] at hf
      obtain ⟨⟨_, _, he⟩, ⟨_, _, h5⟩⟩ := hf
      obtain ⟨a, rfl⟩ := leaf_bool Tryz.underlying4 h5
      obtain ⟨e, he, hok⟩ := open_event he
      exact ⟨e, a, by rw [← he]; rfl, hok⟩
theorem open_act22 {fuel : Nat} {cs : List Value} {x : DataW H × List MemPlace} (h : DataW.trod enc Tryz.prog w base spare held fuel 118 cs = some x) :
    ∃ (k i : Int) (e : Ev) (a : Bool), cs = [.int .i64 k, .int .i64 i] ++ (evC e ++ [.bool a]) ∧ e.ok ∧ (-9223372036854775808 ≤ k ∧ k < 9223372036854775808) ∧ (-9223372036854775808 ≤ i ∧ i < 9223372036854775808) := by
  cases fuel with
  | zero => cases h
  | succ n =>
    obtain ⟨hl, hf⟩ := trod_fields Tryz.underlying118 h
    rw [cellsAct22] at hl
    match cs, hl with
    | [c0, c1, c2, c3, c4, c5, c6, c7], _ =>
      simp [cellsMsg22, cellsInt] at hf
      obtain ⟨⟨_, _, h0⟩, ⟨_, _, h1⟩, ⟨_, _, h2⟩⟩ := hf
      obtain ⟨k, rfl, wk⟩ := leaf_int Tryz.underlying3 h0
      obtain ⟨i, rfl, wi⟩ := leaf_int Tryz.underlying3 h1
      obtain ⟨e, a, he, hok⟩ := open_msg22 h2
      exact ⟨k, i, e, a, by rw [← he]; rfl, hok, wf_int wk, wf_int wi⟩
theorem trodAll_below {P : Program} {W W' : World} (hl : laidOutB P = true) (hb : Below W.heap.size W W') : ∀ {ts : List TypeId} {vs : List Value} {ds : List (DataW H)} {ps : List MemPlace},
    DataW.TrodAll enc P W 0 (fun _ => true) true ts vs ds ps → (∀ t ∈ ts, P.readableRec t = true ∧ t < P.types.size) →
    DataW.TrodAll enc P W' 0 (fun b => decide (b < W.heap.size)) true ts vs ds ps
  | [], [], [], _, h, _ => h
  | t :: ts, v :: vs, d :: ds, _, h, ht => by
    obtain ⟨p, q, h1, h2, rfl⟩ := h
    obtain ⟨a, b⟩ := ht t (by simp)
    refine ⟨p, q, Below.trod hl a b h1 hb ?_, trodAll_below hl hb h2 (fun t ht' => ht t (by simp [ht'])), rfl⟩
    obtain ⟨fuel, hf⟩ := h1
    exact DataW.trod_lt _ _ _ _ hf
  | [], [], _ :: _, _, h, _ => h.elim
  | [], _ :: _, _, _, h, _ => h.elim
  | _ :: _, [], _, _, h, _ => h.elim
  | _ :: _, _ :: _, [], _, h, _ => h.elim
end
end Go.Proofs.YtnnghcooidjlhaaGreat
end
