/- Parts of the proof: Zj Oy. -/
import Derived.Test.YtnnghcooidjlhaaGreatC23
import Derived.Test.YtnnghcooidjlhaaGreatC26
set_option linter.all false
section
set_option linter.unusedSimpArgs false
set_option linter.unusedVariables false
set_option maxRecDepth 100000
namespace Go.Proofs.YtnnghcooidjlhaaGreat
open Go.RowKit Go.Lib
theorem oof_has (s : SL) (lp : Int) (bb : Bool) (h : 0 ≤ lp ∧ lp < 6) (W : World) : Calls Tryz.prog 45 #[.pointer (some ⟨s.sb, 0, none⟩), .int .i64 lp, .bool bb] W fun e w' => ∃ g : Addr, e = .returned (.tuple #[.pointer (some g), .int .i64 0]) ∧ Below W.heap.size W w' := by
  cases bb
  · exact (oof_a s lp h W).mono fun e w' ⟨h1, h2⟩ => ⟨_, h1, by rw [← h2]; exact (Below.refl _ W).alloc (Nat.le_refl _) _⟩
  · exact (oof_b s lp h W).mono fun e w' ⟨h1, h2⟩ => ⟨_, h1, by rw [← h2]; exact (Below.refl _ W).alloc (Nat.le_refl _) _⟩
theorem oof_hasnot (s : SL) (lp : Int) (bb : Bool) (h : ¬ (0 ≤ lp ∧ lp < 6)) (W : World) : Calls Tryz.prog 45 #[.pointer (some ⟨s.sb, 0, none⟩), .int .i64 lp, .bool bb] W fun e w' => ∃ g : Nat, e = .returned (.tuple #[.pointer none, .int .i64 2]) ∧ Below W.heap.size W w' :=
  (oof_bad _ lp bb h W).mono fun e w' ⟨h1, h2⟩ => ⟨0, h1, by rw [← h2]; exact Below.refl _ W⟩
set_option maxHeartbeats 16000000 in
theorem onone24_any (kd : Int) (bb : Bool) (x : It) (fr to : Bs) (lp : Int) (w : World) :
    Calls Tryz.prog 10 #[.agg #[.int .i64 kd, .bool bb, .string (S x.c), .int .i64 x.k, .float .f64 x.e.t, .int .i64 x.e.src, .int .i64 x.e.n, .int .i64 x.e.dst, .int .i64 x.e.pay, .string (S fr), .string (S to)], .int .i64 lp] w fun r w' => r = .returned (.bool true) ∧ Below w.heap.size w w' := by
  obtain ⟨W1, hW1⟩ : ∃ W1, W1 = w.alloc (.cells #[.int .i64 kd, .bool bb, .string (S x.c), .int .i64 x.k, .float .f64 x.e.t, .int .i64 x.e.src, .int .i64 x.e.n, .int .i64 x.e.dst, .int .i64 x.e.pay, .string (S fr), .string (S to)] 84) := ⟨_, rfl⟩
  have hb1 : Below w.heap.size w W1 := by rw [hW1]; exact (Below.refl _ w).alloc (Nat.le_refl _) _
  have hB1 : Blk W1 w.heap.size 84 #[.int .i64 kd, .bool bb, .string (S x.c), .int .i64 x.k, .float .f64 x.e.t, .int .i64 x.e.src, .int .i64 x.e.n, .int .i64 x.e.dst, .int .i64 x.e.pay, .string (S fr), .string (S to)] := by rw [hW1]; exact Blk.new w _ _
  have HC : Hid (∀ W, Below W1.heap.size W1 W → W.cell? ⟨w.heap.size, 1, none⟩ = some (.bool bb) ∧ W.cell? ⟨w.heap.size, 2, none⟩ = some (.string (S x.c)) ∧ W.cell? ⟨w.heap.size, 3, none⟩ = some (.int .i64 x.k) ∧ W.cell? ⟨w.heap.size, 4, none⟩ = some (.float .f64 x.e.t) ∧ W.cell? ⟨w.heap.size, 5, none⟩ = some (.int .i64 x.e.src) ∧ W.cell? ⟨w.heap.size, 6, none⟩ = some (.int .i64 x.e.n) ∧ W.cell? ⟨w.heap.size, 7, none⟩ = some (.int .i64 x.e.dst) ∧ W.cell? ⟨w.heap.size, 8, none⟩ = some (.int .i64 x.e.pay)) := hid fun W hW => by
    have h := hB1.below hW hB1.lt
    exact ⟨h.cell 1, h.cell 2, h.cell 3, h.cell 4, h.cell 5, h.cell 6, h.cell 7, h.cell 8⟩
  have HL := hid (fun W => olist_nil (S fr) (S to) W)
  have HCL := hid (fun W => oclear_nil (S fr) (S to) W)
  have HM := hid (omove_nil (S fr) W1)
  have HO := hid (fun W => oof_nil lp bb W)
  have HBG := hid (fun W => begun_any W)
  have HAW := hid (fun W => awake24_any W)
  have HI := hid (fun W => item24_any x W)
  have HP := hid (fun W => oput_nil x W)
  have HD := hid (fun W => odel_nil x W)
  unfold itV at HI HP HD
  rw [hW1] at HM
  have HX := hid hb1
  have HW1 := hid hW1
  clear hb1 hB1 hW1
  go_enter Tryz.func10, Tryz.ntmps10
  go_wp2_with (first
      | (go_at_call 38; refine (HL.out _).mono ?_; rintro e w' ⟨rfl, rfl⟩)
      | (go_at_call 44; refine (HCL.out _).mono ?_; rintro e w' ⟨rfl, rfl⟩))
  (with_reducible refine HM.out.mono ?_)
  rintro r W2 ⟨rfl, hb2⟩
  rw [← HW1.out] at hb2
  obtain ⟨a1, _⟩ := HC.out W2 hb2
  have HB2 := hid hb2
  clear hb2
  go_wp2_with fail
  (with_reducible refine (HO.out _).mono ?_)
  rintro r W3 ⟨rfl, rfl⟩
  go_wp2
  have HCK : Hid (∀ W', Below W2.drew.heap.size W2.drew W' → W'.cell? ⟨w.heap.size, 1, none⟩ = some (.bool bb) ∧ Below W1.heap.size W1 W') := hid fun W' hb => by
    have hb12 := (below_drewN HB2.out 1).trans (hb.mono (below_drewN HB2.out 1).size)
    exact ⟨(HC.out W' hb12).1, hb12⟩
  have HBD := hid (HBG.out W2.drew)
  have hc : (0 ≤ lp ∧ lp < 6) ∨ (¬ 0 ≤ lp) ∨ (0 ≤ lp ∧ ¬ lp < 6) := by omega
  rcases hc with ⟨h0, h1⟩ | h0 | ⟨h0, h1⟩
  case' inl => have HOF := hid (fun (s : SL) W => oof_has s lp bb ⟨h0, h1⟩ W)
  case' inr.inl => have HOF := hid (fun (s : SL) W => oof_hasnot s lp bb (by omega) W)
  case' inr.inr => have HOF := hid (fun (s : SL) W => oof_hasnot s lp bb (by omega) W)
  all_goals
    go_region_held3 (fun W => W.cell? ⟨w.heap.size, 1, none⟩ = some (.bool bb)) (first | exact hck6 | exact hck5 | exact a1)
      (first
        | (go_at_call 26; refine HBD.out.mono ?_; rintro r W5 ⟨s, O, rfl, hS, hb5, _⟩; have hck5 := (HCK.out W5 hb5).1)
        | (go_at_call 45; refine (HOF.out s _).mono ?_; rintro r W6 ⟨g, rfl, hb6⟩; have hb56 := hb5.trans (hb6.mono hb5.size); have hck6 := (HCK.out W6 hb56).1))
  all_goals
    have hb16 := (HCK.out W6 hb56).2
    have H6 := hid hb16
    clear hS hb5 hb6 hb56 hb16 hck5 hck6 a1
    go_wp2_with fail
    (with_reducible refine (HAW.out _).mono ?_)
    rintro r W7 ⟨rfl, hb7⟩
    have hb17 := H6.out.trans (hb7.mono H6.out.size)
    have H7 := hid hb17
    obtain ⟨_, m0, m1, m2, m3, m4, m5, m6⟩ := HC.out W7 hb17
    clear hb7 hb17
    go_wp2_with fail
    (with_reducible refine (HI.out _).mono ?_)
    rintro r W8 ⟨rfl, hb8⟩
    have H8 := hid (H7.out.trans (hb8.mono H7.out.size))
    clear hb8 m0 m1 m2 m3 m4 m5 m6
    go_wp2_with fail
    (with_reducible refine (HP.out _).mono ?_)
    rintro r W9 ⟨rfl, hb9⟩
    have hb19 := H8.out.trans (hb9.mono H8.out.size)
    have H9 := hid hb19
    obtain ⟨_, m0, m1, m2, m3, m4, m5, m6⟩ := HC.out W9 hb19
    clear hb9 hb19
    go_wp2_with fail
    (with_reducible refine (HI.out _).mono ?_)
    rintro r W10 ⟨rfl, hb10⟩
    have H10 := hid (H9.out.trans (hb10.mono H9.out.size))
    clear hb10 m0 m1 m2 m3 m4 m5 m6
    go_wp2_with fail
    (with_reducible refine (HD.out _).mono ?_)
    rintro r W11 ⟨rfl, hb11⟩
    have H11 := hid (H10.out.trans (hb11.mono H10.out.size))
    clear hb11
    go_wp2
    go_ret
    exact ⟨by first | rfl | simp [h0, h1], HX.out.trans (H11.out.mono HX.out.size)⟩
end Go.Proofs.YtnnghcooidjlhaaGreat
end
section
set_option linter.unusedSimpArgs false
set_option maxRecDepth 100000
namespace Go.Proofs.YtnnghcooidjlhaaGreat
open Go.ChangeShapes Go.WideShapes Go.ChangeAt Go.RowKit Go.Deep
theorem cellsStr : Tryz.prog.cellsOf 9 = 1 := by kernel_rfl
theorem cellsItem24 : Tryz.prog.cellsOf 72 = 7 := by kernel_rfl
theorem cellsAct24 : Tryz.prog.cellsOf 84 = 11 := by kernel_rfl
section
variable {H : Type} {enc : TypeId × Value → H} {w : World} {spare : Nat → Bool} {held : Bool} {fuel : Nat}
theorem leaf_str {P : Program} {base : Nat} {t : TypeId} {n : Nat} {c : Value} {x : DataW H × List MemPlace} (hu : P.underlying t = some .string) (h : DataW.trod enc P w base spare held n t [c] = some x) : ∃ k : Bs, c = .string (S k) := by
  cases n with
  | zero => cases h
  | succ n =>
    cases c <;> simp [DataW.trod, hu] at h
    rename_i z
    exact ⟨z.data.toList, rfl⟩
theorem open_item24 {cs : List Value} {x : DataW H × List MemPlace} (h : DataW.trod enc Tryz.prog w 0 spare held fuel 72 cs = some x) :
    ∃ y : It, cs = itC y ∧ y.e.ok ∧ -9223372036854775808 ≤ y.k ∧ y.k < 9223372036854775808 := by
  cases fuel with
  | zero => cases h
  | succ n =>
    obtain ⟨hl, hf⟩ := trod_fields Tryz.underlying72 h
    rw [cellsItem24] at hl
    match cs, hl with
    | [c0, c1, c2, c3, c4, c5, c6], _ =>
      simp [cellsStr, cellsInt, cellsEvent] at hf
      obtain ⟨⟨_, _, h0⟩, ⟨_, _, h1⟩, ⟨_, _, h2⟩⟩ := hf
      obtain ⟨k, rfl⟩ := leaf_str Tryz.underlying9 h0
      obtain ⟨z, rfl, hz⟩ := leaf_int Tryz.underlying3 h1
      obtain ⟨e, he, hok⟩ := open_event h2
      exact ⟨⟨k, z, e⟩, by rw [he]; rfl, hok, wf_int hz⟩
theorem open_act24 {cs : List Value} {x : DataW H × List MemPlace} (h : DataW.trod enc Tryz.prog w 0 spare held fuel 84 cs = some x) :
    ∃ (kd : Int) (bb : Bool) (y : It) (fr to : Bs), cs = [.int .i64 kd, .bool bb] ++ itC y ++ [.string (S fr), .string (S to)] ∧ y.e.ok ∧ -9223372036854775808 ≤ y.k ∧ y.k < 9223372036854775808 := by
  cases fuel with
  | zero => cases h
  | succ n =>
    obtain ⟨hl, hf⟩ := trod_fields Tryz.underlying84 h
    rw [cellsAct24] at hl
    match cs, hl with
    | [c0, c1, c2, c3, c4, c5, c6, c7, c8, c9, c10], _ =>
      simp [cellsStr, cellsInt, cellsBool, cellsItem24] at hf
      obtain ⟨⟨_, _, h0⟩, ⟨_, _, h1⟩, ⟨_, _, h2⟩, ⟨_, _, h3⟩, ⟨_, _, h4⟩⟩ := hf
      obtain ⟨kd, rfl, _⟩ := leaf_int Tryz.underlying3 h0
      obtain ⟨bb, rfl⟩ := leaf_bool Tryz.underlying4 h1
      obtain ⟨y, he, hok, hk⟩ := open_item24 h2
      obtain ⟨fr, rfl⟩ := leaf_str Tryz.underlying9 h3
      obtain ⟨to, rfl⟩ := leaf_str Tryz.underlying9 h4
      refine ⟨kd, bb, y, fr, to, ?_, hok, hk⟩
      rw [← he]
      rfl
end
end Go.Proofs.YtnnghcooidjlhaaGreat
end
