/- Parts of the proof: Yn Ot. -/
import Derived.Test.YtnnghcooidjlhaaGreatA26
import Derived.Test.YtnnghcooidjlhaaGreatA29
set_option linter.all false
section
set_option linter.unusedSimpArgs false
set_option linter.unusedVariables false
set_option maxRecDepth 100000
namespace Go.Proofs.YtnnghcooidjlhaaGreat
open Go.RowKit Go.Lib
set_option maxHeartbeats 8000000 in
theorem snone25_any (kd : Int) (k : Bs) (p : Option Addr) (n c : Nat) (st : Sta) (lp : Int) (w : World) :
    Calls Tryz.prog 6 #[.agg #[.int .i64 kd, .string (S k), .slice p n c, .int .i64 st.sent, .int .i64 st.dice], .int .i64 lp] w fun r w' => r = .returned (.bool true) ∧ Below w.heap.size w w' := by
  obtain ⟨W1, hW1⟩ : ∃ W1, W1 = w.alloc (.cells #[.int .i64 kd, .string (S k), .slice p n c, .int .i64 st.sent, .int .i64 st.dice] 31) := ⟨_, rfl⟩
  have hb1 : Below w.heap.size w W1 := by rw [hW1]; exact (Below.refl _ w).alloc (Nat.le_refl _) _
  have hB1 : Blk W1 w.heap.size 31 #[.int .i64 kd, .string (S k), .slice p n c, .int .i64 st.sent, .int .i64 st.dice] := by rw [hW1]; exact Blk.new w _ _
  have HA := hid (sahead_no none k 1 (.inl ⟨rfl, rfl⟩) W1)
  have HK := hid (fun W => skeys_nil W)
  have HFR := hid (fun W => sfrom_nil (S k) W)
  have HBL := hid (fun W => sbelow_nil (S k) W)
  have HO := hid (fun W => snof_nil lp W)
  have HBG := hid (fun W => begun_any W)
  have HAW := hid (fun W => awake25_any W)
  have HT := hid (fun W => stake_nil (S k) p n c st W)
  unfold staV at HT
  unfold sta0 at HA
  rw [hW1] at HA
  have HX := hid (⟨hb1, hB1⟩ : _ ∧ _)
  have HW1 := hid hW1
  clear hb1 hB1 hW1
  go_enter Tryz.func6, Tryz.ntmps6
  go_wp2_with fail
  (with_reducible refine HA.out.mono ?_)
  rintro r W2 ⟨rfl, hb2⟩
  rw [← HW1.out] at hb2
  obtain ⟨W3, hW3⟩ : ∃ W3, W3 = W2.alloc (.cells #[.slice none 0 0, .int .i64 0, .int .i64 0] 29) := ⟨_, rfl⟩
  have hb3 : Below W2.heap.size W2 W3 := by rw [hW3]; exact (Below.refl _ W2).alloc (Nat.le_refl _) _
  have hB3 : Blk W3 W2.heap.size 29 #[.slice none 0 0, .int .i64 0, .int .i64 0] := by rw [hW3]; exact Blk.new W2 _ _
  have hb13 := hb2.trans (hb3.mono hb2.size)
  have hA3 := HX.out.2.below hb13 HX.out.2.lt
  have a1 : W3.cell? ⟨w.heap.size, 1, none⟩ = some (.string (S k)) := hA3.cell 1
  have H3 := hid (⟨HX.out.1.trans (hb13.mono HX.out.1.size), hA3, hB3⟩ : _ ∧ _ ∧ _)
  have HW3 := hid hW3
  rw [hW3] at a1
  clear hb2 hb3 hB3 hb13 hA3 hW3
  go_wp2_with (first
      | (go_at_call 24; refine (HK.out _).mono ?_; rintro e w' ⟨rfl, rfl⟩)
      | (go_at_call 28; refine (HFR.out _).mono ?_; rintro e w' ⟨rfl, rfl⟩)
      | (go_at_call 30; refine (HBL.out _).mono ?_; rintro e w' ⟨rfl, rfl⟩)
      | (go_at_call 27; refine (HO.out _).mono ?_; rintro e w' ⟨rfl, rfl⟩))
  rw [← HW3.out]
  (with_reducible refine (HBG.out _).mono ?_)
  rintro r W4 ⟨s, O, rfl, hS, hb4, _⟩
  have H4 := hid (H3.out.1.trans (hb4.mono H3.out.1.size))
  have HB4 := hid hb4
  clear hS hb4 a1
  have hc : (0 ≤ lp ∧ lp < 6) ∨ (¬ 0 ≤ lp) ∨ (0 ≤ lp ∧ ¬ lp < 6) := by omega
  rcases hc with ⟨h0, h1⟩ | h0 | ⟨h0, h1⟩
  case' inl => have HOF : Hid (∀ W, Calls Tryz.prog 27 #[.pointer (some ⟨s.sb, 0, none⟩), .int .i64 lp] W fun e w' => ∃ g : Addr, e = .returned (.tuple #[.pointer (some g), .int .i64 0]) ∧ Below W.heap.size W w') := hid fun W => (snof_any s lp ⟨h0, h1⟩ W).mono fun e w' ⟨h1, h2⟩ => ⟨_, h1, by rw [← h2]; exact (Below.refl _ W).alloc (Nat.le_refl _) _⟩
  case' inr.inl => have HOF : Hid (∀ W, Calls Tryz.prog 27 #[.pointer (some ⟨s.sb, 0, none⟩), .int .i64 lp] W fun e w' => ∃ g : Nat, e = .returned (.tuple #[.pointer none, .int .i64 2]) ∧ Below W.heap.size W w') := hid fun W => (snof_bad _ lp (by omega) W).mono fun e w' ⟨h1, h2⟩ => ⟨0, h1, by rw [← h2]; exact Below.refl _ W⟩
  case' inr.inr => have HOF : Hid (∀ W, Calls Tryz.prog 27 #[.pointer (some ⟨s.sb, 0, none⟩), .int .i64 lp] W fun e w' => ∃ g : Nat, e = .returned (.tuple #[.pointer none, .int .i64 2]) ∧ Below W.heap.size W w') := hid fun W => (snof_bad _ lp (by omega) W).mono fun e w' ⟨h1, h2⟩ => ⟨0, h1, by rw [← h2]; exact Below.refl _ W⟩
  all_goals
    go_wp2_with fail
    (with_reducible refine (HOF.out _).mono ?_)
    rintro r W5 ⟨g, rfl, hb5⟩
    have hb35 : Below W3.heap.size W3 W5 := HB4.out.trans (hb5.mono HB4.out.size)
    have H5 := hid hb35
    clear hb5 hb35
    go_wp2_with fail
    (with_reducible refine (HAW.out _).mono ?_)
    rintro r W6 ⟨rfl, hb6⟩
    have hb36 : Below W3.heap.size W3 W6 := H5.out.trans (hb6.mono H5.out.size)
    have hv := Vw.nil (α := Int) 1 wC W6 none 0
    have HS := hid (same08_any (st := ⟨[], 0, 0⟩) hv hv rfl (by omega))
    unfold staV at HS
    have hB6 := H3.out.2.2.below hb36 H3.out.2.2.lt
    have b0 : W6.cell? ⟨W2.heap.size, 0, none⟩ = some (.slice none 0 0) := hB6.cell 0
    have b1 : W6.cell? ⟨W2.heap.size, 1, none⟩ = some (.int .i64 0) := hB6.cell 1
    have b2 : W6.cell? ⟨W2.heap.size, 2, none⟩ = some (.int .i64 0) := hB6.cell 2
    have H6 := hid hb36
    clear hb6 hb36 hv hB6
    go_wp2_with fail
    (with_reducible refine HS.out.mono ?_)
    rintro r W7 ⟨rfl, hb7⟩
    have hb37 : Below W3.heap.size W3 W7 := H6.out.trans (hb7.mono H6.out.size)
    have hA7 := H3.out.2.1.below hb37 H3.out.2.1.lt
    have a1 : W7.cell? ⟨w.heap.size, 1, none⟩ = some (.string (S k)) := hA7.cell 1
    have a2 : W7.cell? ⟨w.heap.size, 2, none⟩ = some (.slice p n c) := hA7.cell 2
    have a3 : W7.cell? ⟨w.heap.size, 3, none⟩ = some (.int .i64 st.sent) := hA7.cell 3
    have a4 : W7.cell? ⟨w.heap.size, 4, none⟩ = some (.int .i64 st.dice) := hA7.cell 4
    have H7 := hid (H3.out.1.trans (hb37.mono H3.out.1.size))
    clear hb7 hb37 hA7 b0 b1 b2
    go_wp2_with fail
    (with_reducible refine (HT.out _).mono ?_)
    rintro r W8 ⟨rfl, hb8⟩
    have H8 := hid (H7.out.trans (hb8.mono H7.out.size))
    clear hb8 a1 a2 a3 a4
    go_wp2
    go_ret
    exact ⟨by first | rfl | simp [h0, h1], H8.out⟩
end Go.Proofs.YtnnghcooidjlhaaGreat
end
section
set_option linter.unusedSimpArgs false
set_option maxRecDepth 100000
namespace Go.Proofs.YtnnghcooidjlhaaGreat
open Go.ChangeShapes Go.WideShapes Go.ChangeAt Go.RowKit Go.Deep
theorem cellsInts : Tryz.prog.cellsOf 27 = 1 := by kernel_rfl
theorem cellsString : Tryz.prog.cellsOf 9 = 1 := by kernel_rfl
theorem cellsState : Tryz.prog.cellsOf 29 = 3 := by kernel_rfl
theorem cellsAct25 : Tryz.prog.cellsOf 31 = 5 := by kernel_rfl
structure A25 where
  kd : Int
  k : Bs
  p : Option Addr
  c : Nat
  st : Sta
def a25C (a : A25) : List Value := [.int .i64 a.kd, .string (S a.k), .slice a.p a.st.words.length a.c, .int .i64 a.st.sent, .int .i64 a.st.dice]
theorem a25C_len (a : A25) : (a25C a).length = 5 := rfl
section
variable {H : Type} {enc : TypeId × Value → H} {w : World} {spare : Nat → Bool} {held : Bool} {fuel : Nat}
theorem leaf_string {P : Program} {base : Nat} {t : TypeId} {n : Nat} {c : Value} {x : DataW H × List MemPlace} (hu : P.underlying t = some .string) (h : DataW.trod enc P w base spare held n t [c] = some x) : ∃ k : Bs, c = .string (S k) := by
  cases n with
  | zero => cases h
  | succ n =>
    cases c <;> simp [DataW.trod, hu] at h
    rename_i z
    exact ⟨z.data.toList, rfl⟩
theorem open_ints {v : Value} {x : DataW H × List MemPlace} (h : DataW.trod enc Tryz.prog w 0 spare held fuel 27 [v] = some x) :
    ∃ (p : Option Addr) (n c : Nat) (l : List Int), v = .slice p n c ∧ n = l.length ∧ Vw 1 wC w (.slice p n c) l ∧ ∀ y ∈ l, -9223372036854775808 ≤ y ∧ y < 9223372036854775808 :=
  open_rows (R := fun y : Int => -9223372036854775808 ≤ y ∧ y < 9223372036854775808) 0 Tryz.underlying27 cellsInt (by decide) wC_len (fun fuel cs x h => by
    cases fuel with
    | zero => cases h
    | succ n =>
      have hl : cs.length = 1 := by
        have := h
        match cs, this with
        | [c], _ => rfl
        | [], h => simp [DataW.trod, Tryz.underlying3] at h
        | _ :: _ :: _, h => simp [DataW.trod, Tryz.underlying3] at h
      match cs, hl with
      | [c], _ =>
        obtain ⟨z, rfl, hz⟩ := leaf_int Tryz.underlying3 h
        exact ⟨z, rfl, wf_int hz⟩) h
theorem open_act25 {cs : List Value} {x : DataW H × List MemPlace} (h : DataW.trod enc Tryz.prog w 0 spare held fuel 31 cs = some x) :
    ∃ a : A25, cs = a25C a ∧ Vw 1 wC w (.slice a.p a.st.words.length a.c) a.st.words ∧ a.st.ok ∧ (-9223372036854775808 ≤ a.st.sent ∧ a.st.sent < 9223372036854775808) ∧ (-9223372036854775808 ≤ a.st.dice ∧ a.st.dice < 9223372036854775808) := by
  cases fuel with
  | zero => cases h
  | succ n =>
    obtain ⟨hl, hf⟩ := trod_fields Tryz.underlying31 h
    rw [cellsAct25] at hl
    match cs, hl with
    | [c0, c1, c2, c3, c4], _ =>
      simp [cellsState, cellsInt, cellsString] at hf
      obtain ⟨⟨_, _, h0⟩, ⟨_, _, h1⟩, ⟨_, _, hs⟩⟩ := hf
      obtain ⟨z0, rfl, w0⟩ := leaf_int Tryz.underlying3 h0
      obtain ⟨k, rfl⟩ := leaf_string Tryz.underlying9 h1
      cases n with
      | zero => cases hs
      | succ n =>
        obtain ⟨_, hf⟩ := trod_fields Tryz.underlying29 hs
        simp [cellsInt, cellsInts] at hf
        obtain ⟨⟨_, _, h2⟩, ⟨_, _, h3⟩, ⟨_, _, h4⟩⟩ := hf
        obtain ⟨p, n, c, l, rfl, rfl, hv, hok⟩ := open_ints h2
        obtain ⟨z3, rfl, w3⟩ := leaf_int Tryz.underlying3 h3
        obtain ⟨z4, rfl, w4⟩ := leaf_int Tryz.underlying3 h4
        exact ⟨⟨z0, k, p, c, ⟨l, z3, z4⟩⟩, rfl, hv, hok, wf_int w3, wf_int w4⟩
end
end Go.Proofs.YtnnghcooidjlhaaGreat
end
