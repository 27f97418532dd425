/- Parts of the proof: Vl Vj Vm Vn Os. -/
import Derived.Deep.RegionHeld3
import Derived.Test.YtnnghcooidjlhaaGreatA26
set_option linter.all false
section
set_option linter.unusedSimpArgs false
set_option linter.unusedVariables false
set_option maxRecDepth 100000
namespace Go.Proofs.YtnnghcooidjlhaaGreat
open Go.RowKit Go.Lib
def TkC (A m : Nat) (i : Int) (x : Fl) (W : World) : Prop := W.cell? ⟨A, 1, none⟩ = some (.int .i64 i) ∧ W.cell? ⟨m, 0, none⟩ = some (.float .f64 x.e.t) ∧ W.cell? ⟨m, 1, none⟩ = some (.int .i64 x.e.src) ∧ W.cell? ⟨m, 2, none⟩ = some (.int .i64 x.e.n) ∧ W.cell? ⟨m, 3, none⟩ = some (.int .i64 x.e.dst) ∧ W.cell? ⟨m, 4, none⟩ = some (.int .i64 x.e.pay) ∧ W.cell? ⟨m, 5, none⟩ = some (.bool x.a)
section
variable {w : World} {fb : Nat} {s : SL} {O : List Nat} {N n : Nat} {l : List Fl} {v : Value}
set_option maxHeartbeats 8000000 in
theorem do22_take (h : FlI w fb s O N n l) (hv : Vw 6 msgC w v l) (hvo : ∀ b, v.ownBlock = some b → b ∉ O) (hl : l.length ≤ 100) (k : Int) (hk : k < 0 ∨ 3 ≤ k) (i : Nat) (hi : i < l.length) (e : Ev) (a : Bool) :
    Calls Tryz.prog 56 #[.pointer (some ⟨fb, 0, none⟩), v, .agg (actC k i e a)] w fun r w' => DoPost w fb s O N n l r w' := by
  obtain ⟨b, off, c, rfl, hc, hbl, hcx⟩ := hv.ex (by rintro rfl; simp at hi)
  obtain ⟨x, hx⟩ : ∃ x, l[i]? = some x := ⟨_, List.getElem?_eq_getElem hi⟩
  unfold actC
  obtain ⟨W1, hW1⟩ : ∃ W1, W1 = w.alloc (.cells #[.int .i64 k, .int .i64 i, .float .f64 e.t, .int .i64 e.src, .int .i64 e.n, .int .i64 e.dst, .int .i64 e.pay, .bool a] 118) := ⟨_, rfl⟩
  have hb1 : Below w.heap.size w W1 := by rw [hW1]; exact (Below.refl _ w).alloc (Nat.le_refl _) _
  have hB1 : Blk W1 w.heap.size 118 #[.int .i64 k, .int .i64 i, .float .f64 e.t, .int .i64 e.src, .int .i64 e.n, .int .i64 e.dst, .int .i64 e.pay, .bool a] := by rw [hW1]; exact Blk.new w _ _
  have HT := hid (ftake_any (h.below hb1) (by omega) hx)
  have hno : w.heap.size ∉ O := fun hm => by have := h.lts w.heap.size (by simp [hm]); omega
  unfold msgV at HT
  rw [hW1] at HT
  obtain ⟨nl, hnl⟩ : ∃ nl, nl = l.length := ⟨_, rfl⟩
  rw [← hnl] at hv hvo hi hc ⊢
  have hli : (i : Int) < (nl : Int) := by omega
  have HX := hid (⟨hb1, hB1, hv, hvo, hno, hnl, hl, hx, hbl, hcx⟩ : _ ∧ _ ∧ _ ∧ _ ∧ _ ∧ _ ∧ _ ∧ _ ∧ _ ∧ _)
  have HW1 := hid hW1
  have hkk : ¬ 0 ≤ k ∨ (0 ≤ k ∧ ¬ k < 3) := by omega
  have hi0 : ¬ (i : Int) < 0 := by omega
  have hi1 : ¬ (nl : Int) ≤ (i : Int) := by omega
  have hwr : IntKind.i64.wrap ((i : Int) + 1) = (i : Int) + 1 := by rw [IntKind.wrap_i64]; omega
  have hb3 : ((i : Int) + 1).toNat = i + 1 := by omega
  have hci : ¬ c = i := by omega
  have hic : i + 1 ≤ c := by omega
  have hg1 : (0 : Int) ≤ (i : Int) + 1 := by omega
  have hg2 : (i : Int) ≤ (i : Int) + 1 := by omega
  have hg3 : (i : Int) + 1 ≤ (c : Int) := by omega
  have hg4 : (0 : Int) ≤ (i : Int) := by omega
  clear h hv hvo hb1 hB1 hW1 hnl hc hno hk hi hx hbl hcx hl
  rcases hkk with hk0 | ⟨hk0, hk1⟩
  all_goals
    go_enter Tryz.func56, Tryz.ntmps56
    go_wp2_with fail
    (with_reducible refine HT.out.mono ?_)
    rintro r W2 ⟨rfl, hF2, hk2⟩
    rw [← HW1.out] at hk2
    have hB2 := HX.out.2.1.kp hk2 HX.out.2.2.2.2.1
    obtain ⟨W3, hW3⟩ : ∃ W3, W3 = W2.alloc (.cells #[.float .f64 x.e.t, .int .i64 x.e.src, .int .i64 x.e.n, .int .i64 x.e.dst, .int .i64 x.e.pay, .bool x.a] 99) := ⟨_, rfl⟩
    have hb23 : Below W2.heap.size W2 W3 := by rw [hW3]; exact (Below.refl _ W2).alloc (Nat.le_refl _) _
    have hB3 := hB2.below hb23 hB2.lt
    have hM3 : Blk W3 W2.heap.size 99 #[.float .f64 x.e.t, .int .i64 x.e.src, .int .i64 x.e.n, .int .i64 x.e.dst, .int .i64 x.e.pay, .bool x.a] := by rw [hW3]; exact Blk.new W2 _ _
    have a1 : W2.cell? ⟨w.heap.size, 1, none⟩ = some (.int .i64 i) := hB2.cell 1
    have hlt2 := hB2.lt
    have hk03 : Kp O w W3 := (Kp.of_below HX.out.1).trans (hk2.trans (Kp.of_below hb23))
    have hv3 : Vw 6 msgC W3 (.slice (some ⟨b, off, none⟩) nl c) l := HX.out.2.2.1.kp hk03 HX.out.2.2.2.1
    have HCL : Hid (∀ W, BelC W3 W → TkC w.heap.size W2.heap.size i x W) := hid fun W hW => by
      have h1 := hW.blk hB3
      have h2 := hW.blk hM3
      exact ⟨h1.cell 1, h2.cell 0, h2.cell 1, h2.cell 2, h2.cell 3, h2.cell 4, h2.cell 5⟩
    have HC0 : Hid (BelC W3 W3.drew) := hid (BelC.drew W3)
    have HTK : Hid (∀ W, BelC W3 W → Calls Tryz.prog 66 #[.slice (some ⟨b, off, none⟩) nl c, .int .i64 i] W fun r w' => ∃ p5 c5, r = .returned (.slice p5 (nl - 1) c5) ∧ w'.ownsRow W.heap.size 116 6 (.slice p5 (nl - 1) c5) (nl - 1) (rowV msgC (l.eraseIdx i)) ∧ Below W.heap.size W w') := hid fun W hW => by
      refine (take22_any (hv3.below hW.out) HX.out.2.2.2.2.2.1 (by have := HX.out.2.2.2.2.2.2.1; omega) (by have := HX.out.2.2.2.2.2.1; omega)).mono ?_
      rintro r w' ⟨v', rfl, hO, hb⟩
      rw [← HX.out.2.2.2.2.2.1] at hO
      obtain ⟨p5, c5, rfl⟩ := own_slice2 hO
      exact ⟨p5, c5, rfl, hO, hb⟩
    have HSM : Hid (∀ W g, BelC W3 W → Blk W g 99 #[.float .f64 x.e.t, .int .i64 x.e.src, .int .i64 x.e.n, .int .i64 x.e.dst, .int .i64 x.e.pay, .bool x.a] → Calls Tryz.prog 61 #[.slice (some ⟨g, 0, none⟩) 1 1, .slice (some ⟨b, off + i * 6, none⟩) 1 (c - i)] W fun r w' => r = .returned (.bool true) ∧ Below W.heap.size W w') := hid fun W g hW hB => by
      have hvW := hv3.below hW.out
      refine same22_any (l := [x]) (Ms.one hB) (Vw.ms ⟨_, c - i, rfl, by simp; omega, .inr ⟨b, off + i * 6, rfl, ?_, fun j y hj q u hu => ?_⟩⟩) (by simp)
      · have h1 := hk03.size
        have h2 := hW.out.size
        have h3 := HX.out.2.2.2.2.2.2.2.2.1
        omega
      · rcases j with _ | j
        · simp at hj
          subst hj
          obtain ⟨b', off', c', e', _, _, hcell⟩ := hvW.ex (by intro h0; have := HX.out.2.2.2.2.2.2.2.1; rw [h0] at this; simp at this)
          injection e' with e1 _ e3
          injection e1 with e1
          injection e1 with e1 e2 _
          subst e1 e2
          rw [Nat.zero_mul, Nat.add_zero]
          exact hcell i x HX.out.2.2.2.2.2.2.2.1 q u hu
        · simp at hj
    have H3 := hid (⟨hF2.below hb23, hk03⟩ : _ ∧ _)
    have HEL : Hid (nl - 1 = (l.eraseIdx i).length) := hid (by rw [List.length_eraseIdx, if_pos (by have := HX.out.2.2.2.2.2.1; omega), HX.out.2.2.2.2.2.1])
    have HW3 := hid hW3
    clear hF2 hk2 hB2 hb23 hB3 hM3 hW3 hk03 hv3
    go_wp2
    rw [← HW3.out]
    unfold TkC at HCL
    go_region_held3 (fun W => W.cell? ⟨w.heap.size, 1, none⟩ = some (.int .i64 i) ∧ W.cell? ⟨W2.heap.size, 0, none⟩ = some (.float .f64 x.e.t) ∧ W.cell? ⟨W2.heap.size, 1, none⟩ = some (.int .i64 x.e.src) ∧ W.cell? ⟨W2.heap.size, 2, none⟩ = some (.int .i64 x.e.n) ∧ W.cell? ⟨W2.heap.size, 3, none⟩ = some (.int .i64 x.e.dst) ∧ W.cell? ⟨W2.heap.size, 4, none⟩ = some (.int .i64 x.e.pay) ∧ W.cell? ⟨W2.heap.size, 5, none⟩ = some (.bool x.a))
      (first | exact HCL.out _ hc6 | exact HCL.out _ (hc6.alloc _) | exact HCL.out _ hc5 | exact HCL.out _ (hc5.alloc _) | exact HCL.out _ (HC0.out.alloc _) | exact HCL.out _ HC0.out)
      (first
        | (go_at_call 66; refine (HTK.out _ (by first | exact hc6 | exact HC0.out.alloc _ | exact HC0.out)).mono ?_; rintro r W5 ⟨p5, c5, rfl, hO5, hb5⟩; have hc5 : BelC W3 W5 := (by first | exact hc6.trans (BelC.of hb5) | exact (HC0.out.alloc _).trans (BelC.of hb5) | exact HC0.out.trans (BelC.of hb5)); have hlo5 : ∀ b, (Value.slice p5 (nl - 1) c5).ownBlock = some b → W3.heap.size ≤ b := (fun b hb => Nat.le_trans (by first | exact hc6.out.size | exact (HC0.out.alloc _).out.size | exact HC0.out.out.size) (hO5.lt b hb).1); have hV5 := Vw.of_own msgC_len hO5 (HEL.out))
        | (go_at_call 61; refine (HSM.out _ _ (by first | exact hc5.alloc _ | exact hc5 | exact HC0.out.alloc _) (by first | exact Blk.new _ _ _ | exact (Blk.new _ _ _).below hb5 (by simp))).mono ?_; rintro r W6 ⟨rfl, hb6⟩; have hc6 : BelC W3 W6 := (by first | exact (hc5.alloc _).trans (BelC.of hb6) | exact hc5.trans (BelC.of hb6) | exact (HC0.out.alloc _).trans (BelC.of hb6))))
    all_goals
      have HF : Hid (∀ b, (Value.slice p5 (nl - 1) c5).ownBlock = some b → b ∉ O) := hid fun b hb hm => by
        have h1 := hlo5 b hb
        have h2 := H3.out.1.lts b (by simp [hm])
        omega
      first
        | (have hc56 : BelC W3 W5 := hc6.trans (BelC.of hb5)
           have HG := hid (⟨H3.out.1.below hc56.out, H3.out.2.trans (Kp.of_below hc56.out), hV5⟩ : _ ∧ _ ∧ _))
        | (have HG := hid (⟨H3.out.1.below hc6.out, H3.out.2.trans (Kp.of_below hc6.out), hV5.below hb6⟩ : _ ∧ _ ∧ _))
        | (have HG := hid (⟨H3.out.1.below hc6.out, H3.out.2.trans (Kp.of_below hc6.out), (hV5.below ((Below.refl _ _).alloc (Nat.le_refl _) _)).below hb6⟩ : _ ∧ _ ∧ _))
      clear hV5 hlo5 hc5 hc6 hb5 hb6 hO5
      go_wp2
      go_ret2
      exact ⟨O, _, l.eraseIdx i, N, n, rfl, HG.out.1, HG.out.2.2, HF.out, HG.out.2.1, Gr.refl _ _, by omega, by omega, by rw [List.length_eraseIdx]; split <;> omega⟩
theorem do22_any (h : FlI w fb s O N n l) (hv : Vw 6 msgC w v l) (hvo : ∀ b, v.ownBlock = some b → b ∉ O) (hl : l.length ≤ 100) (hn : n ≤ 1000) (hN : N + 1 ≤ 100) (k i : Int) (e : Ev) (a : Bool) (ho : e.ok) :
    Calls Tryz.prog 56 #[.pointer (some ⟨fb, 0, none⟩), v, .agg (actC k i e a)] w fun r w' => DoPost w fb s O N n l r w' := by
  by_cases hk : 0 ≤ k ∧ k < 3
  · by_cases hr : e.right
    · exact do22_send h hv hvo hl hn hN k i hk e a hr ho
    · exact do22_bad h hv hvo k i hk e a hr
  · by_cases hi : i < 0 ∨ (l.length : Int) ≤ i
    · exact do22_no h hv hvo hl k i (by omega) hi e a
    · obtain ⟨j, rfl⟩ : ∃ j : Nat, i = (j : Int) := ⟨i.toNat, by omega⟩
      exact do22_take h hv hvo hl k (by omega) j (by omega) e a
end
end Go.Proofs.YtnnghcooidjlhaaGreat
end
section
set_option linter.unusedSimpArgs false
set_option linter.unusedVariables false
set_option maxRecDepth 100000
namespace Go.Proofs.YtnnghcooidjlhaaGreat
open Go.RowKit Go.Lib
structure A22 where
  k : Int
  i : Int
  e : Ev
  a : Bool
def a22C (x : A22) : List Value := (actC x.k x.i x.e x.a).toList
theorem a22C_len (x : A22) : (a22C x).length = 8 := rfl
def Rd22 (w : World) (fb : Nat) (s : SL) (j : Nat) (W : World) (v : Value) : Prop :=
  ∃ O N n l, FlI W fb s O N n l ∧ Vw 6 msgC W v l ∧ (∀ b, v.ownBlock = some b → b ∉ O) ∧ N ≤ 2 * j ∧ n ≤ j ∧ l.length ≤ j ∧ Below w.heap.size w W ∧ ∀ b ∈ fb :: s.sb :: s.tb :: O, w.heap.size ≤ b
theorem Rd22.below {w : World} {fb : Nat} {s : SL} {j : Nat} {W W' : World} {v : Value} (h : Rd22 w fb s j W v) (hb : Below W.heap.size W W') : Rd22 w fb s j W' v := by
  obtain ⟨O, N, n, l, h1, h2, h3, h4, h5, h6, h7, h8⟩ := h
  exact ⟨O, N, n, l, h1.below hb, h2.below hb, h3, h4, h5, h6, h7.trans (hb.mono h7.size), h8⟩
theorem FlI.nonan {w : World} {fb : Nat} {s : SL} {O : List Nat} {N n : Nat} {l : List Fl} (h : FlI w fb s O N n l) : ∀ x ∈ l, fnan x.e.t = false := fun x hx => by
  obtain ⟨M, _, hF, _⟩ := h.m
  exact (hF.ok x hx).2.1.1
theorem feq_least {l : List Fl} (h : ∀ x ∈ l, fnan x.e.t = false) (h1 : (leastF l).1 = true) : feq (leastF l).2 (leastF l).2 = true := by
  rcases l with _ | ⟨x, t⟩
  · cases h1
  · rw [leastF_cons x t h]
    have := (minT_facts t x.e.t (h x (by simp)) (fun y hy => h y (by simp [hy]))).1
    rw [feq_self, this]; rfl
set_option maxHeartbeats 8000000 in
theorem ldoes22_any {w : World} {p : Option Addr} {n c : Nat} {l : List A22} (hv : Vw 8 a22C w (.slice p n c) l) (hn : n = l.length) (hok : ∀ x ∈ l, x.e.ok) :
    Calls Tryz.prog 13 #[.slice p n c] w fun r w' => r = .returned (.bool true) ∧ Below w.heap.size w w' := by
  have HB := hid (begun22_any w)
  have HA := hid (fun W => awake22_any W)
  have HX := hid (⟨hv, hn, hok⟩ : _ ∧ _ ∧ _)
  clear hv hn hok
  go_enter Tryz.func13, Tryz.ntmps13
  go_wp2_with fail
  (with_reducible refine HB.out.mono ?_)
  rintro r W1 ⟨fb, s, O, rfl, hF, hb, ho⟩
  have H1 := hid (⟨hF, hb, ho⟩ : _ ∧ _ ∧ _)
  clear hF hb ho
  go_wp2_with fail
  (with_reducible refine (HA.out W1).mono ?_)
  rintro r W2 ⟨rfl, hb2⟩
  have HI0 : Hid (Rd22 w fb s 0 W2 (.slice none 0 0)) := hid ⟨O, 0, 0, [], H1.out.1.below hb2, Vw.nil _ _ _ _ _, (fun b hb => by cases hb), by omega, by omega, by simp, H1.out.2.1.trans (hb2.mono H1.out.2.1.size), H1.out.2.2⟩
  clear hb2
  go_wp2
  go_loopg [4, 5] 35 (fun gg s4 s5 wr => ∃ (j : Nat) (q : Option Addr) (m d : Nat), j ≤ 35 ∧ 35 - j ≤ gg ∧ s5 = .int .i64 j ∧ s4 = .slice q m d ∧ Hid (Rd22 w fb s j wr (.slice q m d)))
  case atStart => exact ⟨0, _, _, _, by omega, by omega, rfl, rfl, HI0⟩
  case round =>
    obtain ⟨j, q, m, d, hj, hgg, rfl, rfl, HI⟩ := hrel
    by_cases hjn : j < n
    · by_cases hje : j < 35
      · obtain ⟨O', N, nn, l', hF, hV, hvo, hN, hnn, hl', hb, ho⟩ := HI.out
        obtain ⟨hv, hn, hok⟩ := HX.out
        obtain ⟨x, hx⟩ : ∃ x, l[j]? = some x := ⟨_, List.getElem?_eq_getElem (by omega)⟩
        obtain ⟨b, off, c', e, hc, hbl, hcx⟩ := hv.ex (by rintro rfl; simp at hx)
        injection e with e1 e2 e3
        subst e1
        clear e2 e3
        have hcell : ∀ q u, (a22C x)[q]? = some u → wr.cell? ⟨b, off + j * 8 + q, none⟩ = some u := fun q u hu => (World.cell?_of_block (hb.block b hbl)).trans (hcx j x hx q u hu)
        have m0 : wr.cell? ⟨b, off + j * 8, none⟩ = some (.int .i64 x.k) := hcell 0 _ rfl
        have m1 := hcell 1 (.int .i64 x.i) rfl
        have m2 := hcell 2 (.float .f64 x.e.t) rfl
        have m3 := hcell 3 (.int .i64 x.e.src) rfl
        have m4 := hcell 4 (.int .i64 x.e.n) rfl
        have m5 := hcell 5 (.int .i64 x.e.dst) rfl
        have m6 := hcell 6 (.int .i64 x.e.pay) rfl
        have m7 := hcell 7 (.bool x.a) rfl
        have hxm := hok x (List.mem_of_getElem? hx)
        have HD := hid (do22_any hF hV hvo (by omega) (by omega) (by omega) x.k x.i x.e x.a hxm)
        unfold actC at HD
        have hji : (j : Int) < (n : Int) := by omega
        have hji2 : (j : Int) < 35 := by omega
        have HN := hid (⟨hN, hnn, hl', hb, ho⟩ : _ ∧ _ ∧ _ ∧ _ ∧ _)
        clear hF hV hvo hN hnn hl' hb ho hv hn hok hx hc hbl hcx hcell hxm
        go_wp2_with fail
        (with_reducible refine HD.out.mono ?_)
        rintro r W3 ⟨O3, v3, l3, N3, n3, rfl, hF3, hV3, hvo3, hk3, hg3, hN3, hn3, hl3⟩
        obtain ⟨q3, d3, rfl, hd3⟩ := hV3.slice
        have hnonan := hF3.nonan
        have HR3 : Hid (∀ W, Kp O3 W3 W → FlI W fb s O3 N3 n3 l3 → Rd22 w fb s (j + 1) W (.slice q3 l3.length d3)) := hid fun W hk hF => by
          obtain ⟨hN, hnn, hl', hb, ho⟩ := HN.out
          have hb3 : Below w.heap.size w W3 := hb.trans (hk3.to_below hb.size (fun x hx => ho x (by simp [hx])))
          have ho3 : ∀ b ∈ fb :: s.sb :: s.tb :: O3, w.heap.size ≤ b := fun b hm => by
            rcases List.mem_cons.1 hm with rfl | hm
            · exact ho b (by simp)
            rcases List.mem_cons.1 hm with rfl | hm
            · exact ho s.sb (by simp)
            rcases List.mem_cons.1 hm with rfl | hm
            · exact ho s.tb (by simp)
            rcases hg3 b hm with h | h
            · exact ho b (by simp [h])
            · exact Nat.le_trans hb.size h
          exact ⟨O3, N3, n3, l3, hF, hV3.kp hk hvo3, hvo3, by omega, by omega, by omega, hb3.trans (hk.to_below hb3.size (fun x hx => ho3 x (by simp [hx]))), ho3⟩
        have hl3' : l3.length ≤ 1000 := by have := HN.out.2.2.1; omega
        have HLI := hid (flist_any hF3 hl3')
        have HV3 := hid (⟨hV3, hvo3, hl3', hnonan⟩ : _ ∧ _ ∧ _ ∧ _)
        have HLT := hid hF3.lts
        obtain ⟨nl, hnl⟩ : ∃ nl, nl = l3.length := ⟨_, rfl⟩
        have HNL := hid hnl
        rw [← hnl] at HLI HR3 ⊢
        clear hF3 hV3 hvo3 hk3 hg3 hN3 hn3 hl3 hl3' hnonan hnl m0 m1 m2 m3 m4 m5 m6 m7 hd3
        go_wp2_with fail
        (with_reducible refine HLI.out.mono ?_)
        rintro r W4 ⟨v4, rfl, hF4, hk4, hO4⟩
        obtain ⟨p4, c4, rfl⟩ := own_slice2 hO4
        have HLE := hid (flen_any hF4 HV3.out.2.2.1)
        rw [← HNL.out] at HLE
        have hms4 : Vw 6 msgC W4 (.slice p4 nl c4) l3 := Vw.of_own msgC_len hO4 HNL.out
        have hno4 : ∀ b, (Value.slice p4 nl c4).ownBlock = some b → b ∉ O3 := fun b hb hm => by
          have h1 := (hO4.lt b hb).1
          have h2 := HLT.out b (by simp [hm])
          omega
        have H4 := hid (⟨hk4, hms4, hno4⟩ : _ ∧ _ ∧ _)
        clear hF4 hk4 hO4 hms4 hno4
        go_wp2_with fail
        (with_reducible refine HLE.out.mono ?_)
        rintro r W5 ⟨rfl, hF5, hk5⟩
        have HLS := hid (fleast_any hF5 HV3.out.2.2.1)
        have H5 := hid hk5
        clear hF5 hk5
        go_wp2_with fail
        (with_reducible refine HLS.out.mono ?_)
        rintro r W6 ⟨rfl, hF6, hk6⟩
        have hk36 := H4.out.1.trans (H5.out.trans hk6)
        have HR6 := hid (HR3.out W6 hk36 hF6)
        have hV6 : Vw 6 msgC W6 (.slice q3 nl d3) l3 := by rw [HNL.out]; exact HV3.out.1.kp hk36 HV3.out.2.1
        have HL6 := hid (least22_any hV6 HNL.out HV3.out.2.2.1 HV3.out.2.2.2)
        have HSM := hid (same22_any ((H4.out.2.1.kp (H5.out.trans hk6) H4.out.2.2).ms) hV6.ms HV3.out.2.2.1)
        have HQ := hid (feq_least HV3.out.2.2.2)
        obtain ⟨lt, hlt⟩ : ∃ lt, lt = leastF l3 := ⟨_, rfl⟩
        rw [← hlt] at HL6 HQ ⊢
        obtain ⟨is, u⟩ := lt
        dsimp only at HL6 HQ ⊢
        clear hk36 hF6 hk6 hV6 hlt
        go_wp2_with fail
        (with_reducible refine HL6.out.mono ?_)
        rintro r W7 ⟨rfl, rfl⟩
        cases is
        case' true => have hq : feq u u = true := HQ.out rfl
        all_goals
          go_wp2_with fail
          (with_reducible refine HSM.out.mono ?_)
          rintro r W8 ⟨rfl, hb8⟩
          have HR8 : Hid (Rd22 w fb s (j + 1) W8 (.slice q3 nl d3)) := hid (HR6.out.below hb8)
          clear hb8
          go_wp2
          go_roundg (35 - (j + 1))
          case measure => omega
          case rel => exact ⟨j + 1, _, _, _, by omega, by omega, by go_num, rfl, HR8⟩
      · have hji : (j : Int) < (n : Int) := by omega
        have hji2 : ¬ (j : Int) < 35 := by omega
        go_wp2
        go_ret
        obtain ⟨_, _, _, _, _, _, _, _, _, _, hb, _⟩ := HI.out
        exact ⟨rfl, hb⟩
    · have hji : ¬ (j : Int) < (n : Int) := by omega
      go_wp2
      go_ret
      obtain ⟨_, _, _, _, _, _, _, _, _, _, hb, _⟩ := HI.out
      exact ⟨rfl, hb⟩
end Go.Proofs.YtnnghcooidjlhaaGreat
end
section
set_option linter.unusedSimpArgs false
set_option linter.unusedVariables false
set_option maxRecDepth 100000
namespace Go.Proofs.YtnnghcooidjlhaaGreat
open Go.RowKit Go.Lib
def Fd22 (w : World) (fb : Nat) (s : SL) (j : Nat) (W : World) : Prop :=
  ∃ O N n l, FlI W fb s O N n l ∧ N ≤ 2 * j ∧ n ≤ j ∧ l.length ≤ j ∧ Below w.heap.size w W ∧ ∀ b ∈ fb :: s.sb :: s.tb :: O, w.heap.size ≤ b
theorem Fd22.below {w : World} {fb : Nat} {s : SL} {j : Nat} {W W' : World} (h : Fd22 w fb s j W) (hb : Below W.heap.size W W') : Fd22 w fb s j W' := by
  obtain ⟨O, N, n, l, h1, h2, h3, h4, h5, h6⟩ := h
  exact ⟨O, N, n, l, h1.below hb, h2, h3, h4, h5.trans (hb.mono h5.size), h6⟩
theorem Fd22.mono {w : World} {fb : Nat} {s : SL} {j : Nat} {W : World} (h : Fd22 w fb s j W) : Fd22 w fb s (j + 1) W := by
  obtain ⟨O, N, n, l, h1, h2, h3, h4, h5, h6⟩ := h
  exact ⟨O, N, n, l, h1, by omega, by omega, by omega, h5, h6⟩
theorem Fd22.send {w : World} {fb : Nat} {s : SL} {j : Nat} {W : World} (h : Fd22 w fb s j W) (hj : j < 20) {e : Ev} (hr : e.right) (ho : e.ok) (a : Bool) :
    Calls Tryz.prog 62 #[.pointer (some ⟨fb, 0, none⟩), msgV e a] W fun r w' => r = .returned (.int .i64 0) ∧ Fd22 w fb s (j + 1) w' := by
  obtain ⟨O, N, n, l, h1, h2, h3, h4, h5, h6⟩ := h
  refine (fsend_any h1 hr ho a (by omega) (by omega)).mono ?_
  rintro r w' ⟨O', rfl, hF, hk, hg⟩
  refine ⟨rfl, O', _, _, _, hF, by omega, by omega, by simp; omega, h5.trans (hk.to_below h5.size (fun x hx => h6 x (by simp [hx]))), fun b hm => ?_⟩
  rcases List.mem_cons.1 hm with rfl | hm
  · exact h6 b (by simp)
  rcases List.mem_cons.1 hm with rfl | hm
  · exact h6 s.sb (by simp)
  rcases List.mem_cons.1 hm with rfl | hm
  · exact h6 s.tb (by simp)
  rcases hg b hm with h | h
  · exact h6 b (by simp [h])
  · exact Nat.le_trans h5.size h
theorem least_all {l : List Fl} (h : ∀ x ∈ l, fnan x.e.t = false) : ∀ x ∈ l, flt x.e.t (leastF l).2 = false := by
  rcases l with _ | ⟨y, t⟩
  · simp
  · intro x hx
    rw [leastF_cons y t h]
    obtain ⟨a, b, c, d⟩ := minT_facts t y.e.t (h y (by simp)) (fun z hz => h z (by simp [hz]))
    rw [flt_key (h x hx) a, decide_eq_false_iff_not]
    rcases List.mem_cons.1 hx with rfl | hx
    · omega
    · have := c x hx; omega
theorem least_has {l : List Fl} (h : ∀ x ∈ l, fnan x.e.t = false) : (!(leastF l).1 || l.any fun x => feq x.e.t (leastF l).2) = true := by
  rcases l with _ | ⟨y, t⟩
  · rfl
  · rw [leastF_cons y t h]
    obtain ⟨a, b, c, d⟩ := minT_facts t y.e.t (h y (by simp)) (fun z hz => h z (by simp [hz]))
    simp only [Bool.not_true, Bool.false_or, List.any_eq_true]
    rcases d with d | ⟨z, hz, d⟩
    · refine ⟨y, by simp, ?_⟩
      rw [d, feq_self, h y (by simp)]; rfl
    · refine ⟨z, by simp [hz], ?_⟩
      rw [← d, feq_self, h z (by simp [hz])]; rfl
theorem least_is (l : List Fl) (h : ∀ x ∈ l, fnan x.e.t = false) : (leastF l).1 = decide (0 < l.length) := by
  rcases l with _ | ⟨y, t⟩
  · rfl
  · rw [leastF_cons y t h]; simp
set_option maxHeartbeats 8000000 in
theorem lleast22_any {w : World} {p : Option Addr} {n c : Nat} {l : List Fl} (hv : Vw 6 msgC w (.slice p n c) l) (hn : n = l.length) (hok : ∀ x ∈ l, x.e.ok) :
    Calls Tryz.prog 15 #[.slice p n c] w fun r w' => r = .returned (.bool true) ∧ Below w.heap.size w w' := by
  have HB := hid (begun22_any w)
  have HA := hid (fun W => awake22_any W)
  have HX := hid (⟨hv, hn, hok⟩ : _ ∧ _ ∧ _)
  clear hv hn hok
  go_enter Tryz.func15, Tryz.ntmps15
  go_wp2_with fail
  (with_reducible refine HB.out.mono ?_)
  rintro r W1 ⟨fb, s, O, rfl, hF, hb, ho⟩
  have H1 := hid (⟨hF, hb, ho⟩ : _ ∧ _ ∧ _)
  clear hF hb ho
  go_wp2_with fail
  (with_reducible refine (HA.out W1).mono ?_)
  rintro r W2 ⟨rfl, hb2⟩
  have HI0 : Hid (Fd22 w fb s 0 W2) := hid ⟨O, 0, 0, [], H1.out.1.below hb2, by omega, by omega, by simp, H1.out.2.1.trans (hb2.mono H1.out.2.1.size), H1.out.2.2⟩
  clear hb2
  go_wp2
  go_loopg [4] 20 (fun gg s4 wr => ∃ j : Nat, j ≤ 20 ∧ 20 - j ≤ gg ∧ s4 = .int .i64 j ∧ Hid (Fd22 w fb s j wr))
  case atStart => exact ⟨0, by omega, by omega, rfl, HI0⟩
  case round =>
    obtain ⟨j, hj, hgg, rfl, HI⟩ := hrel
    by_cases hjn : j < n ∧ j < 20
    · obtain ⟨hjn, hje⟩ := hjn
      obtain ⟨hv, hn, hok⟩ := HX.out
      obtain ⟨x, hx⟩ : ∃ x, l[j]? = some x := ⟨_, List.getElem?_eq_getElem (by omega)⟩
      obtain ⟨b, off, c', e, hc, hbl, hcx⟩ := hv.ex (by rintro rfl; simp at hx)
      injection e with e1 e2 e3
      subst e1
      clear e2 e3
      have hbw : Below w.heap.size w wr := by obtain ⟨_, _, _, _, _, _, _, _, h, _⟩ := HI.out; exact h
      have hcell : ∀ q u, (msgC x)[q]? = some u → wr.cell? ⟨b, off + j * 6 + q, none⟩ = some u := fun q u hu => (World.cell?_of_block (hbw.block b hbl)).trans (hcx j x hx q u hu)
      have m0 : wr.cell? ⟨b, off + j * 6, none⟩ = some (.float .f64 x.e.t) := hcell 0 _ rfl
      have m1 := hcell 1 (.int .i64 x.e.src) rfl
      have m2 := hcell 2 (.int .i64 x.e.n) rfl
      have m3 := hcell 3 (.int .i64 x.e.dst) rfl
      have m4 := hcell 4 (.int .i64 x.e.pay) rfl
      have m5 := hcell 5 (.bool x.a) rfl
      have hxo := hok x (List.mem_of_getElem? hx)
      have HM := hid (msg22_any x.e x.a wr)
      have HS : Hid (∀ W, Below wr.heap.size wr W → ∃ ge : Int, Calls Tryz.prog 62 #[.pointer (some ⟨fb, 0, none⟩), msgV x.e x.a] W fun r w' => r = .returned (.int .i64 ge) ∧ Fd22 w fb s (j + 1) w') := hid fun W hW => by
        by_cases hr : x.e.right
        · exact ⟨_, (HI.out.below hW).send hje hr hxo x.a⟩
        · refine ⟨2, (fsend_no ⟨fb, 0, none⟩ x.e x.a hr W).mono ?_⟩
          rintro r w' ⟨rfl, hb⟩
          exact ⟨rfl, ((HI.out.below hW).below hb).mono⟩
      unfold msgV at HM HS
      have hji : (j : Int) < (n : Int) := by omega
      have hji2 : (j : Int) < 20 := by omega
      clear hv hn hok hx hc hbl hcx hbw hcell hxo hjn
      go_wp2_with fail
      (with_reducible refine HM.out.mono ?_)
      rintro r W3 ⟨rfl, hb3⟩
      obtain ⟨ge, hge⟩ := HS.out W3 hb3
      have HG := hid hge
      clear hb3 hge
      go_wp2_with fail
      (with_reducible refine HG.out.mono ?_)
      rintro r W4 ⟨rfl, hF4⟩
      have HI4 := hid hF4
      clear hF4
      go_wp2
      go_roundg (20 - (j + 1))
      case measure => omega
      case rel => exact ⟨j + 1, by omega, by omega, by go_num, HI4⟩
    · have hcond : ¬ (j : Int) < (n : Int) ∨ ((j : Int) < (n : Int) ∧ ¬ (j : Int) < 20) := by omega
      obtain ⟨O3, N3, n3, l3, hF3, hN3, hn3, hl3, hb3, ho3⟩ := HI.out
      have hnonan := hF3.nonan
      have hl3' : l3.length ≤ 1000 := by omega
      have HLE := hid (fleast_any hF3 hl3')
      have HQ := hid (⟨least_all hnonan, least_has hnonan, least_is l3 hnonan⟩ : _ ∧ _ ∧ _)
      obtain ⟨lt, hlt⟩ : ∃ lt, lt = leastF l3 := ⟨_, rfl⟩
      rw [← hlt] at HLE HQ
      obtain ⟨is, u⟩ := lt
      dsimp only at HLE HQ
      obtain ⟨nl, hnl⟩ : ∃ nl, nl = l3.length := ⟨_, rfl⟩
      have hnli : (nl : Int) ≤ 20 := by omega
      rw [← hnl] at HQ
      have H3 := hid (⟨hb3, ho3, hl3', hnl⟩ : _ ∧ _ ∧ _ ∧ _)
      clear hF3 hN3 hn3 hl3 hb3 ho3 hnonan hl3' hlt hjn hnl
      rcases hcond with hc1 | ⟨hc1, hc2⟩
      all_goals
        go_wp2_with fail
        (with_reducible refine HLE.out.mono ?_)
        rintro r W4 ⟨rfl, hF4, hk4⟩
        have HLI := hid (flist_any hF4 H3.out.2.2.1)
        have H4 := hid (H3.out.1.trans (hk4.to_below H3.out.1.size (fun x hx => H3.out.2.1 x (by simp [hx]))))
        rw [← H3.out.2.2.2] at HLI
        clear hF4 hk4
        go_wp2_with fail
        (with_reducible refine HLI.out.mono ?_)
        rintro r W5 ⟨v5, rfl, hF5, hk5, hO5⟩
        obtain ⟨p5, c5, rfl⟩ := own_slice2 hO5
        have HF := hid (⟨H4.out.trans (hk5.to_below H4.out.size (fun x hx => H3.out.2.1 x (by simp [hx]))), hO5⟩ : _ ∧ _)
        clear hF5 hk5 hO5
        have his : is = decide (0 < nl) := HQ.out.2.2
        obtain ⟨is', his'⟩ : ∃ b, b = is := ⟨_, rfl⟩
        have HIS := hid his'
        cases is
        case' true => have h0 : 0 < nl := of_decide_eq_true his.symm
        case' false => have h0 : nl = 0 := by have := of_decide_eq_false his.symm; omega
        all_goals
          clear his his'
          go_wp2
          go_loopg [10, 11] nl (fun gg s10 s11 wr => ∃ j : Nat, j ≤ nl ∧ nl - j ≤ gg ∧ s11 = .int .i64 j ∧ s10 = .bool (!is' || (l3.take j).any fun x => feq x.e.t u) ∧ W5 = wr)
          case atStart => exact ⟨0, by omega, by omega, rfl, by rw [HIS.out]; rfl, rfl⟩
          case round =>
            obtain ⟨q, hq, hgg2, rfl, rfl, rfl⟩ := hrel
            by_cases hqn : q < nl
            · obtain ⟨x, hx⟩ : ∃ x, l3[q]? = some x := ⟨_, List.getElem?_eq_getElem (by rw [← H3.out.2.2.2]; exact hqn)⟩
              obtain ⟨g, c6, e, hg1, hg2, hg3⟩ := own_form HF.out.2 (by omega)
              injection e with e1 e2 e3
              subst e1
              clear e2 e3
              have m0 : W5.cell? ⟨g, q * 6, none⟩ = some (.float .f64 x.e.t) := own_at HF.out.2 rfl (j := q * 6) (by
                have := rowV_get msgC_len l3 q x hx 0 (by omega)
                rw [Nat.add_zero] at this
                rw [this]; rfl)
              have hlt : flt x.e.t u = false := HQ.out.1 x (List.mem_of_getElem? hx)
              have hst : (!is' || (l3.take (q + 1)).any fun x => feq x.e.t u) = ((!is' || (l3.take q).any fun x => feq x.e.t u) || feq x.e.t u) := by
                rw [List.take_add_one, hx, Option.toList_some, List.any_append, Bool.or_assoc]; simp
              have HST := hid hst
              have hqi : (q : Int) < (nl : Int) := by omega
              obtain ⟨f, hf⟩ : ∃ f, f = (!is' || (l3.take q).any fun x => feq x.e.t u) := ⟨_, rfl⟩
              rw [← hf] at HST ⊢
              clear hx hg1 hg2 hg3 hst hf
              obtain ⟨fe, hfe⟩ : ∃ fe, fe = feq x.e.t u := ⟨_, rfl⟩
              have HFE := hid hfe
              have hfe' : feq x.e.t u = fe := hfe.symm
              clear hfe
              cases f
              all_goals
                cases fe
                all_goals
                  go_wp2
                  all_goals
                    go_roundg (nl - (q + 1))
                    case measure => omega
                    case rel => exact ⟨q + 1, by omega, by omega, by go_num, by rw [HST.out, ← HFE.out]; rfl, rfl⟩
            · have hqi : ¬ (q : Int) < (nl : Int) := by omega
              have hqe : q = nl := by omega
              have e : (!is' || (l3.take q).any fun x => feq x.e.t u) = true := by
                rw [hqe, H3.out.2.2.2, List.take_length, HIS.out]
                exact HQ.out.2.1
              rw [e]
              clear e hqe
              go_wp2
              go_ret
              exact ⟨rfl, HF.out.1⟩
end Go.Proofs.YtnnghcooidjlhaaGreat
end
section
set_option linter.unusedSimpArgs false
set_option linter.unusedVariables false
set_option maxRecDepth 100000
namespace Go.Proofs.YtnnghcooidjlhaaGreat
open Go.RowKit Go.Lib
def u8C (z : Int) : List Value := [.int .u8 z]
theorem Rd22.mono {w : World} {fb : Nat} {s : SL} {j : Nat} {W : World} {v : Value} (h : Rd22 w fb s j W v) : Rd22 w fb s (j + 1) W v := by
  obtain ⟨O, N, n, l, h1, h2, h3, h4, h5, h6, h7, h8⟩ := h
  exact ⟨O, N, n, l, h1, h2, h3, by omega, by omega, by omega, h7, h8⟩
theorem Rd22.send {w : World} {fb : Nat} {s : SL} {j : Nat} {W : World} {q : Option Addr} {m d : Nat} (h : Rd22 w fb s j W (.slice q m d)) (hj : j < 20) {e : Ev} (hr : e.right) (ho : e.ok) (a : Bool) :
    Calls Tryz.prog 62 #[.pointer (some ⟨fb, 0, none⟩), msgV e a] W fun r w' => r = .returned (.int .i64 0) ∧ Below w.heap.size w w' ∧
      Calls Tryz.prog 64 #[.slice q m d, msgV e a] w' fun r w3 => ∃ p' n' c', r = .returned (.tuple #[.slice p' n' c', .bool true]) ∧ Rd22 w fb s (j + 1) w3 (.slice p' n' c') := by
  obtain ⟨O, N, n, l, h1, hV, hvo, h2, h3, h4, h5, h6⟩ := h
  refine (fsend_any h1 hr ho a (by omega) (by omega)).mono ?_
  rintro r w' ⟨O', rfl, hF, hk, hg⟩
  have hbw : Below w.heap.size w w' := h5.trans (hk.to_below h5.size (fun x hx => h6 x (by simp [hx])))
  refine ⟨rfl, hbw, ?_⟩
  obtain ⟨p, c, e, hc⟩ := hV.slice
  injection e with e1 e2 e3
  have hV2 := hV.kp hk hvo
  refine (put22_any hV2 (by omega) e2 e a hr ho n).mono ?_
  rintro r w3 ⟨v', rfl, hO, hb3⟩
  obtain ⟨p', c', rfl⟩ := own_slice2 hO
  have hF3 := hF.below hb3
  refine ⟨p', _, c', rfl, O', _, _, _, hF3, Vw.of_own msgC_len hO (by simp), fun b hb hm => ?_, by omega, by omega, by simp; omega, hbw.trans (hb3.mono hbw.size), fun b hm => ?_⟩
  · have g1 := (hO.lt b hb).1
    have g2 := hF.lts b (by simp [hm])
    omega
  · rcases List.mem_cons.1 hm with rfl | hm
    · exact h6 b (by simp)
    rcases List.mem_cons.1 hm with rfl | hm
    · exact h6 s.sb (by simp)
    rcases List.mem_cons.1 hm with rfl | hm
    · exact h6 s.tb (by simp)
    rcases hg b hm with h | h
    · exact h6 b (by simp [h])
    · exact Nat.le_trans h5.size h
def TkD (m : Nat) (x : Fl) (W : World) : Prop := W.cell? ⟨m, 0, none⟩ = some (.float .f64 x.e.t) ∧ W.cell? ⟨m, 1, none⟩ = some (.int .i64 x.e.src) ∧ W.cell? ⟨m, 2, none⟩ = some (.int .i64 x.e.n) ∧ W.cell? ⟨m, 3, none⟩ = some (.int .i64 x.e.dst) ∧ W.cell? ⟨m, 4, none⟩ = some (.int .i64 x.e.pay) ∧ W.cell? ⟨m, 5, none⟩ = some (.bool x.a)
def Lp22 (w : World) (fb : Nat) (s : SL) (W : World) (v : Value) : Prop :=
  ∃ O N n l, FlI W fb s O N n l ∧ Vw 6 msgC W v l ∧ (∀ b, v.ownBlock = some b → b ∉ O) ∧ l.length ≤ 20 ∧ Below w.heap.size w W ∧ ∀ b ∈ fb :: s.sb :: s.tb :: O, w.heap.size ≤ b
theorem Lp22.le {w : World} {fb : Nat} {s : SL} {W : World} {q : Option Addr} {m d : Nat} (h : Lp22 w fb s W (.slice q m d)) : m ≤ 20 := by
  obtain ⟨O, N, n, l, h1, h2, h3, h4, h5, h6⟩ := h
  obtain ⟨p, c, e, _⟩ := h2.slice
  injection e with _ e _
  omega
theorem once_step {w : World} {fb : Nat} {s : SL} {wr : World} {q : Option Addr} {m d : Nat} (h : Lp22 w fb s wr (.slice q m d)) (K : Nat) (hK : K < m) :
    ∃ (b off : Nat) (x : Fl), q = some ⟨b, off, none⟩ ∧ m ≤ d ∧ Calls Tryz.prog 65 #[.pointer (some ⟨fb, 0, none⟩), .int .i64 K] wr fun r W3 => r = .returned (.tuple #[msgV x.e x.a, .int .i64 0]) ∧
      (∀ W g, Below W3.heap.size W3 W → Blk W g 99 #[.float .f64 x.e.t, .int .i64 x.e.src, .int .i64 x.e.n, .int .i64 x.e.dst, .int .i64 x.e.pay, .bool x.a] → Calls Tryz.prog 61 #[.slice (some ⟨g, 0, none⟩) 1 1, .slice (some ⟨b, off + K * 6, none⟩) 1 (d - K)] W fun r w' => r = .returned (.bool true) ∧ Below W.heap.size W w') ∧
      (∀ W, Below W3.heap.size W3 W → Calls Tryz.prog 66 #[.slice (some ⟨b, off, none⟩) m d, .int .i64 K] W fun r w' => ∃ q' d', r = .returned (.slice q' (m - 1) d') ∧ Lp22 w fb s w' (.slice q' (m - 1) d')) := by
  obtain ⟨O, N, n, l, hF, hV, hvo, hl, hb, ho⟩ := h
  have hml : m = l.length := by obtain ⟨_, _, e, _⟩ := hV.slice; injection e
  obtain ⟨b, off, c', e, hc, hbl, hcx⟩ := hV.ex (by rintro rfl; simp at hml; omega)
  injection e with e1 e2 e3
  subst e1 e3
  clear e2
  obtain ⟨x, hx⟩ : ∃ x, l[K]? = some x := ⟨_, List.getElem?_eq_getElem (by omega)⟩
  refine ⟨b, off, x, rfl, by omega, (ftake_any hF (by omega) hx).mono ?_⟩
  rintro r W3 ⟨rfl, hF3, hk3⟩
  have hv3 : Vw 6 msgC W3 (.slice (some ⟨b, off, none⟩) m d) l := hV.kp hk3 hvo
  have hb3 : Below w.heap.size w W3 := hb.trans (hk3.to_below hb.size (fun x hx => ho x (by simp [hx])))
  refine ⟨rfl, fun W g hW hB => ?_, fun W hW => ?_⟩
  · have hvW := hv3.below hW
    refine same22_any (l := [x]) (Ms.one hB) (Vw.ms ⟨_, d - K, rfl, by simp; omega, .inr ⟨b, off + K * 6, rfl, ?_, fun j y hj q u hu => ?_⟩⟩) (by simp)
    · have h1 := hk3.size
      have h2 := hW.size
      omega
    · rcases j with _ | j
      · simp at hj
        subst hj
        obtain ⟨b', off', c', e', _, _, hcell⟩ := hvW.ex (by rintro rfl; simp at hx)
        injection e' with e1 _ e3
        injection e1 with e1
        injection e1 with e1 e2 _
        subst e1 e2
        rw [Nat.zero_mul, Nat.add_zero]
        exact hcell K x hx q u hu
      · simp at hj
  · refine (take22_any (hv3.below hW) hml (by omega) (by omega)).mono ?_
    rintro r w' ⟨v', rfl, hO, hbw⟩
    rw [← hml] at hO
    obtain ⟨p5, c5, rfl⟩ := own_slice2 hO
    refine ⟨p5, c5, rfl, O, N, n, l.eraseIdx K, (hF3.below hW).below hbw, Vw.of_own msgC_len hO (by rw [List.length_eraseIdx, if_pos (by omega), hml]), fun b5 hb5 hm => ?_, by rw [List.length_eraseIdx]; split <;> omega, hb3.trans ((hW.trans (hbw.mono hW.size)).mono hb3.size), ho⟩
    have h1 := (hO.lt b5 hb5).1
    have h2 := hF3.lts b5 (by simp [hm])
    have h3 := hW.size
    omega
set_option maxHeartbeats 8000000 in
theorem lonce22_any {w : World} {p : Option Addr} {n c : Nat} {l : List Fl} (hv : Vw 6 msgC w (.slice p n c) l) (hn : n = l.length) (hok : ∀ x ∈ l, x.e.ok) {tp : Option Addr} {tn tc : Nat} {t : List Int} (ht : Vw 1 u8C w (.slice tp tn tc) t) (htn : tn = t.length) (hto : ∀ x ∈ t, 0 ≤ x ∧ x < 256) :
    Calls Tryz.prog 14 #[.slice p n c, .slice tp tn tc] w fun r w' => r = .returned (.bool true) ∧ Below w.heap.size w w' := by
  have HB := hid (begun22_any w)
  have HA := hid (fun W => awake22_any W)
  have HX := hid (⟨hv, hn, hok⟩ : _ ∧ _ ∧ _)
  have HY := hid (⟨ht, htn, hto⟩ : _ ∧ _ ∧ _)
  clear hv hn hok ht htn hto
  go_enter Tryz.func14, Tryz.ntmps14
  go_wp2_with fail
  (with_reducible refine HB.out.mono ?_)
  rintro r W1 ⟨fb, s, O, rfl, hF, hb, ho⟩
  have H1 := hid (⟨hF, hb, ho⟩ : _ ∧ _ ∧ _)
  clear hF hb ho
  go_wp2_with fail
  (with_reducible refine (HA.out W1).mono ?_)
  rintro r W2 ⟨rfl, hb2⟩
  have HI0 : Hid (Rd22 w fb s 0 W2 (.slice none 0 0)) := hid ⟨O, 0, 0, [], H1.out.1.below hb2, Vw.nil _ _ _ _ _, (fun b hb => by cases hb), by omega, by omega, by simp, H1.out.2.1.trans (hb2.mono H1.out.2.1.size), H1.out.2.2⟩
  clear hb2
  go_wp2
  go_loopg [6, 7] 20 (fun gg s6 s7 wr => ∃ (j : Nat) (q : Option Addr) (m d : Nat), j ≤ 20 ∧ 20 - j ≤ gg ∧ s7 = .int .i64 j ∧ s6 = .slice q m d ∧ Hid (Rd22 w fb s j wr (.slice q m d)))
  case atStart => exact ⟨0, _, _, _, by omega, by omega, rfl, rfl, HI0⟩
  case round =>
    obtain ⟨j, q, m, d, hj, hgg, rfl, rfl, HI⟩ := hrel
    by_cases hjn : j < n ∧ j < 20
    · obtain ⟨hjn, hje⟩ := hjn
      obtain ⟨hv, hn, hok⟩ := HX.out
      obtain ⟨x, hx⟩ : ∃ x, l[j]? = some x := ⟨_, List.getElem?_eq_getElem (by omega)⟩
      obtain ⟨b, off, c', e, hc, hbl, hcx⟩ := hv.ex (by rintro rfl; simp at hx)
      injection e with e1 e2 e3
      subst e1
      clear e2 e3
      have hbw : Below w.heap.size w wr := by obtain ⟨_, _, _, _, _, _, _, _, _, _, h, _⟩ := HI.out; exact h
      have HCX : Hid (∀ W, Below w.heap.size w W → ∀ q u, (msgC x)[q]? = some u → W.cell? ⟨b, off + j * 6 + q, none⟩ = some u) := hid fun W hW q u hu => (World.cell?_of_block (hW.block b hbl)).trans (hcx j x hx q u hu)
      have m0 : wr.cell? ⟨b, off + j * 6, none⟩ = some (.float .f64 x.e.t) := HCX.out _ hbw 0 _ rfl
      have m1 := HCX.out _ hbw 1 (.int .i64 x.e.src) rfl
      have m2 := HCX.out _ hbw 2 (.int .i64 x.e.n) rfl
      have m3 := HCX.out _ hbw 3 (.int .i64 x.e.dst) rfl
      have m4 := HCX.out _ hbw 4 (.int .i64 x.e.pay) rfl
      have m5 := HCX.out _ hbw 5 (.bool x.a) rfl
      have hxo := hok x (List.mem_of_getElem? hx)
      have HM := hid (msg22_any x.e x.a wr)
      unfold msgV at HM
      have hji : (j : Int) < (n : Int) := by omega
      have hji2 : (j : Int) < 20 := by omega
      clear hv hn hok hx hc hbl hcx hbw hjn
      by_cases hr : x.e.right
      · have HS := hid (fun W (hW : Below wr.heap.size wr W) => (HI.out.below hW).send hje hr hxo x.a)
        unfold msgV at HS
        go_wp2_with fail
        (with_reducible refine HM.out.mono ?_)
        rintro r W3 ⟨rfl, hb3⟩
        have HS3 := hid (HS.out W3 hb3)
        clear hb3 hr hxo
        go_wp2_with fail
        (with_reducible refine HS3.out.mono ?_)
        rintro r W4 ⟨rfl, hbw4, hP4⟩
        have n0 : W4.cell? ⟨b, off + j * 6, none⟩ = some (.float .f64 x.e.t) := HCX.out _ hbw4 0 _ rfl
        have n1 := HCX.out _ hbw4 1 (.int .i64 x.e.src) rfl
        have n2 := HCX.out _ hbw4 2 (.int .i64 x.e.n) rfl
        have n3 := HCX.out _ hbw4 3 (.int .i64 x.e.dst) rfl
        have n4 := HCX.out _ hbw4 4 (.int .i64 x.e.pay) rfl
        have n5 := HCX.out _ hbw4 5 (.bool x.a) rfl
        have HP4 := hid hP4
        unfold msgV at HP4
        clear hP4 hbw4 m0 m1 m2 m3 m4 m5
        go_wp2_with fail
        (with_reducible refine HP4.out.mono ?_)
        rintro r W5 ⟨p5, nn5, c5, rfl, hR5⟩
        have HR5 := hid hR5
        clear hR5 n0 n1 n2 n3 n4 n5
        go_wp2
        go_roundg (20 - (j + 1))
        case measure => omega
        case rel => exact ⟨j + 1, _, _, _, by omega, by omega, by go_num, rfl, HR5⟩
      · have HS := hid (fun W => fsend_no ⟨fb, 0, none⟩ x.e x.a hr W)
        unfold msgV at HS
        go_wp2_with fail
        (with_reducible refine HM.out.mono ?_)
        rintro r W3 ⟨rfl, hb3⟩
        have HR3 := hid (HI.out.below hb3)
        clear hb3 hr hxo
        go_wp2_with fail
        (with_reducible refine (HS.out W3).mono ?_)
        rintro r W4 ⟨rfl, hb4⟩
        have HR4 := hid ((HR3.out.below hb4).mono)
        clear hb4
        go_wp2
        go_roundg (20 - (j + 1))
        case measure => omega
        case rel => exact ⟨j + 1, _, _, _, by omega, by omega, by go_num, rfl, HR4⟩
    · have hcond : ¬ (j : Int) < (n : Int) ∨ ((j : Int) < (n : Int) ∧ ¬ (j : Int) < 20) := by omega
      have HI2 : Hid (Lp22 w fb s wr (.slice q m d)) := hid (by
        obtain ⟨O, N, n, l, h1, h2, h3, _, _, h4, h5, h6⟩ := HI.out
        exact ⟨O, N, n, l, h1, h2, h3, by omega, h5, h6⟩)
      have hm20 : m ≤ 20 := HI2.out.le
      clear hj hgg hjn
      rcases hcond with hc1 | ⟨hc1, hc2⟩
      all_goals
        go_wp2
        go_loopg [6, 8] 20 (fun gg s6 s8 wr => ∃ (i : Nat) (q : Option Addr) (m d : Nat), i + m ≤ 20 ∧ m ≤ gg ∧ s8 = .int .i64 i ∧ s6 = .slice q m d ∧ Hid (Lp22 w fb s wr (.slice q m d)))
        case atStart => exact ⟨0, _, _, _, by omega, by omega, rfl, rfl, HI2⟩
        case round =>
          obtain ⟨i, q, m, d, him, hgg, rfl, rfl, HI⟩ := hrel
          by_cases hm : 0 < m
          · obtain ⟨ht, htn, hto⟩ := HY.out
            have hbw : Below w.heap.size w wr := by obtain ⟨_, _, _, _, _, _, _, _, h, _⟩ := HI.out; exact h
            have hmn : ¬ (m : Int) = 0 := by omega
            have hmi : (0 : Int) < (m : Int) := by omega
            have hm20' := HI.out.le
            by_cases hin : i < tn
            · obtain ⟨z, hz⟩ : ∃ z, t[i]? = some z := ⟨_, List.getElem?_eq_getElem (by omega)⟩
              obtain ⟨tb, toff, tc', e, _, htb, htx⟩ := ht.ex (by rintro rfl; simp at hz)
              injection e with e1 e2 e3
              subst e1
              clear e2 e3
              have hz2 := hto z (List.mem_of_getElem? hz)
              obtain ⟨zn, rfl⟩ : ∃ zn : Nat, z = (zn : Int) := ⟨z.toNat, by omega⟩
              have h0 := htx i _ hz 0 _ rfl
              rw [Nat.mul_one, Nat.add_zero] at h0
              have hz1 := (World.cell?_of_block (hbw.block tb htb)).trans h0
              have hz3 : IntKind.i64.wrap (zn : Int) = (zn : Int) := by rw [IntKind.wrap_i64]; omega
              obtain ⟨K, hK, hKe⟩ : ∃ K, K < m ∧ Int.tmod (zn : Int) (m : Int) = (K : Int) := ⟨zn % m, Nat.mod_lt _ hm, by rw [Int.ofNat_tmod]⟩
              obtain ⟨b, off, x, rfl, hmd, hT⟩ := once_step HI.out K hK
              unfold msgV at hT
              have HT := hid hT
              have hti : (i : Int) < (tn : Int) := by omega
              have hki : (K : Int) < (m : Int) := by omega
              have hwr : IntKind.i64.wrap ((K : Int) + 1) = (K : Int) + 1 := by rw [IntKind.wrap_i64]; omega
              have hb3 : ((K : Int) + 1).toNat = K + 1 := by omega
              have hci : ¬ d = K := by omega
              have hic : K + 1 ≤ d := by omega
              have hg1 : (0 : Int) ≤ (K : Int) + 1 := by omega
              have hg2 : (K : Int) ≤ (K : Int) + 1 := by omega
              have hg3 : (K : Int) + 1 ≤ (d : Int) := by omega
              have hg4 : (0 : Int) ≤ (K : Int) := by omega
              clear ht htn hto hbw hz htb htx h0 hz2 hT
              go_wp2_with fail
              (with_reducible refine HT.out.mono ?_)
              rintro r W3 ⟨rfl, hsm, htk⟩
              obtain ⟨W4, hW4⟩ : ∃ W4, W4 = W3.alloc (.cells #[.float .f64 x.e.t, .int .i64 x.e.src, .int .i64 x.e.n, .int .i64 x.e.dst, .int .i64 x.e.pay, .bool x.a] 99) := ⟨_, rfl⟩
              have hb4 : Below W3.heap.size W3 W4 := by rw [hW4]; exact (Below.refl _ W3).alloc (Nat.le_refl _) _
              have hM4 : Blk W4 W3.heap.size 99 #[.float .f64 x.e.t, .int .i64 x.e.src, .int .i64 x.e.n, .int .i64 x.e.dst, .int .i64 x.e.pay, .bool x.a] := by rw [hW4]; exact Blk.new W3 _ _
              have HSM : Hid (∀ W g, BelC W4 W → Blk W g 99 #[.float .f64 x.e.t, .int .i64 x.e.src, .int .i64 x.e.n, .int .i64 x.e.dst, .int .i64 x.e.pay, .bool x.a] → Calls Tryz.prog 61 #[.slice (some ⟨g, 0, none⟩) 1 1, .slice (some ⟨b, off + K * 6, none⟩) 1 (d - K)] W fun r w' => r = .returned (.bool true) ∧ Below W.heap.size W w') := hid fun W g hW hB => by
                have := hsm W g (hb4.trans (hW.out.mono hb4.size)) hB
                exact this
              have HTK : Hid (∀ W, BelC W4 W → Calls Tryz.prog 66 #[.slice (some ⟨b, off, none⟩) m d, .int .i64 K] W fun r w' => ∃ q' d', r = .returned (.slice q' (m - 1) d') ∧ Lp22 w fb s w' (.slice q' (m - 1) d')) := hid fun W hW => htk W (hb4.trans (hW.out.mono hb4.size))
              have HCL : Hid (∀ W, BelC W4 W → TkD W3.heap.size x W) := hid fun W hW => by
                have h2 := hW.blk hM4
                exact ⟨h2.cell 0, h2.cell 1, h2.cell 2, h2.cell 3, h2.cell 4, h2.cell 5⟩
              have HC0 : Hid (BelC W4 W4.drew) := hid (BelC.drew W4)
              have HW4 := hid hW4
              clear hb4 hM4 hW4 hsm htk
              go_wp2
              rw [← HW4.out]
              unfold TkD at HCL
              go_region_held3 (fun W => W.cell? ⟨W3.heap.size, 0, none⟩ = some (.float .f64 x.e.t) ∧ W.cell? ⟨W3.heap.size, 1, none⟩ = some (.int .i64 x.e.src) ∧ W.cell? ⟨W3.heap.size, 2, none⟩ = some (.int .i64 x.e.n) ∧ W.cell? ⟨W3.heap.size, 3, none⟩ = some (.int .i64 x.e.dst) ∧ W.cell? ⟨W3.heap.size, 4, none⟩ = some (.int .i64 x.e.pay) ∧ W.cell? ⟨W3.heap.size, 5, none⟩ = some (.bool x.a))
                (first | exact HCL.out _ hc6 | exact HCL.out _ (HC0.out.alloc _) | exact HCL.out _ HC0.out)
                (first
                  | (go_at_call 61; refine (HSM.out _ _ (HC0.out.alloc _) (Blk.new _ _ _)).mono ?_; rintro r W6 ⟨rfl, hb6⟩; have hc6 : BelC W4 W6 := (HC0.out.alloc _).trans (BelC.of hb6)))
              all_goals
                have HTK6 := hid (HTK.out W6 hc6)
                clear hc6 hb6
                go_wp2_with fail
                (with_reducible refine HTK6.out.mono ?_)
                rintro r W7 ⟨q7, d7, rfl, hL7⟩
                have HL7 := hid hL7
                clear hL7
                go_wp2
                go_roundg (m - 1)
                case measure => omega
                case rel => exact ⟨i + 1, q7, m - 1, d7, by omega, by omega, by go_num, rfl, HL7⟩
            · obtain ⟨b, off, x, rfl, hmd, hT⟩ := once_step HI.out 0 hm
              unfold msgV at hT
              rw [show ((0 : Nat) : Int) = 0 from rfl] at hT
              have HT := hid hT
              have hti : ¬ (i : Int) < (tn : Int) := by omega
              have hci : ¬ d = 0 := by omega
              have hic : 1 ≤ d := by omega
              have hg3 : (1 : Int) ≤ (d : Int) := by omega
              have hwr : IntKind.i64.wrap 1 = 1 := by decide
              clear ht htn hto hbw hT
              go_wp2_with fail
              (with_reducible refine HT.out.mono ?_)
              rintro r W3 ⟨rfl, hsm, htk⟩
              obtain ⟨W4, hW4⟩ : ∃ W4, W4 = W3.alloc (.cells #[.float .f64 x.e.t, .int .i64 x.e.src, .int .i64 x.e.n, .int .i64 x.e.dst, .int .i64 x.e.pay, .bool x.a] 99) := ⟨_, rfl⟩
              have hb4 : Below W3.heap.size W3 W4 := by rw [hW4]; exact (Below.refl _ W3).alloc (Nat.le_refl _) _
              have hM4 : Blk W4 W3.heap.size 99 #[.float .f64 x.e.t, .int .i64 x.e.src, .int .i64 x.e.n, .int .i64 x.e.dst, .int .i64 x.e.pay, .bool x.a] := by rw [hW4]; exact Blk.new W3 _ _
              have HSM : Hid (∀ W g, BelC W4 W → Blk W g 99 #[.float .f64 x.e.t, .int .i64 x.e.src, .int .i64 x.e.n, .int .i64 x.e.dst, .int .i64 x.e.pay, .bool x.a] → Calls Tryz.prog 61 #[.slice (some ⟨g, 0, none⟩) 1 1, .slice (some ⟨b, off, none⟩) 1 d] W fun r w' => r = .returned (.bool true) ∧ Below W.heap.size W w') := hid fun W g hW hB => by
                have := hsm W g (hb4.trans (hW.out.mono hb4.size)) hB
                rwa [Nat.zero_mul, Nat.add_zero, Nat.sub_zero] at this
              have HTK : Hid (∀ W, BelC W4 W → Calls Tryz.prog 66 #[.slice (some ⟨b, off, none⟩) m d, .int .i64 0] W fun r w' => ∃ q' d', r = .returned (.slice q' (m - 1) d') ∧ Lp22 w fb s w' (.slice q' (m - 1) d')) := hid fun W hW => htk W (hb4.trans (hW.out.mono hb4.size))
              have HCL : Hid (∀ W, BelC W4 W → TkD W3.heap.size x W) := hid fun W hW => by
                have h2 := hW.blk hM4
                exact ⟨h2.cell 0, h2.cell 1, h2.cell 2, h2.cell 3, h2.cell 4, h2.cell 5⟩
              have HC0 : Hid (BelC W4 W4.drew) := hid (BelC.drew W4)
              have HW4 := hid hW4
              clear hb4 hM4 hW4 hsm htk
              go_wp2
              rw [← HW4.out]
              unfold TkD at HCL
              go_region_held3 (fun W => W.cell? ⟨W3.heap.size, 0, none⟩ = some (.float .f64 x.e.t) ∧ W.cell? ⟨W3.heap.size, 1, none⟩ = some (.int .i64 x.e.src) ∧ W.cell? ⟨W3.heap.size, 2, none⟩ = some (.int .i64 x.e.n) ∧ W.cell? ⟨W3.heap.size, 3, none⟩ = some (.int .i64 x.e.dst) ∧ W.cell? ⟨W3.heap.size, 4, none⟩ = some (.int .i64 x.e.pay) ∧ W.cell? ⟨W3.heap.size, 5, none⟩ = some (.bool x.a))
                (first | exact HCL.out _ hc6 | exact HCL.out _ (HC0.out.alloc _) | exact HCL.out _ HC0.out)
                (first
                  | (go_at_call 61; refine (HSM.out _ _ (HC0.out.alloc _) (Blk.new _ _ _)).mono ?_; rintro r W6 ⟨rfl, hb6⟩; have hc6 : BelC W4 W6 := (HC0.out.alloc _).trans (BelC.of hb6)))
              all_goals
                have HTK6 := hid (HTK.out W6 hc6)
                clear hc6 hb6
                go_wp2_with fail
                (with_reducible refine HTK6.out.mono ?_)
                rintro r W7 ⟨q7, d7, rfl, hL7⟩
                have HL7 := hid hL7
                clear hL7
                go_wp2
                go_roundg (m - 1)
                case measure => omega
                case rel => exact ⟨i + 1, q7, m - 1, d7, by omega, by omega, by go_num, rfl, HL7⟩
          · have hm0 : m = 0 := by omega
            have hmi : ¬ (0 : Int) < (m : Int) := by omega
            subst hm0
            obtain ⟨O, N, nn, l', hF, hV, hvo, hl', hb, ho⟩ := HI.out
            have hml : 0 = l'.length := by obtain ⟨_, _, e, _⟩ := hV.slice; injection e
            have HL := hid (flen_any hF (by omega))
            rw [← hml] at HL
            have HZ := hid (⟨hb, ho⟩ : _ ∧ _)
            clear hF hV hvo hl' hb ho hml
            go_wp2_with fail
            (with_reducible refine HL.out.mono ?_)
            rintro r W3 ⟨rfl, hF3, hk3⟩
            have HF := hid (HZ.out.1.trans (hk3.to_below HZ.out.1.size (fun x hx => HZ.out.2 x (by simp [hx]))))
            clear hF3 hk3
            go_wp2
            go_ret
            exact ⟨rfl, HF.out⟩
end Go.Proofs.YtnnghcooidjlhaaGreat
end
section
set_option linter.unusedSimpArgs false
set_option maxRecDepth 100000
namespace Go.Proofs.YtnnghcooidjlhaaGreat
open Go.ChangeShapes Go.WideShapes Go.ChangeAt Go.RowKit Go.Deep
section
variable {H : Type} {enc : TypeId × Value → H} {w : World} {spare : Nat → Bool} {held : Bool} {fuel : Nat} {v : Value} {x : DataW H × List MemPlace}
theorem open_acts22 (h : DataW.trod enc Tryz.prog w 0 spare held fuel 109 [v] = some x) :
    ∃ (p : Option Addr) (n c : Nat) (l : List A22), v = .slice p n c ∧ n = l.length ∧ Vw 8 a22C w (.slice p n c) l ∧ ∀ y ∈ l, y.e.ok :=
  open_rows (R := fun y : A22 => y.e.ok) ⟨0, 0, ⟨0, 0, 0, 0, 0⟩, false⟩ Tryz.underlying109 cellsAct22 (by decide) a22C_len (fun _ _ _ h => by
    obtain ⟨k, i, e, a, he, ho, _⟩ := open_act22 h
    exact ⟨⟨k, i, e, a⟩, he.trans (by simp [a22C, actC, evC]), ho⟩) h
theorem open_msgs22 (h : DataW.trod enc Tryz.prog w 0 spare held fuel 112 [v] = some x) :
    ∃ (p : Option Addr) (n c : Nat) (l : List Fl), v = .slice p n c ∧ n = l.length ∧ Vw 6 msgC w (.slice p n c) l ∧ ∀ y ∈ l, y.e.ok :=
  open_rows (R := fun y : Fl => y.e.ok) ⟨0, ⟨0, 0, 0, 0, 0⟩, false⟩ Tryz.underlying112 cellsMsg22 (by decide) msgC_len (fun _ _ _ h => by
    obtain ⟨e, a, he, ho⟩ := open_msg22 h
    exact ⟨⟨0, e, a⟩, he.trans (by simp [msgC, evC]), ho⟩) h
theorem cellsU8 : Tryz.prog.cellsOf 5 = 1 := by kernel_rfl
theorem open_u8s (h : DataW.trod enc Tryz.prog w 0 spare held fuel 129 [v] = some x) :
    ∃ (p : Option Addr) (n c : Nat) (l : List Int), v = .slice p n c ∧ n = l.length ∧ Vw 1 u8C w (.slice p n c) l ∧ ∀ y ∈ l, 0 ≤ y ∧ y < 256 :=
  open_rows (R := fun y : Int => 0 ≤ y ∧ y < 256) 0 Tryz.underlying129 cellsU8 (by decide) (fun _ => rfl) (fun fuel cs x h => by
    cases fuel with
    | zero => cases h
    | succ n =>
      have hl : cs.length = 1 := by
        have := h
        match cs, this with
        | [c], _ => rfl
        | [], h => simp [DataW.trod, Tryz.underlying5] at h
        | _ :: _ :: _, h => simp [DataW.trod, Tryz.underlying5] at h
      match cs, hl with
      | [c], _ =>
        obtain ⟨z, rfl, hz⟩ := leaf_int Tryz.underlying5 h
        refine ⟨z, rfl, ?_⟩
        have := hz
        simp [Lit.wf, IntKind.has, IntKind.min, IntKind.max, IntKind.signed, IntKind.bits] at this
        omega) h
end
end Go.Proofs.YtnnghcooidjlhaaGreat
end
