/- Parts of the proof: Yu Yv Yw Yx Oz. -/
import Derived.Test.YtnnghcooidjlhaaGreatB26
import Derived.Test.YtnnghcooidjlhaaGreatB27
set_option linter.all false
section
set_option linter.unusedSimpArgs false
set_option linter.unusedVariables false
set_option maxRecDepth 100000
namespace Go.Proofs.YtnnghcooidjlhaaGreat
open Go.RowKit Go.Lib
section
variable {R : List KV → Prop} {w : World} {xb : Nat} {s : SL} {lp : Int} {O : List Nat} {N : Nat} {l : List Sn} {ls : List Sv} {v : Value}
set_option maxHeartbeats 8000000 in
theorem do25_from_long (h : SnI R w xb s lp O N l) (hr : RfI w O v ls l) (x : Sv) (hx : 29 < x.x.k.length) :
    Calls Tryz.prog 25 #[.pointer (some ⟨xb, 0, none⟩), v, actV 4 x] w fun r w' => DoP R w xb s lp O N ls x r w' := by
  obtain ⟨p, c, rfl, hc⟩ := hr.hv.slice
  unfold actV
  obtain ⟨W1, hW1⟩ : ∃ W1, W1 = w.alloc (.cells #[.int .i64 4, .string (S x.x.k), .slice x.p x.x.st.words.length x.c, .int .i64 x.x.st.sent, .int .i64 x.x.st.dice] 31) := ⟨_, rfl⟩
  have HT := hid (sfrom_long ⟨xb, 0, none⟩ x.x.k hx W1)
  have HX := hid (⟨h, hr, act_box h 4 x hW1⟩ : _ ∧ _ ∧ _)
  rw [hW1] at HT
  have HW1 := hid hW1
  have hlong : (29 : Int) < (x.x.k.length : Int) := by omega
  obtain ⟨nl, hnl⟩ : ∃ nl, nl = ls.length := ⟨_, rfl⟩
  have HNL := hid hnl
  rw [← hnl]
  clear h hr hW1 hx hc hnl
  go_enter Tryz.func25, Tryz.ntmps25
  go_wp2_with fail
  (with_reducible refine HT.out.mono ?_)
  rintro r W2 ⟨rfl, hw2⟩
  rw [← HW1.out] at hw2
  subst hw2
  go_wp2
  go_ret2
  obtain ⟨h, hr, hb1, _⟩ := HX.out
  rw [HNL.out]
  exact DoP.same h hr x (h.below hb1) (Kp.of_below hb1)
set_option maxHeartbeats 8000000 in
theorem do25_from_any (h : SnI R w xb s lp O N l) (hr : RfI w O v ls l) (x : Sv) (hx : x.x.k.length ≤ 29) (hl : ls.length ≤ 100) :
    Calls Tryz.prog 25 #[.pointer (some ⟨xb, 0, none⟩), v, actV 4 x] w fun r w' => DoP R w xb s lp O N ls x r w' := by
  obtain ⟨p, c, rfl, hc⟩ := hr.hv.slice
  unfold actV
  obtain ⟨W1, hW1⟩ : ∃ W1, W1 = w.alloc (.cells #[.int .i64 4, .string (S x.x.k), .slice x.p x.x.st.words.length x.c, .int .i64 x.x.st.sent, .int .i64 x.x.st.dice] 31) := ⟨_, rfl⟩
  have hbx := act_box h 4 x hW1
  have HT := hid (sn_from (h.below hbx.1) hx)
  have HX := hid (⟨h, hr, hbx⟩ : _ ∧ _ ∧ _)
  obtain ⟨nl, hnl⟩ : ∃ nl, nl = ls.length := ⟨_, rfl⟩
  have HNL := hid hnl
  have HP := hid (fun W (hW : Vw 4 svC W (.slice p nl c) ls) => part25_any hW hnl (by omega) x.x.k)
  have hcnt : (fromV x.x.k ls).length = (fromS l x.x.k).length := by rw [← hr.m, ← fromV_map, List.length_map]
  rw [← hcnt, hW1] at HT
  have HW1 := hid hW1
  have hlong : ¬ (29 : Int) < (x.x.k.length : Int) := by omega
  rw [← hnl]
  clear h hr hW1 hx hc hnl hl hbx hcnt
  go_enter Tryz.func25, Tryz.ntmps25
  go_wp2_with fail
  (with_reducible refine HT.out.mono ?_)
  rintro r W2 ⟨rfl, hI2, hk2⟩
  rw [← HW1.out] at hk2
  have H2 := hid (⟨hI2, hk2⟩ : _ ∧ _)
  obtain ⟨a0, a1, a2, a3, a4⟩ := HX.out.2.2.2 W2 hk2
  have hk02 : Kp O w W2 := (Kp.of_below HX.out.2.2.1).trans hk2
  have hV2 : Vw 4 svC W2 (.slice p nl c) ls := by
    have := HX.out.2.1.hv.kp1 hk02 HX.out.2.1.o
    rwa [← HNL.out] at this
  have HP2 := hid (HP.out W2 hV2)
  have HK2 := hid hk02
  clear hI2 hk2 hk02 hV2
  go_wp2_with fail
  (with_reducible refine HP2.out.mono ?_)
  rintro r W3 ⟨v1, v2, rfl, hT⟩
  have HTW := hid hT
  obtain ⟨p1, c1, rfl⟩ := own_slice2 hT.2.1
  obtain ⟨p2, c2, rfl⟩ := own_slice2 hT.2.2.1
  obtain ⟨m, hm⟩ : ∃ m, m = (fromV x.x.k ls).length := ⟨_, rfl⟩
  have HMM := hid hm
  rw [← hm] at ⊢
  obtain ⟨m', hm'⟩ : ∃ m', m' = (belowV x.x.k ls).length := ⟨_, rfl⟩
  have HMM' := hid hm'
  rw [← hm'] at ⊢
  clear hT a0 a1 a2 a3 a4 hm hm'
  go_wp2
  go_ret2
  obtain ⟨h, hr, hbx, _⟩ := HX.out
  obtain ⟨hI2, hk2⟩ := H2.out
  obtain ⟨hb3, hO1, hO2, _, _⟩ := HTW.out
  rw [HMM'.out]
  refine ⟨O, _, _, belowV x.x.k ls, N, rfl, hI2.below hb3, Vw.of_own svC_len hO1 rfl, by rw [belowV_map, hr.m], fun b hb hm => ?_, HK2.out.trans (Kp.of_below hb3), Gr.refl _ _, by omega, Nat.le_trans (belowV_len _ _) (by omega), fun y hy => .inr (List.mem_filter.1 hy).1⟩
  have h1 := (hO1.lt b hb).1
  have h2 := hI2.lts b (by simp [hm])
  omega
set_option maxHeartbeats 8000000 in
theorem do25_below_long (h : SnI R w xb s lp O N l) (hr : RfI w O v ls l) (x : Sv) (hx : 29 < x.x.k.length) :
    Calls Tryz.prog 25 #[.pointer (some ⟨xb, 0, none⟩), v, actV 5 x] w fun r w' => DoP R w xb s lp O N ls x r w' := by
  obtain ⟨p, c, rfl, hc⟩ := hr.hv.slice
  unfold actV
  obtain ⟨W1, hW1⟩ : ∃ W1, W1 = w.alloc (.cells #[.int .i64 5, .string (S x.x.k), .slice x.p x.x.st.words.length x.c, .int .i64 x.x.st.sent, .int .i64 x.x.st.dice] 31) := ⟨_, rfl⟩
  have HT := hid (sbelow_long ⟨xb, 0, none⟩ x.x.k hx W1)
  have HX := hid (⟨h, hr, act_box h 5 x hW1⟩ : _ ∧ _ ∧ _)
  rw [hW1] at HT
  have HW1 := hid hW1
  have hlong : (29 : Int) < (x.x.k.length : Int) := by omega
  obtain ⟨nl, hnl⟩ : ∃ nl, nl = ls.length := ⟨_, rfl⟩
  have HNL := hid hnl
  rw [← hnl]
  clear h hr hW1 hx hc hnl
  go_enter Tryz.func25, Tryz.ntmps25
  go_wp2_with fail
  (with_reducible refine HT.out.mono ?_)
  rintro r W2 ⟨rfl, hw2⟩
  rw [← HW1.out] at hw2
  subst hw2
  go_wp2
  go_ret2
  obtain ⟨h, hr, hb1, _⟩ := HX.out
  rw [HNL.out]
  exact DoP.same h hr x (h.below hb1) (Kp.of_below hb1)
set_option maxHeartbeats 8000000 in
theorem do25_below_any (h : SnI R w xb s lp O N l) (hr : RfI w O v ls l) (x : Sv) (hx : x.x.k.length ≤ 29) (hl : ls.length ≤ 100) :
    Calls Tryz.prog 25 #[.pointer (some ⟨xb, 0, none⟩), v, actV 5 x] w fun r w' => DoP R w xb s lp O N ls x r w' := by
  obtain ⟨p, c, rfl, hc⟩ := hr.hv.slice
  unfold actV
  obtain ⟨W1, hW1⟩ : ∃ W1, W1 = w.alloc (.cells #[.int .i64 5, .string (S x.x.k), .slice x.p x.x.st.words.length x.c, .int .i64 x.x.st.sent, .int .i64 x.x.st.dice] 31) := ⟨_, rfl⟩
  have hbx := act_box h 5 x hW1
  have HT := hid (sn_below (h.below hbx.1) hx)
  have HX := hid (⟨h, hr, hbx⟩ : _ ∧ _ ∧ _)
  obtain ⟨nl, hnl⟩ : ∃ nl, nl = ls.length := ⟨_, rfl⟩
  have HNL := hid hnl
  have HP := hid (fun W (hW : Vw 4 svC W (.slice p nl c) ls) => part25_any hW hnl (by omega) x.x.k)
  have hcnt : (belowV x.x.k ls).length = (belowS l x.x.k).length := by rw [← hr.m, ← belowV_map, List.length_map]
  rw [← hcnt, hW1] at HT
  have HW1 := hid hW1
  have hlong : ¬ (29 : Int) < (x.x.k.length : Int) := by omega
  rw [← hnl]
  clear h hr hW1 hx hc hnl hl hbx hcnt
  go_enter Tryz.func25, Tryz.ntmps25
  go_wp2_with fail
  (with_reducible refine HT.out.mono ?_)
  rintro r W2 ⟨rfl, hI2, hk2⟩
  rw [← HW1.out] at hk2
  have H2 := hid (⟨hI2, hk2⟩ : _ ∧ _)
  obtain ⟨a0, a1, a2, a3, a4⟩ := HX.out.2.2.2 W2 hk2
  have hk02 : Kp O w W2 := (Kp.of_below HX.out.2.2.1).trans hk2
  have hV2 : Vw 4 svC W2 (.slice p nl c) ls := by
    have := HX.out.2.1.hv.kp1 hk02 HX.out.2.1.o
    rwa [← HNL.out] at this
  have HP2 := hid (HP.out W2 hV2)
  have HK2 := hid hk02
  clear hI2 hk2 hk02 hV2
  go_wp2_with fail
  (with_reducible refine HP2.out.mono ?_)
  rintro r W3 ⟨v1, v2, rfl, hT⟩
  have HTW := hid hT
  obtain ⟨p1, c1, rfl⟩ := own_slice2 hT.2.1
  obtain ⟨p2, c2, rfl⟩ := own_slice2 hT.2.2.1
  obtain ⟨m, hm⟩ : ∃ m, m = (belowV x.x.k ls).length := ⟨_, rfl⟩
  have HMM := hid hm
  rw [← hm] at ⊢
  obtain ⟨m', hm'⟩ : ∃ m', m' = (fromV x.x.k ls).length := ⟨_, rfl⟩
  have HMM' := hid hm'
  rw [← hm'] at ⊢
  clear hT a0 a1 a2 a3 a4 hm hm'
  go_wp2
  go_ret2
  obtain ⟨h, hr, hbx, _⟩ := HX.out
  obtain ⟨hI2, hk2⟩ := H2.out
  obtain ⟨hb3, hO1, hO2, _, _⟩ := HTW.out
  rw [HMM'.out]
  refine ⟨O, _, _, fromV x.x.k ls, N, rfl, hI2.below hb3, Vw.of_own svC_len hO2 rfl, by rw [fromV_map, hr.m], fun b hb hm => ?_, HK2.out.trans (Kp.of_below hb3), Gr.refl _ _, by omega, Nat.le_trans (fromV_len _ _) (by omega), fun y hy => .inr (List.mem_filter.1 hy).1⟩
  have h1 := (hO2.lt b hb).1
  have h2 := hI2.lts b (by simp [hm])
  omega
end
end Go.Proofs.YtnnghcooidjlhaaGreat
end
section
set_option linter.unusedSimpArgs false
set_option linter.unusedVariables false
set_option maxRecDepth 100000
namespace Go.Proofs.YtnnghcooidjlhaaGreat
open Go.RowKit Go.Lib
theorem aheadV_none {k : Bs} {l : List Sv} (h : belowV k l = []) : aheadV k l = (sv0, false) := by
  unfold aheadV
  rw [h]
  rfl
theorem aheadV_some {k : Bs} {l : List Sv} {y : Sv} (h : (belowV k l).getLast? = some y) : aheadV k l = (y, true) := by
  unfold aheadV
  rw [h]
section
variable {R : List KV → Prop} {w : World} {xb : Nat} {s : SL} {lp : Int} {O : List Nat} {N : Nat} {l : List Sn} {ls : List Sv} {v : Value}
set_option maxHeartbeats 8000000 in
theorem do25_along (h : SnI R w xb s lp O N l) (hr : RfI w O v ls l) (kd : Int) (hk : ¬ kd = 0 ∧ ¬ kd = 1 ∧ ¬ kd = 2 ∧ ¬ kd = 4 ∧ ¬ kd = 5) (x : Sv) (hx : 29 < x.x.k.length) (hl : ls.length ≤ 100) :
    Calls Tryz.prog 25 #[.pointer (some ⟨xb, 0, none⟩), v, actV kd x] w fun r w' => DoP R w xb s lp O N ls x r w' := by
  obtain ⟨p, c, rfl, hc⟩ := hr.hv.slice
  unfold actV
  obtain ⟨W1, hW1⟩ : ∃ W1, W1 = w.alloc (.cells #[.int .i64 kd, .string (S x.x.k), .slice x.p x.x.st.words.length x.c, .int .i64 x.x.st.sent, .int .i64 x.x.st.dice] 31) := ⟨_, rfl⟩
  have hbx := act_box h kd x hW1
  have HT : Hid (Calls Tryz.prog 23 #[.pointer (some ⟨xb, 0, none⟩), .string (S x.x.k)] W1 fun r w' => r = .returned (.tuple #[.string ⟨#[]⟩, sta0, .int .i64 2]) ∧ SnI R w' xb s lp O N l ∧ Kp O W1 w') := hid ((sahead_no (some ⟨xb, 0, none⟩) x.x.k 2 (.inr (.inl ⟨by simp, hx, rfl⟩)) W1).mono fun r w' ⟨e, hb⟩ => ⟨e, (h.below hbx.1).below hb, Kp.of_below hb⟩)
  have hlong : (29 : Int) < (x.x.k.length : Int) := by omega
  have HX := hid (⟨h, hr, hbx⟩ : _ ∧ _ ∧ _)
  obtain ⟨nl, hnl⟩ : ∃ nl, nl = ls.length := ⟨_, rfl⟩
  have HNL := hid hnl
  have HP := hid (fun W (hW : Vw 4 svC W (.slice p nl c) ls) => ahead25_any hW hnl (by omega) x.x.k)
  unfold sta0 at HT
  rw [hW1] at HT
  have HW1 := hid hW1
  obtain ⟨h0, h1, h2, h4, h5⟩ := hk
  rw [← hnl]
  clear h hr hW1 hx hc hnl hl hbx
  go_enter Tryz.func25, Tryz.ntmps25
  go_wp2_with fail
  (with_reducible refine HT.out.mono ?_)
  rintro r W2 ⟨rfl, hI2, hk2⟩
  rw [← HW1.out] at hk2
  obtain ⟨W3, hW3⟩ : ∃ W3, W3 = W2.alloc (.cells #[.slice none 0 0, .int .i64 0, .int .i64 0] 29) := ⟨_, rfl⟩
  have hb3 : Below W2.heap.size W2 W3 := by rw [hW3]; exact (Below.refl _ W2).alloc (Nat.le_refl _) _
  have hB3 : Blk W3 W2.heap.size 29 #[.slice none 0 0, .int .i64 0, .int .i64 0] := by rw [hW3]; exact Blk.new W2 _ _
  have hk13 := hk2.trans (Kp.of_below (O := O) hb3)
  have H2 := hid (⟨hI2.below hb3, hk13, hB3⟩ : _ ∧ _ ∧ _)
  obtain ⟨a0, a1, a2, a3, a4⟩ := HX.out.2.2.2 W3 hk13
  have hk03 : Kp O w W3 := (Kp.of_below HX.out.2.2.1).trans hk13
  have hV3 : Vw 4 svC W3 (.slice p nl c) ls := by
    have := HX.out.2.1.hv.kp1 hk03 HX.out.2.1.o
    rwa [← HNL.out] at this
  have HP3 := hid (HP.out W3 hV3)
  have HK3 := hid hk03
  rw [hW3] at a0 a1 a2 a3 a4 HP3
  have HW3 := hid hW3
  clear hI2 hk2 hk03 hV3 hk13 hb3 hB3 hW3
  go_wp2_with fail
  (with_reducible refine HP3.out.mono ?_)
  rintro r W4 ⟨rfl, hb4⟩
  rw [← HW3.out] at hb4
  obtain ⟨z, hz⟩ : ∃ z, z = aheadV x.x.k ls := ⟨_, rfl⟩
  have HZ := hid hz
  rw [← hz] at ⊢
  clear hz
  obtain ⟨y, is⟩ := z
  dsimp only at HZ ⊢
  unfold svC
  obtain ⟨W5, hW5⟩ : ∃ W5, W5 = W4.alloc (.cells #[.string (S y.x.k), .slice y.p y.x.st.words.length y.c, .int .i64 y.x.st.sent, .int .i64 y.x.st.dice] 44) := ⟨_, rfl⟩
  have hb5 : Below W4.heap.size W4 W5 := by rw [hW5]; exact (Below.refl _ W4).alloc (Nat.le_refl _) _
  have hb35 : Below W3.heap.size W3 W5 := hb4.trans (hb5.mono hb4.size)
  have hB5 := H2.out.2.2.below hb35 H2.out.2.2.lt
  have b0 : W5.cell? ⟨W2.heap.size, 0, none⟩ = some (.slice none 0 0) := hB5.cell 0
  have b1 : W5.cell? ⟨W2.heap.size, 1, none⟩ = some (.int .i64 0) := hB5.cell 1
  have b2 : W5.cell? ⟨W2.heap.size, 2, none⟩ = some (.int .i64 0) := hB5.cell 2
  have hv := Vw.nil (α := Int) 1 wC W5 none 0
  have HS := hid (same08_any (st := ⟨[], 0, 0⟩) hv hv rfl (by omega))
  unfold staV at HS
  have H5 := hid hb35
  rw [hW5] at b0 b1 b2 HS
  have HW5 := hid hW5
  clear hv hB5 hb35 hb5 hb4 a0 a1 a2 a3 a4 hW5
  go_wp2_with fail
  (with_reducible refine HS.out.mono ?_)
  rintro r W6 ⟨rfl, hb6⟩
  rw [← HW5.out] at hb6
  have H6 := hid (H5.out.trans (hb6.mono H5.out.size))
  clear hb6 b0 b1 b2
  go_wp2
  go_ret2
  obtain ⟨h, hr, _, _⟩ := HX.out
  rw [HNL.out]
  exact DoP.same h hr x (H2.out.1.below H6.out) (HK3.out.trans (Kp.of_below H6.out))
set_option maxHeartbeats 8000000 in
theorem do25_anone (h : SnI R w xb s lp O N l) (hr : RfI w O v ls l) (kd : Int) (hk : ¬ kd = 0 ∧ ¬ kd = 1 ∧ ¬ kd = 2 ∧ ¬ kd = 4 ∧ ¬ kd = 5) (x : Sv) (hx : x.x.k.length ≤ 29) (hn : belowS l x.x.k = []) (hl : ls.length ≤ 100) :
    Calls Tryz.prog 25 #[.pointer (some ⟨xb, 0, none⟩), v, actV kd x] w fun r w' => DoP R w xb s lp O N ls x r w' := by
  obtain ⟨p, c, rfl, hc⟩ := hr.hv.slice
  unfold actV
  obtain ⟨W1, hW1⟩ : ∃ W1, W1 = w.alloc (.cells #[.int .i64 kd, .string (S x.x.k), .slice x.p x.x.st.words.length x.c, .int .i64 x.x.st.sent, .int .i64 x.x.st.dice] 31) := ⟨_, rfl⟩
  have hbx := act_box h kd x hW1
  have HT := hid (sn_ahead_none (h.below hbx.1) hx hn)
  have hbe : belowV x.x.k ls = [] := by
    have := belowV_map x.x.k ls
    rw [hr.m, hn] at this
    exact List.map_eq_nil_iff.1 this
  have HAV := hid (aheadV_none hbe)
  have hlong : ¬ (29 : Int) < (x.x.k.length : Int) := by omega
  clear hn hbe
  have HX := hid (⟨h, hr, hbx⟩ : _ ∧ _ ∧ _)
  obtain ⟨nl, hnl⟩ : ∃ nl, nl = ls.length := ⟨_, rfl⟩
  have HNL := hid hnl
  have HP := hid (fun W (hW : Vw 4 svC W (.slice p nl c) ls) => ahead25_any hW hnl (by omega) x.x.k)
  unfold sta0 at HT
  rw [hW1] at HT
  have HW1 := hid hW1
  obtain ⟨h0, h1, h2, h4, h5⟩ := hk
  rw [← hnl]
  clear h hr hW1 hx hc hnl hl hbx
  go_enter Tryz.func25, Tryz.ntmps25
  go_wp2_with fail
  (with_reducible refine HT.out.mono ?_)
  rintro r W2 ⟨rfl, hI2, hk2⟩
  rw [← HW1.out] at hk2
  obtain ⟨W3, hW3⟩ : ∃ W3, W3 = W2.alloc (.cells #[.slice none 0 0, .int .i64 0, .int .i64 0] 29) := ⟨_, rfl⟩
  have hb3 : Below W2.heap.size W2 W3 := by rw [hW3]; exact (Below.refl _ W2).alloc (Nat.le_refl _) _
  have hB3 : Blk W3 W2.heap.size 29 #[.slice none 0 0, .int .i64 0, .int .i64 0] := by rw [hW3]; exact Blk.new W2 _ _
  have hk13 := hk2.trans (Kp.of_below (O := O) hb3)
  have H2 := hid (⟨hI2.below hb3, hk13, hB3⟩ : _ ∧ _ ∧ _)
  obtain ⟨a0, a1, a2, a3, a4⟩ := HX.out.2.2.2 W3 hk13
  have hk03 : Kp O w W3 := (Kp.of_below HX.out.2.2.1).trans hk13
  have hV3 : Vw 4 svC W3 (.slice p nl c) ls := by
    have := HX.out.2.1.hv.kp1 hk03 HX.out.2.1.o
    rwa [← HNL.out] at this
  have HP3 := hid (HP.out W3 hV3)
  have HK3 := hid hk03
  rw [hW3] at a0 a1 a2 a3 a4 HP3
  have HW3 := hid hW3
  clear hI2 hk2 hk03 hV3 hk13 hb3 hB3 hW3
  go_wp2_with fail
  (with_reducible refine HP3.out.mono ?_)
  rintro r W4 ⟨rfl, hb4⟩
  rw [← HW3.out] at hb4
  obtain ⟨z, hz⟩ : ∃ z, z = aheadV x.x.k ls := ⟨_, rfl⟩
  have HZ := hid hz
  rw [← hz] at ⊢
  clear hz
  obtain ⟨y, is⟩ := z
  dsimp only at HZ ⊢
  unfold svC
  obtain ⟨W5, hW5⟩ : ∃ W5, W5 = W4.alloc (.cells #[.string (S y.x.k), .slice y.p y.x.st.words.length y.c, .int .i64 y.x.st.sent, .int .i64 y.x.st.dice] 44) := ⟨_, rfl⟩
  have hb5 : Below W4.heap.size W4 W5 := by rw [hW5]; exact (Below.refl _ W4).alloc (Nat.le_refl _) _
  have hb35 : Below W3.heap.size W3 W5 := hb4.trans (hb5.mono hb4.size)
  have hB5 := H2.out.2.2.below hb35 H2.out.2.2.lt
  have b0 : W5.cell? ⟨W2.heap.size, 0, none⟩ = some (.slice none 0 0) := hB5.cell 0
  have b1 : W5.cell? ⟨W2.heap.size, 1, none⟩ = some (.int .i64 0) := hB5.cell 1
  have b2 : W5.cell? ⟨W2.heap.size, 2, none⟩ = some (.int .i64 0) := hB5.cell 2
  have hv := Vw.nil (α := Int) 1 wC W5 none 0
  have HS := hid (same08_any (st := ⟨[], 0, 0⟩) hv hv rfl (by omega))
  unfold staV at HS
  have H5 := hid hb35
  rw [hW5] at b0 b1 b2 HS
  have HW5 := hid hW5
  clear hv hB5 hb35 hb5 hb4 a0 a1 a2 a3 a4 hW5
  have his : is = false := by
    have := HZ.out
    rw [HAV.out] at this
    injection this
  subst his
  go_wp2_with fail
  (with_reducible refine HS.out.mono ?_)
  rintro r W6 ⟨rfl, hb6⟩
  rw [← HW5.out] at hb6
  have H6 := hid (H5.out.trans (hb6.mono H5.out.size))
  clear hb6 b0 b1 b2
  go_wp2
  go_ret2
  obtain ⟨h, hr, _, _⟩ := HX.out
  rw [HNL.out]
  exact DoP.same h hr x (H2.out.1.below H6.out) (HK3.out.trans (Kp.of_below H6.out))
end
end Go.Proofs.YtnnghcooidjlhaaGreat
end
section
set_option linter.unusedSimpArgs false
set_option linter.unusedVariables false
set_option maxRecDepth 100000
namespace Go.Proofs.YtnnghcooidjlhaaGreat
open Go.RowKit Go.Lib
section
variable {R : List KV → Prop} {w : World} {xb : Nat} {s : SL} {lp : Int} {O : List Nat} {N : Nat} {l : List Sn} {ls : List Sv} {v : Value}
theorem SnI.ok (h : SnI R w xb s lp O N l) : ∀ x ∈ l, x.k.length ≤ 29 ∧ x.st.right ∧ x.st.ok := by
  obtain ⟨M, h1, h2, h3⟩ := h.m
  exact h2.ok
set_option maxHeartbeats 8000000 in
theorem do25_asome (h : SnI R w xb s lp O N l) (hr : RfI w O v ls l) (kd : Int) (hk : ¬ kd = 0 ∧ ¬ kd = 1 ∧ ¬ kd = 2 ∧ ¬ kd = 4 ∧ ¬ kd = 5) (x : Sv) (hx : x.x.k.length ≤ 29) (hn : belowS l x.x.k ≠ []) (hl : ls.length ≤ 100) :
    Calls Tryz.prog 25 #[.pointer (some ⟨xb, 0, none⟩), v, actV kd x] w fun r w' => DoP R w xb s lp O N ls x r w' := by
  obtain ⟨p, c, rfl, hc⟩ := hr.hv.slice
  unfold actV
  obtain ⟨W1, hW1⟩ : ∃ W1, W1 = w.alloc (.cells #[.int .i64 kd, .string (S x.x.k), .slice x.p x.x.st.words.length x.c, .int .i64 x.x.st.sent, .int .i64 x.x.st.dice] 31) := ⟨_, rfl⟩
  have hbx := act_box h kd x hW1
  have hk0 : x.x.k ≠ [] := fun e => hn (List.filter_eq_nil_iff.2 (fun y _ => by simp [e]))
  have hne : belowV x.x.k ls ≠ [] := fun e => hn (by rw [← hr.m, ← belowV_map, e]; rfl)
  obtain ⟨y, hy⟩ : ∃ y, (belowV x.x.k ls).getLast? = some y := ⟨_, List.getLast?_eq_some_getLast hne⟩
  have hyl : y ∈ ls := (List.mem_filter.1 (List.mem_of_getLast? hy)).1
  have hys : (belowS l x.x.k).getLast? = some y.x := by rw [← hr.m, ← belowV_map, List.getLast?_map, hy]; rfl
  have HT := hid (sn_ahead_some (h.below hbx.1) hx hk0 hys)
  have HAV := hid (aheadV_some hy)
  have hw8 : y.x.st.words.length ≤ 8 := (h.ok y.x (by rw [← hr.m]; exact List.mem_map_of_mem hyl)).2.1.1
  have HY := hid (⟨hyl, hw8⟩ : _ ∧ _)
  have hlong : ¬ (29 : Int) < (x.x.k.length : Int) := by omega
  have HX := hid (⟨h, hr, hbx⟩ : _ ∧ _ ∧ _)
  obtain ⟨nl, hnl⟩ : ∃ nl, nl = ls.length := ⟨_, rfl⟩
  have HNL := hid hnl
  have HP := hid (fun W (hW : Vw 4 svC W (.slice p nl c) ls) => ahead25_any hW hnl (by omega) x.x.k)
  rw [hW1] at HT
  have HW1 := hid hW1
  obtain ⟨h0, h1, h2, h4, h5⟩ := hk
  rw [← hnl]
  clear h hr hW1 hx hc hnl hl hbx hk0 hne hy hyl hys hn hw8
  go_enter Tryz.func25, Tryz.ntmps25
  go_wp2_with fail
  (with_reducible refine HT.out.mono ?_)
  rintro r W2 ⟨p2, n2, c2, rfl, hn2, hv2, _, hI2, hk2⟩
  rw [← HW1.out] at hk2
  unfold staV
  obtain ⟨W3, hW3⟩ : ∃ W3, W3 = W2.alloc (.cells #[.slice p2 n2 c2, .int .i64 y.x.st.sent, .int .i64 y.x.st.dice] 29) := ⟨_, rfl⟩
  have hb3 : Below W2.heap.size W2 W3 := by rw [hW3]; exact (Below.refl _ W2).alloc (Nat.le_refl _) _
  have hB3 : Blk W3 W2.heap.size 29 #[.slice p2 n2 c2, .int .i64 y.x.st.sent, .int .i64 y.x.st.dice] := by rw [hW3]; exact Blk.new W2 _ _
  have hk13 := hk2.trans (Kp.of_below (O := O) hb3)
  have H2 := hid (⟨hI2.below hb3, hk13, hB3, hv2.below hb3, hn2⟩ : _ ∧ _ ∧ _ ∧ _ ∧ _)
  obtain ⟨a0, a1, a2, a3, a4⟩ := HX.out.2.2.2 W3 hk13
  have hk03 : Kp O w W3 := (Kp.of_below HX.out.2.2.1).trans hk13
  have hV3 : Vw 4 svC W3 (.slice p nl c) ls := by
    have := HX.out.2.1.hv.kp1 hk03 HX.out.2.1.o
    rwa [← HNL.out] at this
  have HP3 := hid (HP.out W3 hV3)
  rw [HAV.out] at HP3
  unfold svC at HP3
  have HK3 := hid hk03
  rw [hW3] at a0 a1 a2 a3 a4 HP3
  have HW3 := hid hW3
  clear hI2 hk2 hk03 hV3 hk13 hb3 hB3 hW3 hv2 hn2
  go_wp2_with fail
  (with_reducible refine HP3.out.mono ?_)
  rintro r W4 ⟨rfl, hb4⟩
  rw [← HW3.out] at hb4
  obtain ⟨W5, hW5⟩ : ∃ W5, W5 = W4.alloc (.cells #[.string (S y.x.k), .slice y.p y.x.st.words.length y.c, .int .i64 y.x.st.sent, .int .i64 y.x.st.dice] 44) := ⟨_, rfl⟩
  have hb5 : Below W4.heap.size W4 W5 := by rw [hW5]; exact (Below.refl _ W4).alloc (Nat.le_refl _) _
  have hb35 : Below W3.heap.size W3 W5 := hb4.trans (hb5.mono hb4.size)
  have hB5 := H2.out.2.2.1.below hb35 H2.out.2.2.1.lt
  have b0 : W5.cell? ⟨W2.heap.size, 0, none⟩ = some (.slice p2 n2 c2) := hB5.cell 0
  have b1 : W5.cell? ⟨W2.heap.size, 1, none⟩ = some (.int .i64 y.x.st.sent) := hB5.cell 1
  have b2 : W5.cell? ⟨W2.heap.size, 2, none⟩ = some (.int .i64 y.x.st.dice) := hB5.cell 2
  have hv1 := H2.out.2.2.2.1.below hb35
  have hv2 := (HX.out.2.1.ws y HY.out.1 W3 HK3.out).below hb35
  have hn2 := H2.out.2.2.2.2
  unfold wV at hv2
  rw [← hn2] at hv2
  have HS := hid (same08_any (st := y.x.st) hv1 hv2 hn2 (by have := HY.out.2; omega))
  rw [hn2] at HS
  unfold staV at HS
  have H5 := hid hb35
  have HN2 := hid hn2
  rw [hW5] at b0 b1 b2 HS
  rw [hn2] at b0
  have HW5 := hid hW5
  clear hv1 hv2 hB5 hb35 hb5 hb4 a0 a1 a2 a3 a4 hW5 hn2
  go_wp2_with fail
  (with_reducible refine HS.out.mono ?_)
  rintro r W6 ⟨rfl, hb6⟩
  rw [← HW5.out] at hb6
  have H6 := hid (H5.out.trans (hb6.mono H5.out.size))
  clear hb6 b0 b1 b2
  go_wp2
  go_ret2
  obtain ⟨h, hr, _, _⟩ := HX.out
  rw [HNL.out]
  exact DoP.same h hr x (H2.out.1.below H6.out) (HK3.out.trans (Kp.of_below H6.out))
theorem do25_any (h : SnI R w xb s lp O N l) (hr : RfI w O v ls l) (kd : Int) (x : Sv) (hok : x.x.st.ok) (hv : Vw 1 wC w (wV x) x.x.st.words) (hN : N ≤ 50) (hl : ls.length ≤ 100) :
    Calls Tryz.prog 25 #[.pointer (some ⟨xb, 0, none⟩), v, actV kd x] w fun r w' => DoP R w xb s lp O N ls x r w' := by
  by_cases h3 : 0 ≤ kd ∧ kd < 3
  · by_cases hx : x.x.k.length ≤ 29
    · by_cases hb : x.x.st.right
      · exact do25_take h hr kd h3 x hx hb hok hv hN hl
      · exact do25_bad h hr kd h3 x hx hb
    · exact do25_long h hr kd h3 x (by omega)
  by_cases h4 : kd = 4
  · subst h4
    by_cases hx : x.x.k.length ≤ 29
    · exact do25_from_any h hr x hx hl
    · exact do25_from_long h hr x (by omega)
  by_cases h5 : kd = 5
  · subst h5
    by_cases hx : x.x.k.length ≤ 29
    · exact do25_below_any h hr x hx hl
    · exact do25_below_long h hr x (by omega)
  have hk : ¬ kd = 0 ∧ ¬ kd = 1 ∧ ¬ kd = 2 ∧ ¬ kd = 4 ∧ ¬ kd = 5 := by omega
  by_cases hx : x.x.k.length ≤ 29
  · by_cases hn : belowS l x.x.k = []
    · exact do25_anone h hr kd hk x hx hn hl
    · exact do25_asome h hr kd hk x hx hn hl
  · exact do25_along h hr kd hk x (by omega) hl
end
end Go.Proofs.YtnnghcooidjlhaaGreat
end
section
set_option linter.unusedSimpArgs false
set_option linter.unusedVariables false
set_option maxRecDepth 100000
namespace Go.Proofs.YtnnghcooidjlhaaGreat
open Go.RowKit Go.Lib
def A25.sv (a : A25) : Sv := ⟨⟨a.k, a.st⟩, a.p, a.c⟩
def A25.good (w : World) (a : A25) : Prop := Vw 1 wC w (.slice a.p a.st.words.length a.c) a.st.words ∧ a.st.ok
def Rd25 (w : World) (xb : Nat) (s : SL) (lp : Int) (j : Nat) (W : World) (v : Value) (l : List Sn) : Prop :=
  ∃ O N ls, SnI TR W xb s lp O N l ∧ Vw 4 svC W v ls ∧ ls.map Sv.x = l ∧ (∀ b, v.ownBlock = some b → b ∉ O) ∧ N ≤ j ∧ ls.length ≤ j ∧ Below w.heap.size w W ∧ (∀ b ∈ xb :: s.sb :: s.tb :: O, w.heap.size ≤ b) ∧ ∀ y ∈ ls, Vw 1 wC w (wV y) y.x.st.words
section
variable {w : World} {xb : Nat} {s : SL} {lp : Int} {j : Nat} {W W' : World} {v : Value} {l : List Sn}
theorem Rd25.below (h : Rd25 w xb s lp j W v l) (hb : Below W.heap.size W W') : Rd25 w xb s lp j W' v l := by
  obtain ⟨O, N, ls, h1, h2, h3, h4, h5, h6, h7, h8, h9⟩ := h
  exact ⟨O, N, ls, h1.below hb, h2.below hb, h3, h4, h5, h6, h7.trans (hb.mono h7.size), h8, h9⟩
theorem Rd25.fr (h : Rd25 w xb s lp j W v l) : Below w.heap.size w W := by
  obtain ⟨O, N, ls, h1, h2, h3, h4, h5, h6, h7, h8, h9⟩ := h
  exact h7
theorem Rd25.up {i : Nat} (h : Rd25 w xb s lp j W v l) (hi : j ≤ i) : Rd25 w xb s lp i W v l := by
  obtain ⟨O, N, ls, h1, h2, h3, h4, h5, h6, h7, h8, h9⟩ := h
  exact ⟨O, N, ls, h1, h2, h3, h4, by omega, by omega, h7, h8, h9⟩
theorem Rd25.len (h : Rd25 w xb s lp j W v l) : l.length ≤ j := by
  obtain ⟨O, N, ls, h1, h2, h3, h4, h5, h6, h7, h8, h9⟩ := h
  rw [← h3, List.length_map]
  exact h6
theorem rd25_do (h : Rd25 w xb s lp j W v l) (hj : j ≤ 50) (a : A25) (ha : a.good w) :
    Calls Tryz.prog 25 #[.pointer (some ⟨xb, 0, none⟩), v, actV a.kd a.sv] W fun r w' => ∃ p n c l', r = .returned (.tuple #[.slice p n c, .bool true]) ∧ n = l'.length ∧ Rd25 w xb s lp (j + 1) w' (.slice p n c) l' := by
  obtain ⟨O, N, ls, h1, h2, h3, h4, h5, h6, h7, h8, h9⟩ := h
  have hr : RfI W O v ls l := ⟨h2, h3, h4, fun y hy W' hk => (h9 y hy).below (h7.trans (hk.to_below h7.size (fun x hx => h8 x (by simp [hx]))))⟩
  refine (do25_any h1 hr a.kd a.sv ha.2 (ha.1.below h7) (by omega) (by omega)).mono ?_
  rintro r w' ⟨O', v', l', ls', N', rfl, g1, g2, g3, g4, g5, g6, g7, g8, g9⟩
  obtain ⟨p, c, rfl, _⟩ := g2.slice
  have hb := h7.trans (g5.to_below h7.size (fun x hx => h8 x (by simp [hx])))
  refine ⟨p, _, c, l', rfl, by rw [← g3, List.length_map], O', N', ls', g1, g2, g3, g4, by omega, by omega, hb, fun b hm => ?_, fun y hy => ?_⟩
  · rcases List.mem_cons.1 hm with rfl | hm
    · exact h8 b (by simp)
    rcases List.mem_cons.1 hm with rfl | hm
    · exact h8 s.sb (by simp)
    rcases List.mem_cons.1 hm with rfl | hm
    · exact h8 s.tb (by simp)
    rcases g6 b hm with h | h
    · exact h8 b (by simp [h])
    · exact Nat.le_trans h7.size h
  · rcases g9 y hy with h | h
    · rw [h]; exact ha.1
    · exact h9 y h
theorem rd25_keys (h : Rd25 w xb s lp j W v l) (hj : j ≤ 50) :
    Calls Tryz.prog 24 #[.pointer (some ⟨xb, 0, none⟩)] W fun e w' => ∃ p c, e = .returned (.tuple #[.slice p l.length c, .int .i64 0]) ∧ Rd25 w xb s lp j w' v l ∧ Vw 1 kC w' (.slice p l.length c) (l.map Sn.k) := by
  have hl := h.len
  obtain ⟨O, N, ls, h1, h2, h3, h4, h5, h6, h7, h8, h9⟩ := h
  obtain ⟨M, m1, m2, m3⟩ := h1.m
  refine (skeys_any h1.b m1 h1.noO h1.hlp m2 (by omega)).mono ?_
  rintro r w' ⟨v', rfl, hS, hK, hO⟩
  obtain ⟨p, c, rfl⟩ := own_slice2 hO
  exact ⟨p, c, rfl, ⟨O, N, ls, h1.turn hK (Gr.refl _ _) hS m2 m3, h2.kp1 hK h4, h3, h4, h5, h6, h7.trans (hK.to_below h7.size (fun x hx => h8 x (by simp [hx]))), h8, h9⟩, Vw.of_own kC_len hO (by simp)⟩
end
set_option maxHeartbeats 16000000 in
theorem sdo25_any {w : World} {p : Option Addr} {n c : Nat} {l : List A25} (hv : Vw 5 a25C w (.slice p n c) l) (hn : n = l.length) (hok : ∀ a ∈ l, a.good w) :
    Calls Tryz.prog 4 #[.slice p n c] w fun r w' => r = .returned (.bool true) ∧ Below w.heap.size w w' := by
  have HB := hid (begun25_any 2 (by omega) w)
  have HA := hid (fun W => awake25_any W)
  have HX := hid (⟨hv, hn, hok⟩ : _ ∧ _ ∧ _)
  clear hv hn hok
  go_enter Tryz.func4, Tryz.ntmps4
  go_wp2_with fail
  (with_reducible refine HB.out.mono ?_)
  rintro r W1 ⟨xb, s, O, rfl, hI, hb, ho⟩
  have H1 := hid (⟨hI, hb, ho⟩ : _ ∧ _ ∧ _)
  clear hI hb ho
  go_wp2_with fail
  (with_reducible refine (HA.out W1).mono ?_)
  rintro r W2 ⟨rfl, hb2⟩
  have HI0 : Hid (Rd25 w xb s 2 0 W2 (.slice none 0 0) []) := hid ⟨O, 0, [], H1.out.1.below hb2, Vw.nil _ _ _ _ _, rfl, (fun b hb => by cases hb), by omega, by simp, H1.out.2.1.trans (hb2.mono H1.out.2.1.size), H1.out.2.2, by simp⟩
  clear hb2
  go_wp2
  go_loopg [4, 5] 25 (fun gg s4 s5 wr => ∃ (j : Nat) (q : Option Addr) (m d : Nat) (lm : List Sn), j ≤ 25 ∧ 25 - j ≤ gg ∧ s5 = .int .i64 j ∧ s4 = .slice q m d ∧ Hid (Rd25 w xb s 2 j wr (.slice q m d) lm))
  case atStart => exact ⟨0, _, _, _, _, by omega, by omega, rfl, rfl, HI0⟩
  case round =>
    obtain ⟨j, q, m, d, lm, hj, hgg, rfl, rfl, HI⟩ := hrel
    by_cases hjn : j < n
    · by_cases hje : j < 25
      · obtain ⟨a, ha⟩ : ∃ a, l[j]? = some a := ⟨_, List.getElem?_eq_getElem (by rw [← HX.out.2.1]; exact hjn)⟩
        obtain ⟨b, off, c', e, hc, hbl, hcx⟩ := HX.out.1.ex (by rintro rfl; simp at ha)
        injection e with e1 e2 e3
        subst e1
        clear e2 e3
        have HC : Hid (∀ W, Below w.heap.size w W → W.cell? ⟨b, off + j * 5, none⟩ = some (.int .i64 a.kd) ∧ W.cell? ⟨b, off + j * 5 + 1, none⟩ = some (.string (S a.k)) ∧ W.cell? ⟨b, off + j * 5 + 2, none⟩ = some (.slice a.p a.st.words.length a.c) ∧ W.cell? ⟨b, off + j * 5 + 3, none⟩ = some (.int .i64 a.st.sent) ∧ W.cell? ⟨b, off + j * 5 + 4, none⟩ = some (.int .i64 a.st.dice)) := hid fun W hW => by
          have hcell : ∀ q u, (a25C a)[q]? = some u → W.cell? ⟨b, off + j * 5 + q, none⟩ = some u := fun q u hu => (World.cell?_of_block (hW.block b hbl)).trans (hcx j a ha q u hu)
          exact ⟨hcell 0 _ rfl, hcell 1 _ rfl, hcell 2 _ rfl, hcell 3 _ rfl, hcell 4 _ rfl⟩
        have HG := hid (HX.out.2.2 a (List.mem_of_getElem? ha))
        have HSH := hid (fun W => short25_any a.kd a.k a.p a.st.words.length a.c a.st W)
        have hji : (j : Int) < (n : Int) := by omega
        have hji2 : (j : Int) < 25 := by omega
        obtain ⟨m0, m1, m2, m3, m4⟩ := HC.out wr HI.out.fr
        clear ha hc hbl hcx
        go_wp2_with fail
        (with_reducible refine (HSH.out wr).mono ?_)
        rintro r W3 ⟨rfl, hb3⟩
        have HR3 := hid (HI.out.below hb3)
        clear hb3 m0 m1 m2 m3 m4
        cases hs : decide (a.k.length < 100 ∧ a.st.words.length < 60)
        case false =>
          go_wp2
          go_roundg (25 - (j + 1))
          case measure => omega
          case rel => exact ⟨j + 1, _, _, _, lm, by omega, by omega, by go_num, rfl, hid (HR3.out.up (by omega))⟩
        case true =>
          obtain ⟨m0, m1, m2, m3, m4⟩ := HC.out W3 HR3.out.fr
          have HD := hid (rd25_do HR3.out (by omega) a HG.out)
          unfold actV A25.sv at HD
          clear hs
          go_wp2_with fail
          (with_reducible refine HD.out.mono ?_)
          rintro r W4 ⟨p4, n4, c4, l4, rfl, hn4, hR4⟩
          have HK := hid (rd25_keys hR4 (by omega))
          have HN4 := hid hn4
          rw [← hn4] at HK
          clear hR4 hn4 m0 m1 m2 m3 m4
          go_wp2_with fail
          (with_reducible refine HK.out.mono ?_)
          rintro r W5 ⟨p5, c5, rfl, hR5, hV5⟩
          have H5 := hid (⟨hR5, hV5⟩ : _ ∧ _)
          have hl4 : n4 ≤ 50 := by rw [HN4.out]; have := hR5.len; omega
          clear hR5 hV5
          go_wp2
          go_loopg [9] n4 (fun gg s9 wr => ∃ i : Nat, i ≤ n4 ∧ n4 - i ≤ gg ∧ s9 = .int .i64 i ∧ Hid (Below W5.heap.size W5 wr))
          case atStart => exact ⟨0, by omega, by omega, rfl, hid (Below.refl _ _)⟩
          case round =>
            obtain ⟨i, hi, hgg2, rfl, HJ⟩ := hrel
            by_cases hie : i < n4
            · obtain ⟨O5, N5, ls5, _, hV, hm, _⟩ := H5.out.1
              obtain ⟨y, hy⟩ : ∃ y, ls5[i]? = some y := ⟨_, List.getElem?_eq_getElem (by have := HN4.out; rw [← hm, List.length_map] at this; omega)⟩
              have hyk : (l4.map Sn.k)[i]? = some y.x.k := by rw [← hm, List.map_map, List.getElem?_map, hy]; rfl
              obtain ⟨b1, o1, _, e1, _, hb1, k1⟩ := H5.out.2.ex (by intro e0; rw [e0] at hyk; simp at hyk)
              obtain ⟨b2, o2, _, e2, _, hb2, k2⟩ := hV.ex (by rintro rfl; simp at hy)
              injection e1 with e1 e3 e4
              injection e2 with e2 e5 e6
              subst e1 e2
              clear e3 e4 e5 e6
              have HCC : Hid (∀ W, BelC wr W → W.cell? ⟨b1, o1 + i, none⟩ = some (.string (S y.x.k)) ∧ W.cell? ⟨b2, o2 + i * 4, none⟩ = some (.string (S y.x.k))) := hid fun W hW => by
                have hb := HJ.out.trans (hW.out.mono HJ.out.size)
                have q1 := k1 i y.x.k hyk 0 _ rfl
                have q2 := k2 i y hy 0 _ rfl
                rw [Nat.mul_one, Nat.add_zero] at q1
                exact ⟨(World.cell?_of_block (hb.block b1 hb1)).trans q1, (World.cell?_of_block (hb.block b2 hb2)).trans q2⟩
              have hii : (i : Int) < (n4 : Int) := by omega
              have HDR := hid (BelC.drew wr)
              clear hy hyk k1 k2 hb1 hb2 hV hm
              obtain ⟨wo, hwo⟩ : ∃ wo, wo = wr := ⟨_, rfl⟩
              subst hwo
              go_wp2
              refine qC_region (by kernel_rfl) (by kernel_rfl) (BelC wo) HDR.out ?_
              repeat (first | (refine qC_none rfl (fun K hK => ?_); apply Exists.intro; refine ⟨fun w0 hw0 => ?_, ?_⟩; (focus (obtain ⟨q0, q1⟩ := HCC.out w0 hw0; go_simp; first | exact rfl | exact ⟨rfl, rfl⟩ | (fail))); go_simp; refine hK _ ?_; clear hK K) | (refine qC_yes _ _ _ rfl rfl (by rfl) (fun K hK => ?_); apply Exists.intro; refine ⟨fun w0 hw0 => ?_, ?_⟩; (focus (obtain ⟨q0, q1⟩ := HCC.out w0 hw0; go_simp; first | exact rfl | exact ⟨rfl, rfl⟩ | (fail))); go_simp; refine hK _ ?_; clear hK K) | (refine qC_no _ _ _ rfl rfl (by rfl) (fun K hK => ?_); go_simp; refine hK _ ?_; clear hK K) | (refine qC_undef _ _ _ rfl rfl (by rfl) (fun K hK => ?_); go_simp; refine hK _ ?_; clear hK K))
              refine qC_nil ?_
              intro w5 hw5
              have HJ5 := hid (HJ.out.trans (hw5.out.mono HJ.out.size))
              clear hw5
              go_wp2
              go_roundg (n4 - (i + 1))
              case measure => omega
              case rel => exact ⟨i + 1, by omega, by omega, by go_num, HJ5⟩
            · have hii : ¬ ((i : Int) < (n4 : Int)) := by omega
              have HR6 := hid (H5.out.1.below HJ.out)
              go_wp2
              go_roundg (25 - (j + 1))
              case measure => omega
              case rel => exact ⟨j + 1, _, _, _, l4, by omega, by omega, by go_num, rfl, HR6⟩
      · have hji : (j : Int) < (n : Int) := by omega
        have hji2 : ¬ (j : Int) < 25 := by omega
        go_wp2
        go_ret
        exact ⟨rfl, HI.out.fr⟩
    · have hji : ¬ (j : Int) < (n : Int) := by omega
      go_wp2
      go_ret
      exact ⟨rfl, HI.out.fr⟩
end Go.Proofs.YtnnghcooidjlhaaGreat
end
section
set_option linter.unusedSimpArgs false
set_option maxRecDepth 100000
namespace Go.Proofs.YtnnghcooidjlhaaGreat
open Go.ChangeShapes Go.WideShapes Go.ChangeAt Go.RowKit Go.Deep
section
variable {H : Type} {enc : TypeId × Value → H} {w : World} {spare : Nat → Bool} {held : Bool} {fuel : Nat}
theorem open_acts25 {v : Value} {x : DataW H × List MemPlace} (h : DataW.trod enc Tryz.prog w 0 spare held fuel 22 [v] = some x) :
    ∃ (p : Option Addr) (n c : Nat) (l : List A25), v = .slice p n c ∧ n = l.length ∧ Vw 5 a25C w (.slice p n c) l ∧ ∀ y ∈ l, y.good w :=
  open_rows (R := fun y : A25 => y.good w) ⟨0, [], none, 0, ⟨[], 0, 0⟩⟩ Tryz.underlying22 cellsAct25 (by decide) a25C_len (fun _ _ _ h => by
    obtain ⟨a, he, hv, hok, _⟩ := open_act25 h
    exact ⟨a, he, hv, hok⟩) h
end
end Go.Proofs.YtnnghcooidjlhaaGreat
end
