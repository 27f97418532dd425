/- Parts of the proof: Xe. -/
import Derived.Test.YtnnghcooidjlhaaGreatD31
set_option linter.all false
set_option maxRecDepth 100000
namespace Go.Proofs.YtnnghcooidjlhaaGreat
section
open Go.RowKit Go.Lib
theorem iadd_nil (e : Ev) (a : Bool) (w : World) : Calls Tryz.prog 49 #[.pointer none, msgV e a] w fun r w' => r = .returned (.tuple #[.int .i64 0, .int .i64 0, .int .i64 1]) ∧ Below w.heap.size w w' := by
 have HB := hid ((Below.refl _ w).alloc (Nat.le_refl _) (.cells #[.float .f64 e.t, .int .i64 e.src, .int .i64 e.n, .int .i64 e.dst, .int .i64 e.pay, .bool a] 99))
 unfold msgV
 go_enter Tryz.func49, Tryz.ntmps49
 go_wp2
 go_ret3
 exact ⟨rfl, HB.out⟩
section
variable {w w' : World} {ib : Nat} {s : SL} {lp : Int} {O : List Nat} {N c : Nat} {l : List Ix}
set_option maxHeartbeats 4000000 in
theorem iadd_no (h : IbI w ib s lp O N c l) (e : Ev) (a : Bool) (ho : e.ok) (hn : ¬ (e.right ∧ e.dst = lp)) :
  Calls Tryz.prog 49 #[.pointer (some ⟨ib, 0, none⟩), msgV e a] w fun r w' => r = .returned (.tuple #[.int .i64 0, .int .i64 0, .int .i64 2]) ∧ Below w.heap.size w w' := by
 have HB := hid ((Below.refl _ w).alloc (Nat.le_refl _) (.cells #[.float .f64 e.t, .int .i64 e.src, .int .i64 e.n, .int .i64 e.dst, .int .i64 e.pay, .bool a] 99))
 have HX := hid (Blk.new w 99 #[.float .f64 e.t, .int .i64 e.src, .int .i64 e.n, .int .i64 e.dst, .int .i64 e.pay, .bool a])
 have HI := hid h
 unfold msgV
 by_cases hr : e.right
 ·have HK := hid (fun W => reckey_any e hr ho W)
  have hd : (e.dst == lp) = false := by
   rw [beq_eq_false_iff_ne]
   exact fun g => hn ⟨hr, g⟩
  unfold evV at HK
  clear h ho hn hr
  go_enter Tryz.func49, Tryz.ntmps49
  go_wp2_with fail
  (with_reducible refine (HK.out _).mono ?_)
  rintro r W1 ⟨rfl, hb1⟩
  have hb01 := HB.out.trans (hb1.mono (by simp))
  have hX1 := HX.out.below hb1 (by simp)
  have HCX : Hid (∀ W, BelC W1 W → W.cell? ⟨w.heap.size, 3, none⟩ = some (.int .i64 e.dst) ∧ W.cell? ⟨ib, 1, none⟩ = some (.int .i64 lp)) := hid fun W hW => ⟨(hW.blk hX1).cell 3, Blk.cell (hW.blk (HI.out.below hb01).x) 1⟩
  have HF := hid hb01
  clear hb1 hb01 hX1
  go_wp2
  refine qC_region (by kernel_rfl) (by kernel_rfl) (BelC W1) (BelC.drew W1) ?_
  repeat (first | (refine qC_none rfl (fun K hK => ?_); apply Exists.intro; refine ⟨fun w0 hw0 => ?_, ?_⟩; (focus (obtain ⟨q0, q1⟩ := HCX.out w0 hw0; go_simp; first | exact rfl | exact ⟨rfl, rfl⟩ | (fail))); go_simp; refine hK _ ?_; clear hK K) | (refine qC_yes _ _ _ rfl rfl (by rfl) (fun K hK => ?_); apply Exists.intro; refine ⟨fun w0 hw0 => ?_, ?_⟩; (focus (obtain ⟨q0, q1⟩ := HCX.out w0 hw0; go_simp; first | exact rfl | exact ⟨rfl, rfl⟩ | (fail))); go_simp; refine hK _ ?_; clear hK K) | (refine qC_no _ _ _ rfl rfl (by rfl) (fun K hK => ?_); go_simp; refine hK _ ?_; clear hK K) | (refine qC_undef _ _ _ rfl rfl (by rfl) (fun K hK => ?_); go_simp; refine hK _ ?_; clear hK K))
  refine qC_nil ?_
  intro w2 hw2
  have HF2 := hid (HF.out.trans (hw2.out.mono HF.out.size))
  clear hw2
  go_wp2
  go_ret3
  exact ⟨rfl, HF2.out⟩
 ·have HK := hid (fun W => reckey_no e hr W)
  unfold evV at HK
  clear h ho hn hr
  go_enter Tryz.func49, Tryz.ntmps49
  go_wp2_with fail
  (with_reducible refine (HK.out _).mono ?_)
  rintro r W1 ⟨rfl, hb1⟩
  have HF := hid (HB.out.trans (hb1.mono (by simp)))
  clear hb1
  go_wp2
  refine qC_region (by kernel_rfl) (by kernel_rfl) (BelC W1) (BelC.drew W1) ?_
  repeat (first | (refine qC_none rfl (fun K hK => ?_); apply Exists.intro; refine ⟨fun w0 hw0 => ?_, ?_⟩; (focus (skip; go_simp; first | exact rfl | exact ⟨rfl, rfl⟩ | (fail))); go_simp; refine hK _ ?_; clear hK K) | (refine qC_yes _ _ _ rfl rfl (by rfl) (fun K hK => ?_); apply Exists.intro; refine ⟨fun w0 hw0 => ?_, ?_⟩; (focus (skip; go_simp; first | exact rfl | exact ⟨rfl, rfl⟩ | (fail))); go_simp; refine hK _ ?_; clear hK K) | (refine qC_no _ _ _ rfl rfl (by rfl) (fun K hK => ?_); go_simp; refine hK _ ?_; clear hK K) | (refine qC_undef _ _ _ rfl rfl (by rfl) (fun K hK => ?_); go_simp; refine hK _ ?_; clear hK K))
  refine qC_nil ?_
  intro w2 hw2
  have HF2 := hid (HF.out.trans (hw2.out.mono HF.out.size))
  clear hw2
  go_wp2
  go_ret3
  exact ⟨rfl, HF2.out⟩
set_option maxHeartbeats 8000000 in
theorem iadd_new_more (hX : IbX w ib s lp) (hib : ib ∉ O) (hp : okP 0 lp) {M : List KV} (hS : StI w s O N M) (e : Ev) (hr : e.right) (ho : e.ok) (hd : e.dst = lp) (hg : getM M (hdP 0 lp ++ keyB e) = none)  (hroom : Roomy N M.length (longs M)) :
  Calls Tryz.prog 49 #[.pointer (some ⟨ib, 0, none⟩), msgV e false] w fun r w' => r = .returned (.tuple #[.int .i64 0, .int .i64 1, .int .i64 0]) ∧ ∃ O', StI w' s O' (N + 1) (setM M (hdP 0 lp ++ keyB e) (encI 1)) ∧ Kp O w w' ∧ Gr O w.heap.size O' := by
 have HB := hid ((Below.refl _ w).alloc (Nat.le_refl _) (.cells #[.float .f64 e.t, .int .i64 e.src, .int .i64 e.n, .int .i64 e.dst, .int .i64 e.pay, .bool false] 99))
 have HBX := hid (Blk.new w 99 #[.float .f64 e.t, .int .i64 e.src, .int .i64 e.n, .int .i64 e.dst, .int .i64 e.pay, .bool false])
 have HK := hid (fun W => reckey_any e hr ho W)
 have hkl : (keyB e).length = 25 := by simp
 have HG := hid (fun W (hW : StI W s O N M) => sget_any (sp := 0) (lp := lp) (k := keyB e) hW hp (by omega))
 rw [hg] at HG
 unfold getR at HG
 have HST := hid (fun W (hW : StI W s O N M) => sset_any (sp := 0) (lp := lp) (k := keyB e) (v := encI 1) hW hp (by omega) (by simp) hroom)
 have HPK := hid (fun W => packI_any 1 W (by omega) (by omega))
 have HX := hid (⟨hX, hib, hS⟩ : _ ∧ _ ∧ _)
 have HCI : Hid (∀ W', Kp O w W' → W'.cell? ⟨ib, 0, none⟩ = some (.pointer (some ⟨s.sb, 0, none⟩)) ∧ W'.cell? ⟨ib, 1, none⟩ = some (.int .i64 lp)) := hid fun W' hk => by
  have := Blk.kp hX hk hib
  exact ⟨this.cell 0, this.cell 1⟩
 have hnb : w.heap.size ∉ O := fun hm => by have := hS.lts w.heap.size (by simp [hm]); omega
 have HNB := hid hnb
 unfold msgV
 unfold evV at HK
 subst hd
 clear hX hib hp hS hr ho hg hnb  hroom
 go_enter Tryz.func49, Tryz.ntmps49
 go_wp2_with fail
 (with_reducible refine (HK.out _).mono ?_)
 rintro r W1 ⟨rfl, hb1⟩
 have hb01 := HB.out.trans (hb1.mono (by simp))
 have hX1 := HBX.out.below hb1 (by simp)
 have HCX : Hid (∀ W, BelC W1 W → W.cell? ⟨w.heap.size, 3, none⟩ = some (.int .i64 e.dst) ∧ W.cell? ⟨ib, 1, none⟩ = some (.int .i64 e.dst)) := hid fun W hW => ⟨(hW.blk hX1).cell 3, (HCI.out W (Kp.of_below (hb01.trans (hW.out.mono hb01.size)))).2⟩
 have H0 := hid (⟨hb01, hX1⟩ : _ ∧ _)
 clear hb1 hb01 hX1
 go_wp2
 refine qC_region (by kernel_rfl) (by kernel_rfl) (BelC W1) (BelC.drew W1) ?_
 repeat (first | (refine qC_none rfl (fun K hK => ?_); apply Exists.intro; refine ⟨fun w0 hw0 => ?_, ?_⟩; (focus (obtain ⟨q0, q1⟩ := HCX.out w0 hw0; go_simp; first | exact rfl | exact ⟨rfl, rfl⟩ | (fail))); go_simp; refine hK _ ?_; clear hK K) | (refine qC_yes _ _ _ rfl rfl (by rfl) (fun K hK => ?_); apply Exists.intro; refine ⟨fun w0 hw0 => ?_, ?_⟩; (focus (obtain ⟨q0, q1⟩ := HCX.out w0 hw0; go_simp; first | exact rfl | exact ⟨rfl, rfl⟩ | (fail))); go_simp; refine hK _ ?_; clear hK K) | (refine qC_no _ _ _ rfl rfl (by rfl) (fun K hK => ?_); go_simp; refine hK _ ?_; clear hK K) | (refine qC_undef _ _ _ rfl rfl (by rfl) (fun K hK => ?_); go_simp; refine hK _ ?_; clear hK K))
 refine qC_nil ?_
 intro w1 hw1
 have hb01 := H0.out.1.trans (hw1.out.mono H0.out.1.size)
 have hX1 := hw1.blk H0.out.2
 obtain ⟨c0, c1⟩ := HCI.out w1 (Kp.of_below hb01)
 have H1 := hid (⟨hb01, hX1⟩ : _ ∧ _)
 have HG1 := hid (HG.out w1.drew (HX.out.2.2.below (below_drewN hb01 1)))
 have HC1 : Hid (∀ W', Kp O w1.drew W' → (W'.cell? ⟨ib, 0, none⟩ = some (.pointer (some ⟨s.sb, 0, none⟩)) ∧ W'.cell? ⟨ib, 1, none⟩ = some (.int .i64 e.dst)) ∧ Kp O w W') := hid fun W' hk => by
  have hk' := (Kp.of_below (below_drewN H1.out.1 1)).trans hk
  exact ⟨HCI.out W' hk', hk'⟩
 clear hw1 hb01 hX1
 go_wp2
 go_region_held3 (fun W => W.cell? ⟨ib, 0, none⟩ = some (.pointer (some ⟨s.sb, 0, none⟩)) ∧ W.cell? ⟨ib, 1, none⟩ = some (.int .i64 e.dst)) (first | exact hck5 | exact ⟨c0, c1⟩)
  (first
   | (go_at_call 107; refine HG1.out.mono ?_; rintro r W2 ⟨rfl, hS2, hk2⟩; have hck5 := (HC1.out W2 hk2).1))
 all_goals
  have hk02 := (HC1.out W2 hk2).2
  have hX2 := (Blk.drew H1.out.2).kp hk2 HNB.out
  have m5 : W2.cell? ⟨w.heap.size, 5, none⟩ = some (.bool false) := hX2.cell 5
  have H2 := hid (⟨hS2, hk02⟩ : _ ∧ _)
  obtain ⟨d0, d1⟩ := hck5
  clear hS2 hk2 hk02 hX2 c0 c1
  go_wp2
  have HS2 : Hid (∀ W', Below W2.drew.heap.size W2.drew W' → Calls Tryz.prog 80 #[.pointer (some ⟨s.sb, 0, none⟩), .int .i64 0, .int .i64 e.dst, .string (S (keyB e)), .string (S (encI 1))] W' fun r w' => ∃ O', r = .returned (.int .i64 0) ∧ StI w' s O' (N + 1) (setM M (hdP 0 e.dst ++ keyB e) (encI 1)) ∧ Kp O W' w' ∧ Gr O W'.heap.size O') := hid fun W' hb => HST.out W' (H2.out.1.below ((below_drewN (Below.refl W2.heap.size W2) 1).trans hb))
  have HC2 : Hid (∀ W', Kp O W2.drew W' → (W'.cell? ⟨ib, 0, none⟩ = some (.pointer (some ⟨s.sb, 0, none⟩)) ∧ W'.cell? ⟨ib, 1, none⟩ = some (.int .i64 e.dst)) ∧ Kp O w W') := hid fun W' hk => by
   have hk' := H2.out.2.trans ((Kp.refl O W2).drew.trans hk)
   exact ⟨HCI.out W' hk', hk'⟩
  go_region_held3 (fun W => W.cell? ⟨ib, 0, none⟩ = some (.pointer (some ⟨s.sb, 0, none⟩)) ∧ W.cell? ⟨ib, 1, none⟩ = some (.int .i64 e.dst)) (first | exact hck7 | exact hck6 | exact ⟨d0, d1⟩)
   (first
    | (go_at_call 109; refine (HPK.out _).mono ?_; rintro r W4 ⟨rfl, hb4⟩; have hck6 := (HC2.out W4 (Kp.of_below hb4)).1)
    | (go_at_call 80; refine (HS2.out _ hb4).mono ?_; rintro r W5 ⟨O5, rfl, hS5, hk5, hg5⟩; have hck7 := (HC2.out W5 ((Kp.of_below hb4).trans hk5)).1))
 all_goals
  have hk05 := (HC2.out W5 ((Kp.of_below hb4).trans hk5)).2
  have hg05 := hg5.mono (Nat.le_trans (H2.out.2.trans (Kp.refl O W2).drew).size hb4.size)
  have HF := hid (⟨hS5, hk05, hg05⟩ : _ ∧ _ ∧ _)
  clear hS5 hk5 hg5 hck7 hck6 hb4 hk05 hg05
  go_wp2
  go_ret3
  exact ⟨rfl, O5, HF.out⟩
set_option maxHeartbeats 8000000 in
theorem iadd_old_more (hX : IbX w ib s lp) (hib : ib ∉ O) (hp : okP 0 lp) {M : List KV} (hS : StI w s O N M) (e : Ev) (hr : e.right) (ho : e.ok) (hd : e.dst = lp) {n0 : Int} (hg : getM M (hdP 0 lp ++ keyB e) = some (encI n0)) (hn0 : -1000 ≤ n0 ∧ n0 ≤ 1000) (hz : ¬ (n0 + 1) = 0) (hroom : Roomy N M.length (longs M)) :
  Calls Tryz.prog 49 #[.pointer (some ⟨ib, 0, none⟩), msgV e false] w fun r w' => r = .returned (.tuple #[.int .i64 n0, .int .i64 (n0 + 1), .int .i64 0]) ∧ ∃ O', StI w' s O' (N + 1) (setM M (hdP 0 lp ++ keyB e) (encI (n0 + 1))) ∧ Kp O w w' ∧ Gr O w.heap.size O' := by
 have HB := hid ((Below.refl _ w).alloc (Nat.le_refl _) (.cells #[.float .f64 e.t, .int .i64 e.src, .int .i64 e.n, .int .i64 e.dst, .int .i64 e.pay, .bool false] 99))
 have HBX := hid (Blk.new w 99 #[.float .f64 e.t, .int .i64 e.src, .int .i64 e.n, .int .i64 e.dst, .int .i64 e.pay, .bool false])
 have HK := hid (fun W => reckey_any e hr ho W)
 have hkl : (keyB e).length = 25 := by simp
 have HG := hid (fun W (hW : StI W s O N M) => sget_any (sp := 0) (lp := lp) (k := keyB e) hW hp (by omega))
 rw [hg] at HG
 unfold getR at HG
 have HCT := hid (fun W => icount_any n0 (by omega) W)
 have HST := hid (fun W (hW : StI W s O N M) => sset_any (sp := 0) (lp := lp) (k := keyB e) (v := encI (n0 + 1)) hW hp (by omega) (by simp) hroom)
 have HPK := hid (fun W => packI_any (n0 + 1) W (by omega) (by omega))
 have hw : IntKind.i64.wrap (n0 + 1) = (n0 + 1) := by rw [IntKind.wrap_i64]; omega
 have g1 : ¬ n0 ≤ -1099511627776 := by omega
 have g2 : ¬ 1099511627776 ≤ n0 := by omega
 have hzb : ((n0 + 1) == 0) = false := by rw [beq_eq_false_iff_ne]; exact hz
 have HX := hid (⟨hX, hib, hS⟩ : _ ∧ _ ∧ _)
 have HCI : Hid (∀ W', Kp O w W' → W'.cell? ⟨ib, 0, none⟩ = some (.pointer (some ⟨s.sb, 0, none⟩)) ∧ W'.cell? ⟨ib, 1, none⟩ = some (.int .i64 lp)) := hid fun W' hk => by
  have := Blk.kp hX hk hib
  exact ⟨this.cell 0, this.cell 1⟩
 have hnb : w.heap.size ∉ O := fun hm => by have := hS.lts w.heap.size (by simp [hm]); omega
 have HNB := hid hnb
 unfold msgV
 unfold evV at HK
 subst hd
 clear hX hib hp hS hr ho hg hnb hn0 hz hroom
 go_enter Tryz.func49, Tryz.ntmps49
 go_wp2_with fail
 (with_reducible refine (HK.out _).mono ?_)
 rintro r W1 ⟨rfl, hb1⟩
 have hb01 := HB.out.trans (hb1.mono (by simp))
 have hX1 := HBX.out.below hb1 (by simp)
 have HCX : Hid (∀ W, BelC W1 W → W.cell? ⟨w.heap.size, 3, none⟩ = some (.int .i64 e.dst) ∧ W.cell? ⟨ib, 1, none⟩ = some (.int .i64 e.dst)) := hid fun W hW => ⟨(hW.blk hX1).cell 3, (HCI.out W (Kp.of_below (hb01.trans (hW.out.mono hb01.size)))).2⟩
 have H0 := hid (⟨hb01, hX1⟩ : _ ∧ _)
 clear hb1 hb01 hX1
 go_wp2
 refine qC_region (by kernel_rfl) (by kernel_rfl) (BelC W1) (BelC.drew W1) ?_
 repeat (first | (refine qC_none rfl (fun K hK => ?_); apply Exists.intro; refine ⟨fun w0 hw0 => ?_, ?_⟩; (focus (obtain ⟨q0, q1⟩ := HCX.out w0 hw0; go_simp; first | exact rfl | exact ⟨rfl, rfl⟩ | (fail))); go_simp; refine hK _ ?_; clear hK K) | (refine qC_yes _ _ _ rfl rfl (by rfl) (fun K hK => ?_); apply Exists.intro; refine ⟨fun w0 hw0 => ?_, ?_⟩; (focus (obtain ⟨q0, q1⟩ := HCX.out w0 hw0; go_simp; first | exact rfl | exact ⟨rfl, rfl⟩ | (fail))); go_simp; refine hK _ ?_; clear hK K) | (refine qC_no _ _ _ rfl rfl (by rfl) (fun K hK => ?_); go_simp; refine hK _ ?_; clear hK K) | (refine qC_undef _ _ _ rfl rfl (by rfl) (fun K hK => ?_); go_simp; refine hK _ ?_; clear hK K))
 refine qC_nil ?_
 intro w1 hw1
 have hb01 := H0.out.1.trans (hw1.out.mono H0.out.1.size)
 have hX1 := hw1.blk H0.out.2
 obtain ⟨c0, c1⟩ := HCI.out w1 (Kp.of_below hb01)
 have H1 := hid (⟨hb01, hX1⟩ : _ ∧ _)
 have HG1 := hid (HG.out w1.drew (HX.out.2.2.below (below_drewN hb01 1)))
 have HC1 : Hid (∀ W', Kp O w1.drew W' → (W'.cell? ⟨ib, 0, none⟩ = some (.pointer (some ⟨s.sb, 0, none⟩)) ∧ W'.cell? ⟨ib, 1, none⟩ = some (.int .i64 e.dst)) ∧ Kp O w W') := hid fun W' hk => by
  have hk' := (Kp.of_below (below_drewN H1.out.1 1)).trans hk
  exact ⟨HCI.out W' hk', hk'⟩
 clear hw1 hb01 hX1
 go_wp2
 go_region_held3 (fun W => W.cell? ⟨ib, 0, none⟩ = some (.pointer (some ⟨s.sb, 0, none⟩)) ∧ W.cell? ⟨ib, 1, none⟩ = some (.int .i64 e.dst)) (first | exact hck5 | exact ⟨c0, c1⟩)
  (first
   | (go_at_call 107; refine HG1.out.mono ?_; rintro r W2 ⟨rfl, hS2, hk2⟩; have hck5 := (HC1.out W2 hk2).1))
 all_goals
  have hk02 := (HC1.out W2 hk2).2
  have hX2 := (Blk.drew H1.out.2).kp hk2 HNB.out
  have m5 : W2.cell? ⟨w.heap.size, 5, none⟩ = some (.bool false) := hX2.cell 5
  have H2 := hid (⟨hS2, hk02⟩ : _ ∧ _)
  obtain ⟨d0, d1⟩ := hck5
  clear hS2 hk2 hk02 hX2 c0 c1
  go_wp2_with (go_at_call 108; (with_reducible refine (HCT.out _).mono ?_); rintro r w3 ⟨rfl, rfl⟩)
  have HS2 : Hid (∀ W', Below W2.drew.heap.size W2.drew W' → Calls Tryz.prog 80 #[.pointer (some ⟨s.sb, 0, none⟩), .int .i64 0, .int .i64 e.dst, .string (S (keyB e)), .string (S (encI (n0 + 1)))] W' fun r w' => ∃ O', r = .returned (.int .i64 0) ∧ StI w' s O' (N + 1) (setM M (hdP 0 e.dst ++ keyB e) (encI (n0 + 1))) ∧ Kp O W' w' ∧ Gr O W'.heap.size O') := hid fun W' hb => HST.out W' (H2.out.1.below ((below_drewN (Below.refl W2.heap.size W2) 1).trans hb))
  have HC2 : Hid (∀ W', Kp O W2.drew W' → (W'.cell? ⟨ib, 0, none⟩ = some (.pointer (some ⟨s.sb, 0, none⟩)) ∧ W'.cell? ⟨ib, 1, none⟩ = some (.int .i64 e.dst)) ∧ Kp O w W') := hid fun W' hk => by
   have hk' := H2.out.2.trans ((Kp.refl O W2).drew.trans hk)
   exact ⟨HCI.out W' hk', hk'⟩
  go_region_held3 (fun W => W.cell? ⟨ib, 0, none⟩ = some (.pointer (some ⟨s.sb, 0, none⟩)) ∧ W.cell? ⟨ib, 1, none⟩ = some (.int .i64 e.dst)) (first | exact hck7 | exact hck6 | exact ⟨d0, d1⟩)
   (first
    | (go_at_call 109; refine (HPK.out _).mono ?_; rintro r W4 ⟨rfl, hb4⟩; have hck6 := (HC2.out W4 (Kp.of_below hb4)).1)
    | (go_at_call 80; refine (HS2.out _ hb4).mono ?_; rintro r W5 ⟨O5, rfl, hS5, hk5, hg5⟩; have hck7 := (HC2.out W5 ((Kp.of_below hb4).trans hk5)).1))
 all_goals
  have hk05 := (HC2.out W5 ((Kp.of_below hb4).trans hk5)).2
  have hg05 := hg5.mono (Nat.le_trans (H2.out.2.trans (Kp.refl O W2).drew).size hb4.size)
  have HF := hid (⟨hS5, hk05, hg05⟩ : _ ∧ _ ∧ _)
  clear hS5 hk5 hg5 hck7 hck6 hb4 hk05 hg05
  go_wp2
  go_ret3
  exact ⟨rfl, O5, HF.out⟩
set_option maxHeartbeats 8000000 in
theorem iadd_old_more_zero (hX : IbX w ib s lp) (hib : ib ∉ O) (hp : okP 0 lp) {M : List KV} (hS : StI w s O N M) (e : Ev) (hr : e.right) (ho : e.ok) (hd : e.dst = lp) {n0 : Int} (hg : getM M (hdP 0 lp ++ keyB e) = some (encI n0)) (hn0 : -1000 ≤ n0 ∧ n0 ≤ 1000) (hz : (n0 + 1) = 0) :
  Calls Tryz.prog 49 #[.pointer (some ⟨ib, 0, none⟩), msgV e false] w fun r w' => r = .returned (.tuple #[.int .i64 n0, .int .i64 0, .int .i64 0]) ∧ StI w' s O N (delM M (hdP 0 lp ++ keyB e)) ∧ Kp O w w' := by
 have HB := hid ((Below.refl _ w).alloc (Nat.le_refl _) (.cells #[.float .f64 e.t, .int .i64 e.src, .int .i64 e.n, .int .i64 e.dst, .int .i64 e.pay, .bool false] 99))
 have HBX := hid (Blk.new w 99 #[.float .f64 e.t, .int .i64 e.src, .int .i64 e.n, .int .i64 e.dst, .int .i64 e.pay, .bool false])
 have HK := hid (fun W => reckey_any e hr ho W)
 have hkl : (keyB e).length = 25 := by simp
 have HG := hid (fun W (hW : StI W s O N M) => sget_any (sp := 0) (lp := lp) (k := keyB e) hW hp (by omega))
 rw [hg] at HG
 unfold getR at HG
 have HCT := hid (fun W => icount_any n0 (by omega) W)
 have HZ := hid hz
 have HST := hid (fun W (hW : StI W s O N M) => sdel_any (sp := 0) (lp := lp) (k := keyB e) hW hp (by omega))
 rw [hg] at HST
 unfold delR at HST
 have hw : IntKind.i64.wrap (n0 + 1) = (n0 + 1) := by rw [IntKind.wrap_i64]; omega
 have g1 : ¬ n0 ≤ -1099511627776 := by omega
 have g2 : ¬ 1099511627776 ≤ n0 := by omega
 have hzb : ((n0 + 1) == 0) = true := by rw [beq_iff_eq]; exact hz
 have HX := hid (⟨hX, hib, hS⟩ : _ ∧ _ ∧ _)
 have HCI : Hid (∀ W', Kp O w W' → W'.cell? ⟨ib, 0, none⟩ = some (.pointer (some ⟨s.sb, 0, none⟩)) ∧ W'.cell? ⟨ib, 1, none⟩ = some (.int .i64 lp)) := hid fun W' hk => by
  have := Blk.kp hX hk hib
  exact ⟨this.cell 0, this.cell 1⟩
 have hnb : w.heap.size ∉ O := fun hm => by have := hS.lts w.heap.size (by simp [hm]); omega
 have HNB := hid hnb
 unfold msgV
 unfold evV at HK
 subst hd
 clear hX hib hp hS hr ho hg hnb hn0 hz
 go_enter Tryz.func49, Tryz.ntmps49
 go_wp2_with fail
 (with_reducible refine (HK.out _).mono ?_)
 rintro r W1 ⟨rfl, hb1⟩
 have hb01 := HB.out.trans (hb1.mono (by simp))
 have hX1 := HBX.out.below hb1 (by simp)
 have HCX : Hid (∀ W, BelC W1 W → W.cell? ⟨w.heap.size, 3, none⟩ = some (.int .i64 e.dst) ∧ W.cell? ⟨ib, 1, none⟩ = some (.int .i64 e.dst)) := hid fun W hW => ⟨(hW.blk hX1).cell 3, (HCI.out W (Kp.of_below (hb01.trans (hW.out.mono hb01.size)))).2⟩
 have H0 := hid (⟨hb01, hX1⟩ : _ ∧ _)
 clear hb1 hb01 hX1
 go_wp2
 refine qC_region (by kernel_rfl) (by kernel_rfl) (BelC W1) (BelC.drew W1) ?_
 repeat (first | (refine qC_none rfl (fun K hK => ?_); apply Exists.intro; refine ⟨fun w0 hw0 => ?_, ?_⟩; (focus (obtain ⟨q0, q1⟩ := HCX.out w0 hw0; go_simp; first | exact rfl | exact ⟨rfl, rfl⟩ | (fail))); go_simp; refine hK _ ?_; clear hK K) | (refine qC_yes _ _ _ rfl rfl (by rfl) (fun K hK => ?_); apply Exists.intro; refine ⟨fun w0 hw0 => ?_, ?_⟩; (focus (obtain ⟨q0, q1⟩ := HCX.out w0 hw0; go_simp; first | exact rfl | exact ⟨rfl, rfl⟩ | (fail))); go_simp; refine hK _ ?_; clear hK K) | (refine qC_no _ _ _ rfl rfl (by rfl) (fun K hK => ?_); go_simp; refine hK _ ?_; clear hK K) | (refine qC_undef _ _ _ rfl rfl (by rfl) (fun K hK => ?_); go_simp; refine hK _ ?_; clear hK K))
 refine qC_nil ?_
 intro w1 hw1
 have hb01 := H0.out.1.trans (hw1.out.mono H0.out.1.size)
 have hX1 := hw1.blk H0.out.2
 obtain ⟨c0, c1⟩ := HCI.out w1 (Kp.of_below hb01)
 have H1 := hid (⟨hb01, hX1⟩ : _ ∧ _)
 have HG1 := hid (HG.out w1.drew (HX.out.2.2.below (below_drewN hb01 1)))
 have HC1 : Hid (∀ W', Kp O w1.drew W' → (W'.cell? ⟨ib, 0, none⟩ = some (.pointer (some ⟨s.sb, 0, none⟩)) ∧ W'.cell? ⟨ib, 1, none⟩ = some (.int .i64 e.dst)) ∧ Kp O w W') := hid fun W' hk => by
  have hk' := (Kp.of_below (below_drewN H1.out.1 1)).trans hk
  exact ⟨HCI.out W' hk', hk'⟩
 clear hw1 hb01 hX1
 go_wp2
 go_region_held3 (fun W => W.cell? ⟨ib, 0, none⟩ = some (.pointer (some ⟨s.sb, 0, none⟩)) ∧ W.cell? ⟨ib, 1, none⟩ = some (.int .i64 e.dst)) (first | exact hck5 | exact ⟨c0, c1⟩)
  (first
   | (go_at_call 107; refine HG1.out.mono ?_; rintro r W2 ⟨rfl, hS2, hk2⟩; have hck5 := (HC1.out W2 hk2).1))
 all_goals
  have hk02 := (HC1.out W2 hk2).2
  have hX2 := (Blk.drew H1.out.2).kp hk2 HNB.out
  have m5 : W2.cell? ⟨w.heap.size, 5, none⟩ = some (.bool false) := hX2.cell 5
  have H2 := hid (⟨hS2, hk02⟩ : _ ∧ _)
  obtain ⟨d0, d1⟩ := hck5
  clear hS2 hk2 hk02 hX2 c0 c1
  go_wp2_with (go_at_call 108; (with_reducible refine (HCT.out _).mono ?_); rintro r w3 ⟨rfl, rfl⟩)
  have HS2 := hid (HST.out W2.drew (H2.out.1.below (below_drewN (Below.refl W2.heap.size W2) 1)))
  have HC2 : Hid (∀ W', Kp O W2.drew W' → (W'.cell? ⟨ib, 0, none⟩ = some (.pointer (some ⟨s.sb, 0, none⟩)) ∧ W'.cell? ⟨ib, 1, none⟩ = some (.int .i64 e.dst)) ∧ Kp O w W') := hid fun W' hk => by
   have hk' := H2.out.2.trans ((Kp.refl O W2).drew.trans hk)
   exact ⟨HCI.out W' hk', hk'⟩
  go_region_held3 (fun W => W.cell? ⟨ib, 0, none⟩ = some (.pointer (some ⟨s.sb, 0, none⟩)) ∧ W.cell? ⟨ib, 1, none⟩ = some (.int .i64 e.dst)) (first | exact hck7 | exact ⟨d0, d1⟩)
   (first
    | (go_at_call 105; refine HS2.out.mono ?_; rintro r W5 ⟨rfl, hS5, hk5⟩; have hck7 := (HC2.out W5 hk5).1))
 all_goals
  have HF := hid (⟨hS5, (HC2.out W5 hk5).2⟩ : _ ∧ _)
  clear hS5 hk5 hck7
  go_wp2
  go_ret3
  exact ⟨congrArg (fun z : Int => Ending.returned (.tuple #[.int .i64 n0, .int .i64 z, .int .i64 0])) HZ.out, HF.out⟩
set_option maxHeartbeats 8000000 in
theorem iadd_new_less (hX : IbX w ib s lp) (hib : ib ∉ O) (hp : okP 0 lp) {M : List KV} (hS : StI w s O N M) (e : Ev) (hr : e.right) (ho : e.ok) (hd : e.dst = lp) (hg : getM M (hdP 0 lp ++ keyB e) = none)  (hroom : Roomy N M.length (longs M)) :
  Calls Tryz.prog 49 #[.pointer (some ⟨ib, 0, none⟩), msgV e true] w fun r w' => r = .returned (.tuple #[.int .i64 0, .int .i64 (-1), .int .i64 0]) ∧ ∃ O', StI w' s O' (N + 1) (setM M (hdP 0 lp ++ keyB e) (encI (-1))) ∧ Kp O w w' ∧ Gr O w.heap.size O' := by
 have HB := hid ((Below.refl _ w).alloc (Nat.le_refl _) (.cells #[.float .f64 e.t, .int .i64 e.src, .int .i64 e.n, .int .i64 e.dst, .int .i64 e.pay, .bool true] 99))
 have HBX := hid (Blk.new w 99 #[.float .f64 e.t, .int .i64 e.src, .int .i64 e.n, .int .i64 e.dst, .int .i64 e.pay, .bool true])
 have HK := hid (fun W => reckey_any e hr ho W)
 have hkl : (keyB e).length = 25 := by simp
 have HG := hid (fun W (hW : StI W s O N M) => sget_any (sp := 0) (lp := lp) (k := keyB e) hW hp (by omega))
 rw [hg] at HG
 unfold getR at HG
 have HST := hid (fun W (hW : StI W s O N M) => sset_any (sp := 0) (lp := lp) (k := keyB e) (v := encI (-1)) hW hp (by omega) (by simp) hroom)
 have HPK := hid (fun W => packI_any (-1) W (by omega) (by omega))
 have HX := hid (⟨hX, hib, hS⟩ : _ ∧ _ ∧ _)
 have HCI : Hid (∀ W', Kp O w W' → W'.cell? ⟨ib, 0, none⟩ = some (.pointer (some ⟨s.sb, 0, none⟩)) ∧ W'.cell? ⟨ib, 1, none⟩ = some (.int .i64 lp)) := hid fun W' hk => by
  have := Blk.kp hX hk hib
  exact ⟨this.cell 0, this.cell 1⟩
 have hnb : w.heap.size ∉ O := fun hm => by have := hS.lts w.heap.size (by simp [hm]); omega
 have HNB := hid hnb
 unfold msgV
 unfold evV at HK
 subst hd
 clear hX hib hp hS hr ho hg hnb  hroom
 go_enter Tryz.func49, Tryz.ntmps49
 go_wp2_with fail
 (with_reducible refine (HK.out _).mono ?_)
 rintro r W1 ⟨rfl, hb1⟩
 have hb01 := HB.out.trans (hb1.mono (by simp))
 have hX1 := HBX.out.below hb1 (by simp)
 have HCX : Hid (∀ W, BelC W1 W → W.cell? ⟨w.heap.size, 3, none⟩ = some (.int .i64 e.dst) ∧ W.cell? ⟨ib, 1, none⟩ = some (.int .i64 e.dst)) := hid fun W hW => ⟨(hW.blk hX1).cell 3, (HCI.out W (Kp.of_below (hb01.trans (hW.out.mono hb01.size)))).2⟩
 have H0 := hid (⟨hb01, hX1⟩ : _ ∧ _)
 clear hb1 hb01 hX1
 go_wp2
 refine qC_region (by kernel_rfl) (by kernel_rfl) (BelC W1) (BelC.drew W1) ?_
 repeat (first | (refine qC_none rfl (fun K hK => ?_); apply Exists.intro; refine ⟨fun w0 hw0 => ?_, ?_⟩; (focus (obtain ⟨q0, q1⟩ := HCX.out w0 hw0; go_simp; first | exact rfl | exact ⟨rfl, rfl⟩ | (fail))); go_simp; refine hK _ ?_; clear hK K) | (refine qC_yes _ _ _ rfl rfl (by rfl) (fun K hK => ?_); apply Exists.intro; refine ⟨fun w0 hw0 => ?_, ?_⟩; (focus (obtain ⟨q0, q1⟩ := HCX.out w0 hw0; go_simp; first | exact rfl | exact ⟨rfl, rfl⟩ | (fail))); go_simp; refine hK _ ?_; clear hK K) | (refine qC_no _ _ _ rfl rfl (by rfl) (fun K hK => ?_); go_simp; refine hK _ ?_; clear hK K) | (refine qC_undef _ _ _ rfl rfl (by rfl) (fun K hK => ?_); go_simp; refine hK _ ?_; clear hK K))
 refine qC_nil ?_
 intro w1 hw1
 have hb01 := H0.out.1.trans (hw1.out.mono H0.out.1.size)
 have hX1 := hw1.blk H0.out.2
 obtain ⟨c0, c1⟩ := HCI.out w1 (Kp.of_below hb01)
 have H1 := hid (⟨hb01, hX1⟩ : _ ∧ _)
 have HG1 := hid (HG.out w1.drew (HX.out.2.2.below (below_drewN hb01 1)))
 have HC1 : Hid (∀ W', Kp O w1.drew W' → (W'.cell? ⟨ib, 0, none⟩ = some (.pointer (some ⟨s.sb, 0, none⟩)) ∧ W'.cell? ⟨ib, 1, none⟩ = some (.int .i64 e.dst)) ∧ Kp O w W') := hid fun W' hk => by
  have hk' := (Kp.of_below (below_drewN H1.out.1 1)).trans hk
  exact ⟨HCI.out W' hk', hk'⟩
 clear hw1 hb01 hX1
 go_wp2
 go_region_held3 (fun W => W.cell? ⟨ib, 0, none⟩ = some (.pointer (some ⟨s.sb, 0, none⟩)) ∧ W.cell? ⟨ib, 1, none⟩ = some (.int .i64 e.dst)) (first | exact hck5 | exact ⟨c0, c1⟩)
  (first
   | (go_at_call 107; refine HG1.out.mono ?_; rintro r W2 ⟨rfl, hS2, hk2⟩; have hck5 := (HC1.out W2 hk2).1))
 all_goals
  have hk02 := (HC1.out W2 hk2).2
  have hX2 := (Blk.drew H1.out.2).kp hk2 HNB.out
  have m5 : W2.cell? ⟨w.heap.size, 5, none⟩ = some (.bool true) := hX2.cell 5
  have H2 := hid (⟨hS2, hk02⟩ : _ ∧ _)
  obtain ⟨d0, d1⟩ := hck5
  clear hS2 hk2 hk02 hX2 c0 c1
  go_wp2
  have HS2 : Hid (∀ W', Below W2.drew.heap.size W2.drew W' → Calls Tryz.prog 80 #[.pointer (some ⟨s.sb, 0, none⟩), .int .i64 0, .int .i64 e.dst, .string (S (keyB e)), .string (S (encI (-1)))] W' fun r w' => ∃ O', r = .returned (.int .i64 0) ∧ StI w' s O' (N + 1) (setM M (hdP 0 e.dst ++ keyB e) (encI (-1))) ∧ Kp O W' w' ∧ Gr O W'.heap.size O') := hid fun W' hb => HST.out W' (H2.out.1.below ((below_drewN (Below.refl W2.heap.size W2) 1).trans hb))
  have HC2 : Hid (∀ W', Kp O W2.drew W' → (W'.cell? ⟨ib, 0, none⟩ = some (.pointer (some ⟨s.sb, 0, none⟩)) ∧ W'.cell? ⟨ib, 1, none⟩ = some (.int .i64 e.dst)) ∧ Kp O w W') := hid fun W' hk => by
   have hk' := H2.out.2.trans ((Kp.refl O W2).drew.trans hk)
   exact ⟨HCI.out W' hk', hk'⟩
  go_region_held3 (fun W => W.cell? ⟨ib, 0, none⟩ = some (.pointer (some ⟨s.sb, 0, none⟩)) ∧ W.cell? ⟨ib, 1, none⟩ = some (.int .i64 e.dst)) (first | exact hck7 | exact hck6 | exact ⟨d0, d1⟩)
   (first
    | (go_at_call 109; refine (HPK.out _).mono ?_; rintro r W4 ⟨rfl, hb4⟩; have hck6 := (HC2.out W4 (Kp.of_below hb4)).1)
    | (go_at_call 80; refine (HS2.out _ hb4).mono ?_; rintro r W5 ⟨O5, rfl, hS5, hk5, hg5⟩; have hck7 := (HC2.out W5 ((Kp.of_below hb4).trans hk5)).1))
 all_goals
  have hk05 := (HC2.out W5 ((Kp.of_below hb4).trans hk5)).2
  have hg05 := hg5.mono (Nat.le_trans (H2.out.2.trans (Kp.refl O W2).drew).size hb4.size)
  have HF := hid (⟨hS5, hk05, hg05⟩ : _ ∧ _ ∧ _)
  clear hS5 hk5 hg5 hck7 hck6 hb4 hk05 hg05
  go_wp2
  go_ret3
  exact ⟨rfl, O5, HF.out⟩
set_option maxHeartbeats 8000000 in
theorem iadd_old_less (hX : IbX w ib s lp) (hib : ib ∉ O) (hp : okP 0 lp) {M : List KV} (hS : StI w s O N M) (e : Ev) (hr : e.right) (ho : e.ok) (hd : e.dst = lp) {n0 : Int} (hg : getM M (hdP 0 lp ++ keyB e) = some (encI n0)) (hn0 : -1000 ≤ n0 ∧ n0 ≤ 1000) (hz : ¬ (n0 - 1) = 0) (hroom : Roomy N M.length (longs M)) :
  Calls Tryz.prog 49 #[.pointer (some ⟨ib, 0, none⟩), msgV e true] w fun r w' => r = .returned (.tuple #[.int .i64 n0, .int .i64 (n0 - 1), .int .i64 0]) ∧ ∃ O', StI w' s O' (N + 1) (setM M (hdP 0 lp ++ keyB e) (encI (n0 - 1))) ∧ Kp O w w' ∧ Gr O w.heap.size O' := by
 have HB := hid ((Below.refl _ w).alloc (Nat.le_refl _) (.cells #[.float .f64 e.t, .int .i64 e.src, .int .i64 e.n, .int .i64 e.dst, .int .i64 e.pay, .bool true] 99))
 have HBX := hid (Blk.new w 99 #[.float .f64 e.t, .int .i64 e.src, .int .i64 e.n, .int .i64 e.dst, .int .i64 e.pay, .bool true])
 have HK := hid (fun W => reckey_any e hr ho W)
 have hkl : (keyB e).length = 25 := by simp
 have HG := hid (fun W (hW : StI W s O N M) => sget_any (sp := 0) (lp := lp) (k := keyB e) hW hp (by omega))
 rw [hg] at HG
 unfold getR at HG
 have HCT := hid (fun W => icount_any n0 (by omega) W)
 have HST := hid (fun W (hW : StI W s O N M) => sset_any (sp := 0) (lp := lp) (k := keyB e) (v := encI (n0 - 1)) hW hp (by omega) (by simp) hroom)
 have HPK := hid (fun W => packI_any (n0 - 1) W (by omega) (by omega))
 have hw : IntKind.i64.wrap (n0 - 1) = (n0 - 1) := by rw [IntKind.wrap_i64]; omega
 have g1 : ¬ n0 ≤ -1099511627776 := by omega
 have g2 : ¬ 1099511627776 ≤ n0 := by omega
 have hzb : ((n0 - 1) == 0) = false := by rw [beq_eq_false_iff_ne]; exact hz
 have HX := hid (⟨hX, hib, hS⟩ : _ ∧ _ ∧ _)
 have HCI : Hid (∀ W', Kp O w W' → W'.cell? ⟨ib, 0, none⟩ = some (.pointer (some ⟨s.sb, 0, none⟩)) ∧ W'.cell? ⟨ib, 1, none⟩ = some (.int .i64 lp)) := hid fun W' hk => by
  have := Blk.kp hX hk hib
  exact ⟨this.cell 0, this.cell 1⟩
 have hnb : w.heap.size ∉ O := fun hm => by have := hS.lts w.heap.size (by simp [hm]); omega
 have HNB := hid hnb
 unfold msgV
 unfold evV at HK
 subst hd
 clear hX hib hp hS hr ho hg hnb hn0 hz hroom
 go_enter Tryz.func49, Tryz.ntmps49
 go_wp2_with fail
 (with_reducible refine (HK.out _).mono ?_)
 rintro r W1 ⟨rfl, hb1⟩
 have hb01 := HB.out.trans (hb1.mono (by simp))
 have hX1 := HBX.out.below hb1 (by simp)
 have HCX : Hid (∀ W, BelC W1 W → W.cell? ⟨w.heap.size, 3, none⟩ = some (.int .i64 e.dst) ∧ W.cell? ⟨ib, 1, none⟩ = some (.int .i64 e.dst)) := hid fun W hW => ⟨(hW.blk hX1).cell 3, (HCI.out W (Kp.of_below (hb01.trans (hW.out.mono hb01.size)))).2⟩
 have H0 := hid (⟨hb01, hX1⟩ : _ ∧ _)
 clear hb1 hb01 hX1
 go_wp2
 refine qC_region (by kernel_rfl) (by kernel_rfl) (BelC W1) (BelC.drew W1) ?_
 repeat (first | (refine qC_none rfl (fun K hK => ?_); apply Exists.intro; refine ⟨fun w0 hw0 => ?_, ?_⟩; (focus (obtain ⟨q0, q1⟩ := HCX.out w0 hw0; go_simp; first | exact rfl | exact ⟨rfl, rfl⟩ | (fail))); go_simp; refine hK _ ?_; clear hK K) | (refine qC_yes _ _ _ rfl rfl (by rfl) (fun K hK => ?_); apply Exists.intro; refine ⟨fun w0 hw0 => ?_, ?_⟩; (focus (obtain ⟨q0, q1⟩ := HCX.out w0 hw0; go_simp; first | exact rfl | exact ⟨rfl, rfl⟩ | (fail))); go_simp; refine hK _ ?_; clear hK K) | (refine qC_no _ _ _ rfl rfl (by rfl) (fun K hK => ?_); go_simp; refine hK _ ?_; clear hK K) | (refine qC_undef _ _ _ rfl rfl (by rfl) (fun K hK => ?_); go_simp; refine hK _ ?_; clear hK K))
 refine qC_nil ?_
 intro w1 hw1
 have hb01 := H0.out.1.trans (hw1.out.mono H0.out.1.size)
 have hX1 := hw1.blk H0.out.2
 obtain ⟨c0, c1⟩ := HCI.out w1 (Kp.of_below hb01)
 have H1 := hid (⟨hb01, hX1⟩ : _ ∧ _)
 have HG1 := hid (HG.out w1.drew (HX.out.2.2.below (below_drewN hb01 1)))
 have HC1 : Hid (∀ W', Kp O w1.drew W' → (W'.cell? ⟨ib, 0, none⟩ = some (.pointer (some ⟨s.sb, 0, none⟩)) ∧ W'.cell? ⟨ib, 1, none⟩ = some (.int .i64 e.dst)) ∧ Kp O w W') := hid fun W' hk => by
  have hk' := (Kp.of_below (below_drewN H1.out.1 1)).trans hk
  exact ⟨HCI.out W' hk', hk'⟩
 clear hw1 hb01 hX1
 go_wp2
 go_region_held3 (fun W => W.cell? ⟨ib, 0, none⟩ = some (.pointer (some ⟨s.sb, 0, none⟩)) ∧ W.cell? ⟨ib, 1, none⟩ = some (.int .i64 e.dst)) (first | exact hck5 | exact ⟨c0, c1⟩)
  (first
   | (go_at_call 107; refine HG1.out.mono ?_; rintro r W2 ⟨rfl, hS2, hk2⟩; have hck5 := (HC1.out W2 hk2).1))
 all_goals
  have hk02 := (HC1.out W2 hk2).2
  have hX2 := (Blk.drew H1.out.2).kp hk2 HNB.out
  have m5 : W2.cell? ⟨w.heap.size, 5, none⟩ = some (.bool true) := hX2.cell 5
  have H2 := hid (⟨hS2, hk02⟩ : _ ∧ _)
  obtain ⟨d0, d1⟩ := hck5
  clear hS2 hk2 hk02 hX2 c0 c1
  go_wp2_with (go_at_call 108; (with_reducible refine (HCT.out _).mono ?_); rintro r w3 ⟨rfl, rfl⟩)
  have HS2 : Hid (∀ W', Below W2.drew.heap.size W2.drew W' → Calls Tryz.prog 80 #[.pointer (some ⟨s.sb, 0, none⟩), .int .i64 0, .int .i64 e.dst, .string (S (keyB e)), .string (S (encI (n0 - 1)))] W' fun r w' => ∃ O', r = .returned (.int .i64 0) ∧ StI w' s O' (N + 1) (setM M (hdP 0 e.dst ++ keyB e) (encI (n0 - 1))) ∧ Kp O W' w' ∧ Gr O W'.heap.size O') := hid fun W' hb => HST.out W' (H2.out.1.below ((below_drewN (Below.refl W2.heap.size W2) 1).trans hb))
  have HC2 : Hid (∀ W', Kp O W2.drew W' → (W'.cell? ⟨ib, 0, none⟩ = some (.pointer (some ⟨s.sb, 0, none⟩)) ∧ W'.cell? ⟨ib, 1, none⟩ = some (.int .i64 e.dst)) ∧ Kp O w W') := hid fun W' hk => by
   have hk' := H2.out.2.trans ((Kp.refl O W2).drew.trans hk)
   exact ⟨HCI.out W' hk', hk'⟩
  go_region_held3 (fun W => W.cell? ⟨ib, 0, none⟩ = some (.pointer (some ⟨s.sb, 0, none⟩)) ∧ W.cell? ⟨ib, 1, none⟩ = some (.int .i64 e.dst)) (first | exact hck7 | exact hck6 | exact ⟨d0, d1⟩)
   (first
    | (go_at_call 109; refine (HPK.out _).mono ?_; rintro r W4 ⟨rfl, hb4⟩; have hck6 := (HC2.out W4 (Kp.of_below hb4)).1)
    | (go_at_call 80; refine (HS2.out _ hb4).mono ?_; rintro r W5 ⟨O5, rfl, hS5, hk5, hg5⟩; have hck7 := (HC2.out W5 ((Kp.of_below hb4).trans hk5)).1))
 all_goals
  have hk05 := (HC2.out W5 ((Kp.of_below hb4).trans hk5)).2
  have hg05 := hg5.mono (Nat.le_trans (H2.out.2.trans (Kp.refl O W2).drew).size hb4.size)
  have HF := hid (⟨hS5, hk05, hg05⟩ : _ ∧ _ ∧ _)
  clear hS5 hk5 hg5 hck7 hck6 hb4 hk05 hg05
  go_wp2
  go_ret3
  exact ⟨rfl, O5, HF.out⟩
set_option maxHeartbeats 8000000 in
theorem iadd_old_less_zero (hX : IbX w ib s lp) (hib : ib ∉ O) (hp : okP 0 lp) {M : List KV} (hS : StI w s O N M) (e : Ev) (hr : e.right) (ho : e.ok) (hd : e.dst = lp) {n0 : Int} (hg : getM M (hdP 0 lp ++ keyB e) = some (encI n0)) (hn0 : -1000 ≤ n0 ∧ n0 ≤ 1000) (hz : (n0 - 1) = 0) :
  Calls Tryz.prog 49 #[.pointer (some ⟨ib, 0, none⟩), msgV e true] w fun r w' => r = .returned (.tuple #[.int .i64 n0, .int .i64 0, .int .i64 0]) ∧ StI w' s O N (delM M (hdP 0 lp ++ keyB e)) ∧ Kp O w w' := by
 have HB := hid ((Below.refl _ w).alloc (Nat.le_refl _) (.cells #[.float .f64 e.t, .int .i64 e.src, .int .i64 e.n, .int .i64 e.dst, .int .i64 e.pay, .bool true] 99))
 have HBX := hid (Blk.new w 99 #[.float .f64 e.t, .int .i64 e.src, .int .i64 e.n, .int .i64 e.dst, .int .i64 e.pay, .bool true])
 have HK := hid (fun W => reckey_any e hr ho W)
 have hkl : (keyB e).length = 25 := by simp
 have HG := hid (fun W (hW : StI W s O N M) => sget_any (sp := 0) (lp := lp) (k := keyB e) hW hp (by omega))
 rw [hg] at HG
 unfold getR at HG
 have HCT := hid (fun W => icount_any n0 (by omega) W)
 have HZ := hid hz
 have HST := hid (fun W (hW : StI W s O N M) => sdel_any (sp := 0) (lp := lp) (k := keyB e) hW hp (by omega))
 rw [hg] at HST
 unfold delR at HST
 have hw : IntKind.i64.wrap (n0 - 1) = (n0 - 1) := by rw [IntKind.wrap_i64]; omega
 have g1 : ¬ n0 ≤ -1099511627776 := by omega
 have g2 : ¬ 1099511627776 ≤ n0 := by omega
 have hzb : ((n0 - 1) == 0) = true := by rw [beq_iff_eq]; exact hz
 have HX := hid (⟨hX, hib, hS⟩ : _ ∧ _ ∧ _)
 have HCI : Hid (∀ W', Kp O w W' → W'.cell? ⟨ib, 0, none⟩ = some (.pointer (some ⟨s.sb, 0, none⟩)) ∧ W'.cell? ⟨ib, 1, none⟩ = some (.int .i64 lp)) := hid fun W' hk => by
  have := Blk.kp hX hk hib
  exact ⟨this.cell 0, this.cell 1⟩
 have hnb : w.heap.size ∉ O := fun hm => by have := hS.lts w.heap.size (by simp [hm]); omega
 have HNB := hid hnb
 unfold msgV
 unfold evV at HK
 subst hd
 clear hX hib hp hS hr ho hg hnb hn0 hz
 go_enter Tryz.func49, Tryz.ntmps49
 go_wp2_with fail
 (with_reducible refine (HK.out _).mono ?_)
 rintro r W1 ⟨rfl, hb1⟩
 have hb01 := HB.out.trans (hb1.mono (by simp))
 have hX1 := HBX.out.below hb1 (by simp)
 have HCX : Hid (∀ W, BelC W1 W → W.cell? ⟨w.heap.size, 3, none⟩ = some (.int .i64 e.dst) ∧ W.cell? ⟨ib, 1, none⟩ = some (.int .i64 e.dst)) := hid fun W hW => ⟨(hW.blk hX1).cell 3, (HCI.out W (Kp.of_below (hb01.trans (hW.out.mono hb01.size)))).2⟩
 have H0 := hid (⟨hb01, hX1⟩ : _ ∧ _)
 clear hb1 hb01 hX1
 go_wp2
 refine qC_region (by kernel_rfl) (by kernel_rfl) (BelC W1) (BelC.drew W1) ?_
 repeat (first | (refine qC_none rfl (fun K hK => ?_); apply Exists.intro; refine ⟨fun w0 hw0 => ?_, ?_⟩; (focus (obtain ⟨q0, q1⟩ := HCX.out w0 hw0; go_simp; first | exact rfl | exact ⟨rfl, rfl⟩ | (fail))); go_simp; refine hK _ ?_; clear hK K) | (refine qC_yes _ _ _ rfl rfl (by rfl) (fun K hK => ?_); apply Exists.intro; refine ⟨fun w0 hw0 => ?_, ?_⟩; (focus (obtain ⟨q0, q1⟩ := HCX.out w0 hw0; go_simp; first | exact rfl | exact ⟨rfl, rfl⟩ | (fail))); go_simp; refine hK _ ?_; clear hK K) | (refine qC_no _ _ _ rfl rfl (by rfl) (fun K hK => ?_); go_simp; refine hK _ ?_; clear hK K) | (refine qC_undef _ _ _ rfl rfl (by rfl) (fun K hK => ?_); go_simp; refine hK _ ?_; clear hK K))
 refine qC_nil ?_
 intro w1 hw1
 have hb01 := H0.out.1.trans (hw1.out.mono H0.out.1.size)
 have hX1 := hw1.blk H0.out.2
 obtain ⟨c0, c1⟩ := HCI.out w1 (Kp.of_below hb01)
 have H1 := hid (⟨hb01, hX1⟩ : _ ∧ _)
 have HG1 := hid (HG.out w1.drew (HX.out.2.2.below (below_drewN hb01 1)))
 have HC1 : Hid (∀ W', Kp O w1.drew W' → (W'.cell? ⟨ib, 0, none⟩ = some (.pointer (some ⟨s.sb, 0, none⟩)) ∧ W'.cell? ⟨ib, 1, none⟩ = some (.int .i64 e.dst)) ∧ Kp O w W') := hid fun W' hk => by
  have hk' := (Kp.of_below (below_drewN H1.out.1 1)).trans hk
  exact ⟨HCI.out W' hk', hk'⟩
 clear hw1 hb01 hX1
 go_wp2
 go_region_held3 (fun W => W.cell? ⟨ib, 0, none⟩ = some (.pointer (some ⟨s.sb, 0, none⟩)) ∧ W.cell? ⟨ib, 1, none⟩ = some (.int .i64 e.dst)) (first | exact hck5 | exact ⟨c0, c1⟩)
  (first
   | (go_at_call 107; refine HG1.out.mono ?_; rintro r W2 ⟨rfl, hS2, hk2⟩; have hck5 := (HC1.out W2 hk2).1))
 all_goals
  have hk02 := (HC1.out W2 hk2).2
  have hX2 := (Blk.drew H1.out.2).kp hk2 HNB.out
  have m5 : W2.cell? ⟨w.heap.size, 5, none⟩ = some (.bool true) := hX2.cell 5
  have H2 := hid (⟨hS2, hk02⟩ : _ ∧ _)
  obtain ⟨d0, d1⟩ := hck5
  clear hS2 hk2 hk02 hX2 c0 c1
  go_wp2_with (go_at_call 108; (with_reducible refine (HCT.out _).mono ?_); rintro r w3 ⟨rfl, rfl⟩)
  have HS2 := hid (HST.out W2.drew (H2.out.1.below (below_drewN (Below.refl W2.heap.size W2) 1)))
  have HC2 : Hid (∀ W', Kp O W2.drew W' → (W'.cell? ⟨ib, 0, none⟩ = some (.pointer (some ⟨s.sb, 0, none⟩)) ∧ W'.cell? ⟨ib, 1, none⟩ = some (.int .i64 e.dst)) ∧ Kp O w W') := hid fun W' hk => by
   have hk' := H2.out.2.trans ((Kp.refl O W2).drew.trans hk)
   exact ⟨HCI.out W' hk', hk'⟩
  go_region_held3 (fun W => W.cell? ⟨ib, 0, none⟩ = some (.pointer (some ⟨s.sb, 0, none⟩)) ∧ W.cell? ⟨ib, 1, none⟩ = some (.int .i64 e.dst)) (first | exact hck7 | exact ⟨d0, d1⟩)
   (first
    | (go_at_call 105; refine HS2.out.mono ?_; rintro r W5 ⟨rfl, hS5, hk5⟩; have hck7 := (HC2.out W5 hk5).1))
 all_goals
  have HF := hid (⟨hS5, (HC2.out W5 hk5).2⟩ : _ ∧ _)
  clear hS5 hk5 hck7
  go_wp2
  go_ret3
  exact ⟨congrArg (fun z : Int => Ending.returned (.tuple #[.int .i64 n0, .int .i64 z, .int .i64 0])) HZ.out, HF.out⟩
theorem iadd_any (h : IbI w ib s lp O N c l) (e : Ev) (a : Bool) (hr : e.right) (ho : e.ok) (hd : e.dst = lp) (hN : N ≤ 100) (hc : c ≤ 1000) :
  Calls Tryz.prog 49 #[.pointer (some ⟨ib, 0, none⟩), msgV e a] w fun r w' => ∃ O' N', r = .returned (.tuple #[.int .i64 (cntI l (keyB e)), .int .i64 (cntI l (keyB e) + sgI a), .int .i64 0]) ∧ N' ≤ N + 1 ∧ IbI w' ib s lp O' N' (c + 1) (addI l e (sgI a)) ∧ Kp O w w' ∧ Gr O w.heap.size O' := by
 obtain ⟨M, h1, h2, h3⟩ := h.m
 have hroom : Roomy N M.length (longs M) := .inl ⟨hN, by omega⟩
 have hle := cntI_le h2.le (keyB e)
 have hsg : sgI a = 1 ∨ sgI a = -1 := by cases a <;> simp [sgI]
 have hset : ∀ {W' O' n}, n ≠ 0 → n = cntI l (keyB e) + sgI a → StI W' s O' (N + 1) (setM M (hdP 0 lp ++ keyB e) (encI n)) → Kp O w W' → Gr O w.heap.size O' → IbI W' ib s lp O' (N + 1) (c + 1) (addI l e (sgI a)) := fun hn e1 hs hk hg => by
  subst e1
  have hl := longs_set h1.asc (hdP 0 lp ++ keyB e) (encI (cntI l (keyB e) + sgI a))
  have hx := (h2.up (Nat.le_succ c)).set h1.asc hr ho hd hn (by omega)
  unfold addI
  rw [if_neg hn]
  exact h.turn hk hg hs hx (by rw [h3] at hl; simpa using hl)
 cases hg : getM M (hdP 0 lp ++ keyB e) with
 | none =>
  have h0 := h2.get_none h1.asc hg
  cases a with
  | false =>
   refine (iadd_new_more h.x h.nxO h.okp h1 e hr ho hd hg hroom).mono ?_
   rintro r w' ⟨rfl, O', g1, g2, g3⟩
   exact ⟨O', N + 1, by rw [h0]; rfl, Nat.le_refl _, hset (by decide) (by rw [h0]; rfl) g1 g2 g3, g2, g3⟩
  | true =>
   refine (iadd_new_less h.x h.nxO h.okp h1 e hr ho hd hg hroom).mono ?_
   rintro r w' ⟨rfl, O', g1, g2, g3⟩
   exact ⟨O', N + 1, by rw [h0]; rfl, Nat.le_refl _, hset (by decide) (by rw [h0]; rfl) g1 g2 g3, g2, g3⟩
 | some v =>
  obtain ⟨hv, hnz⟩ := h2.get_some h1.asc hg
  subst hv
  have hdel : ∀ {W'}, cntI l (keyB e) + sgI a = 0 → StI W' s O N (delM M (hdP 0 lp ++ keyB e)) → Kp O w W' → IbI W' ib s lp O N (c + 1) (addI l e (sgI a)) := fun hz hs hk => by
   have hlo : longs (delM M (hdP 0 lp ++ keyB e)) = 0 := by
    have := longs_sub (delM_sub M (hdP 0 lp ++ keyB e)); omega
   have := h.turn (N' := N) hk (Gr.refl _ _) hs ((h2.up (Nat.le_succ c)).del (keyB e)) hlo
   unfold addI
   rw [if_pos hz]
   exact this
  cases a with
  | false =>
   by_cases hz : cntI l (keyB e) + 1 = 0
   ·refine (iadd_old_more_zero h.x h.nxO h.okp h1 e hr ho hd hg (by omega) hz).mono ?_
    rintro r w' ⟨rfl, g1, g2⟩
    exact ⟨O, N, by show _ = Ending.returned (.tuple #[_, .int .i64 (cntI l (keyB e) + 1), _]); rw [hz], Nat.le_succ N, hdel hz g1 g2, g2, Gr.refl _ _⟩
   ·refine (iadd_old_more h.x h.nxO h.okp h1 e hr ho hd hg (by omega) hz hroom).mono ?_
    rintro r w' ⟨rfl, O', g1, g2, g3⟩
    exact ⟨O', N + 1, rfl, Nat.le_refl _, hset hz rfl g1 g2 g3, g2, g3⟩
  | true =>
   by_cases hz : cntI l (keyB e) - 1 = 0
   ·refine (iadd_old_less_zero h.x h.nxO h.okp h1 e hr ho hd hg (by omega) hz).mono ?_
    rintro r w' ⟨rfl, g1, g2⟩
    exact ⟨O, N, by show _ = Ending.returned (.tuple #[_, .int .i64 (cntI l (keyB e) + -1), _]); rw [show cntI l (keyB e) + -1 = 0 by omega], Nat.le_succ N, hdel hz g1 g2, g2, Gr.refl _ _⟩
   ·refine (iadd_old_less h.x h.nxO h.okp h1 e hr ho hd hg (by omega) hz hroom).mono ?_
    rintro r w' ⟨rfl, O', g1, g2, g3⟩
    exact ⟨O', N + 1, rfl, Nat.le_refl _, hset hz rfl g1 g2 g3, g2, g3⟩
end
end
end Go.Proofs.YtnnghcooidjlhaaGreat
