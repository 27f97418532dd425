/- Parts of the proof: Zyb. -/
import Derived.Test.YtnnghcooidjlhaaGreatE39
set_option linter.all false
set_option maxRecDepth 100000
namespace Go.Proofs.YtnnghcooidjlhaaGreat
section
open Go.RowKit Go.Lib
set_option maxHeartbeats 16000000 in
theorem do24_put_ab {w W : World} {tb xb yb : Nat} {s : SL} {n k : Nat} {p1 : Option Addr} {n1 c1 : Nat} {p0 : Option Addr} {n0 c0 : Nat} {la lb : List It} (h : MvD w W tb xb yb s n k (.slice p1 n1 c1) (.slice p0 n0 c0) [] [(.slice p1 n1 c1, la), (.slice p0 n0 c0, lb)] la lb) (hn1 : n1 = la.length) (hn0 : n0 = lb.length) (hk : k ≤ 100) (hr : ∀ N L, N ≤ n → L ≤ k → roomO N L) (kd : Int) (x : It) (fr to : Bs) (hxo : x.e.ok ∧ x.c.length < 9223372036854775807) (hkd : kd = 0 ∨ kd = 1 ∨ kd = 2 ∨ kd = 3) :
  Calls Tryz.prog 42 #[.pointer (some ⟨tb, 0, none⟩), ac24 kd false x fr to] W fun r w' => DoQ w tb xb yb s (n + 1) (k + 1) r w' := by
 unfold ac24
 obtain ⟨W1, hW1⟩ : ∃ W1, W1 = W.alloc (.cells #[.int .i64 kd, .bool false, .string (S x.c), .int .i64 x.k, .float .f64 x.e.t, .int .i64 x.e.src, .int .i64 x.e.n, .int .i64 x.e.dst, .int .i64 x.e.pay, .string (S fr), .string (S to)] 84) := ⟨_, rfl⟩
 have hb1 : Below W.heap.size W W1 := by rw [hW1]; exact (Below.refl _ W).alloc (Nat.le_refl _) _
 have hM1 := h.box 84 #[.int .i64 kd, .bool false, .string (S x.c), .int .i64 x.k, .float .f64 x.e.t, .int .i64 x.e.src, .int .i64 x.e.n, .int .i64 x.e.dst, .int .i64 x.e.pay, .string (S fr), .string (S to)]
 rw [← hW1] at hM1
 have HM1 := hid hM1
 have HCT : Hid (∀ W', BelC W1 W' → W'.cell? ⟨tb, 0, none⟩ = some (.pointer (some ⟨xb, 0, none⟩)) ∧ W'.cell? ⟨tb, 1, none⟩ = some (.pointer (some ⟨yb, 0, none⟩))) := hid fun W' hW => by
  have q := hW.blk HM1.out.t
  exact ⟨q.cell 0, q.cell 1⟩
 have HX := hid (⟨hW1, hb1, hn1, hn0, hk⟩ : _ ∧ _ ∧ _ ∧ _ ∧ _)
 have HOK := hid h.ok
 have HKD := hid hkd
 have HR := hid hr
 have HXO := hid hxo
 have HIT := hid (fun W => item24_any x W)
 have HRI := hid (fun W => right24_any x W)
 unfold itV at HIT HRI
 clear h hM1 hW1 hb1 hn1 hn0 hk hkd hr hxo
 go_enter Tryz.func42, Tryz.ntmps42
 go_wp2
 rw [← HX.out.1]
 refine qC_region (by kernel_rfl) (by kernel_rfl) (BelC W1) (BelC.drew W1) ?_
 repeat (first | (refine qC_none rfl (fun K hK => ?_); apply Exists.intro; refine ⟨fun w0 hw0 => ?_, ?_⟩; (focus (obtain ⟨q0, q1⟩ := HCT.out w0 hw0; go_simp; first | exact rfl | exact ⟨rfl, rfl⟩ | (fail))); go_simp; refine hK _ ?_; clear hK K) | (refine qC_yes _ _ _ rfl rfl (by rfl) (fun K hK => ?_); apply Exists.intro; refine ⟨fun w0 hw0 => ?_, ?_⟩; (focus (obtain ⟨q0, q1⟩ := HCT.out w0 hw0; go_simp; first | exact rfl | exact ⟨rfl, rfl⟩ | (fail))); go_simp; refine hK _ ?_; clear hK K) | (refine qC_no _ _ _ rfl rfl (by rfl) (fun K hK => ?_); go_simp; refine hK _ ?_; clear hK K) | (refine qC_undef _ _ _ rfl rfl (by rfl) (fun K hK => ?_); go_simp; refine hK _ ?_; clear hK K))
 refine qC_nil ?_
 intro w2 hw2
 have HM2 := hid (HM1.out.below hw2.out)
 obtain ⟨t0, t1⟩ := HCT.out w2 hw2
 have hBx := HM2.out.blk (z := (W.heap.size, 84, (#[.int .i64 kd, .bool false, .string (S x.c), .int .i64 x.k, .float .f64 x.e.t, .int .i64 x.e.src, .int .i64 x.e.n, .int .i64 x.e.dst, .int .i64 x.e.pay, .string (S fr), .string (S to)] : Array Value))) (by simp)
 have b0 : w2.cell? ⟨W.heap.size, 0, none⟩ = some (.int .i64 kd) := hBx.cell 0
 have b1 : w2.cell? ⟨W.heap.size, 1, none⟩ = some (.bool false) := hBx.cell 1
 have b2 : w2.cell? ⟨W.heap.size, 2, none⟩ = some (.string (S x.c)) := hBx.cell 2
 have b3 : w2.cell? ⟨W.heap.size, 3, none⟩ = some (.int .i64 x.k) := hBx.cell 3
 have b4 : w2.cell? ⟨W.heap.size, 4, none⟩ = some (.float .f64 x.e.t) := hBx.cell 4
 have b5 : w2.cell? ⟨W.heap.size, 5, none⟩ = some (.int .i64 x.e.src) := hBx.cell 5
 have b6 : w2.cell? ⟨W.heap.size, 6, none⟩ = some (.int .i64 x.e.n) := hBx.cell 6
 have b7 : w2.cell? ⟨W.heap.size, 7, none⟩ = some (.int .i64 x.e.dst) := hBx.cell 7
 have b8 : w2.cell? ⟨W.heap.size, 8, none⟩ = some (.int .i64 x.e.pay) := hBx.cell 8
 have b9 : w2.cell? ⟨W.heap.size, 9, none⟩ = some (.string (S fr)) := hBx.cell 9
 have b10 : w2.cell? ⟨W.heap.size, 10, none⟩ = some (.string (S to)) := hBx.cell 10
 clear hw2 hBx
 by_cases hR : x.right
 case neg =>
  have HPU := hid (fun W => oput_no ⟨xb, 0, none⟩ x HXO.out.2 HXO.out.1 hR W)
  unfold itV at HPU
  rw [decide_eq_false hR] at HRI
  clear hR
  rcases HKD.out with hkd | hkd | hkd | hkd
  all_goals
   go_wp2_with fail
   (with_reducible refine (HIT.out _).mono ?_)
   rintro r W3 ⟨rfl, hb3⟩
   have HM3 := hid (HM2.out.below hb3)
   clear hb3 t0 t1 b0 b1 b2 b3 b4 b5 b6 b7 b8 b9 b10
   go_wp2_with fail
   (with_reducible refine (HPU.out _).mono ?_)
   rintro r W4 ⟨rfl, hb4⟩
   have HM4 := hid (HM3.out.below hb4)
   have hBx := HM4.out.blk (z := (W.heap.size, 84, (#[.int .i64 kd, .bool false, .string (S x.c), .int .i64 x.k, .float .f64 x.e.t, .int .i64 x.e.src, .int .i64 x.e.n, .int .i64 x.e.dst, .int .i64 x.e.pay, .string (S fr), .string (S to)] : Array Value))) (by simp)
   have d2 : W4.cell? ⟨W.heap.size, 2, none⟩ = some (.string (S x.c)) := hBx.cell 2
   have d3 : W4.cell? ⟨W.heap.size, 3, none⟩ = some (.int .i64 x.k) := hBx.cell 3
   have d4 : W4.cell? ⟨W.heap.size, 4, none⟩ = some (.float .f64 x.e.t) := hBx.cell 4
   have d5 : W4.cell? ⟨W.heap.size, 5, none⟩ = some (.int .i64 x.e.src) := hBx.cell 5
   have d6 : W4.cell? ⟨W.heap.size, 6, none⟩ = some (.int .i64 x.e.n) := hBx.cell 6
   have d7 : W4.cell? ⟨W.heap.size, 7, none⟩ = some (.int .i64 x.e.dst) := hBx.cell 7
   have d8 : W4.cell? ⟨W.heap.size, 8, none⟩ = some (.int .i64 x.e.pay) := hBx.cell 8
   clear hb4 hBx
   go_wp2_with fail
   (with_reducible refine (HRI.out _).mono ?_)
   rintro r W5 ⟨rfl, hb5⟩
   have HM5 := hid (HM4.out.below hb5)
   clear hb5 d2 d3 d4 d5 d6 d7 d8
   go_wp2
   go_ret
   exact ⟨rfl, p1, n1, c1, p0, n0, c0, la, lb, HX.out.2.2.1, HX.out.2.2.2.1, (HM5.out.nobox).up (Nat.le_succ _) (Nat.le_succ _)⟩
 case pos =>
  rw [decide_eq_true hR] at HRI
  have HRR := hid hR
  clear hR
  rcases HKD.out with hkd | hkd | hkd | hkd
  all_goals
   go_wp2_with fail
   (with_reducible refine (HIT.out _).mono ?_)
   rintro r W3 ⟨rfl, hb3⟩
   have hP := mvD_put (HM2.out.below hb3) HR.out x HRR.out HXO.out.1
   unfold itV at hP
   have HP := hid hP
   clear hb3 hP t0 t1 b0 b1 b2 b3 b4 b5 b6 b7 b8 b9 b10
   go_wp2_with fail
   (with_reducible refine HP.out.mono ?_)
   rintro r W4 ⟨rfl, hM4⟩
   have HM4 := hid hM4
   have hBx := HM4.out.blk (z := (W.heap.size, 84, (#[.int .i64 kd, .bool false, .string (S x.c), .int .i64 x.k, .float .f64 x.e.t, .int .i64 x.e.src, .int .i64 x.e.n, .int .i64 x.e.dst, .int .i64 x.e.pay, .string (S fr), .string (S to)] : Array Value))) (by simp)
   have d2 : W4.cell? ⟨W.heap.size, 2, none⟩ = some (.string (S x.c)) := hBx.cell 2
   have d3 : W4.cell? ⟨W.heap.size, 3, none⟩ = some (.int .i64 x.k) := hBx.cell 3
   have d4 : W4.cell? ⟨W.heap.size, 4, none⟩ = some (.float .f64 x.e.t) := hBx.cell 4
   have d5 : W4.cell? ⟨W.heap.size, 5, none⟩ = some (.int .i64 x.e.src) := hBx.cell 5
   have d6 : W4.cell? ⟨W.heap.size, 6, none⟩ = some (.int .i64 x.e.n) := hBx.cell 6
   have d7 : W4.cell? ⟨W.heap.size, 7, none⟩ = some (.int .i64 x.e.dst) := hBx.cell 7
   have d8 : W4.cell? ⟨W.heap.size, 8, none⟩ = some (.int .i64 x.e.pay) := hBx.cell 8
   clear hM4 hBx
   go_wp2_with fail
   (with_reducible refine (HRI.out _).mono ?_)
   rintro r W5 ⟨rfl, hb5⟩
   have HM5 := hid (HM4.out.below hb5)
   have hBx := HM5.out.blk (z := (W.heap.size, 84, (#[.int .i64 kd, .bool false, .string (S x.c), .int .i64 x.k, .float .f64 x.e.t, .int .i64 x.e.src, .int .i64 x.e.n, .int .i64 x.e.dst, .int .i64 x.e.pay, .string (S fr), .string (S to)] : Array Value))) (by simp)
   clear hb5 d2 d3 d4 d5 d6 d7 d8
   have e2 : W5.cell? ⟨W.heap.size, 2, none⟩ = some (.string (S x.c)) := hBx.cell 2
   have e3 : W5.cell? ⟨W.heap.size, 3, none⟩ = some (.int .i64 x.k) := hBx.cell 3
   have e4 : W5.cell? ⟨W.heap.size, 4, none⟩ = some (.float .f64 x.e.t) := hBx.cell 4
   have e5 : W5.cell? ⟨W.heap.size, 5, none⟩ = some (.int .i64 x.e.src) := hBx.cell 5
   have e6 : W5.cell? ⟨W.heap.size, 6, none⟩ = some (.int .i64 x.e.n) := hBx.cell 6
   have e7 : W5.cell? ⟨W.heap.size, 7, none⟩ = some (.int .i64 x.e.dst) := hBx.cell 7
   have e8 : W5.cell? ⟨W.heap.size, 8, none⟩ = some (.int .i64 x.e.pay) := hBx.cell 8
   have dt : W5.cell? ⟨tb, 2, none⟩ = some (.slice p1 n1 c1) := HM5.out.t.cell 2
   have hPT := put24_any ((HM5.out.vw (z := ((.slice p1 n1 c1), la)) (by simp)).below (below_drewN (Below.refl W5.heap.size W5) 1)) HX.out.2.2.1 (by have h3 := HX.out.2.2.1; have h4 := HOK.out.2.2.1; have h5 := HX.out.2.2.2.2; omega) x HXO.out.1
   rw [put24_right HOK.out.2.2.2.2.1 (fun y hy => (HOK.out.1 y hy).1.1) HRR.out] at hPT
   unfold itV at hPT
   have HPT := hid hPT
   clear hBx hPT
   have HKP : Hid (∀ W', Below W5.drew.heap.size W5.drew W' → (W'.cell? ⟨W.heap.size, 2, none⟩ = some (.string (S x.c)) ∧ W'.cell? ⟨W.heap.size, 3, none⟩ = some (.int .i64 x.k) ∧ W'.cell? ⟨W.heap.size, 4, none⟩ = some (.float .f64 x.e.t) ∧ W'.cell? ⟨W.heap.size, 5, none⟩ = some (.int .i64 x.e.src) ∧ W'.cell? ⟨W.heap.size, 6, none⟩ = some (.int .i64 x.e.n) ∧ W'.cell? ⟨W.heap.size, 7, none⟩ = some (.int .i64 x.e.dst) ∧ W'.cell? ⟨W.heap.size, 8, none⟩ = some (.int .i64 x.e.pay)) ∧ ∀ u, ((W'.setCell ⟨tb, 2, none⟩ u).cell? ⟨W.heap.size, 2, none⟩ = some (.string (S x.c)) ∧ (W'.setCell ⟨tb, 2, none⟩ u).cell? ⟨W.heap.size, 3, none⟩ = some (.int .i64 x.k) ∧ (W'.setCell ⟨tb, 2, none⟩ u).cell? ⟨W.heap.size, 4, none⟩ = some (.float .f64 x.e.t) ∧ (W'.setCell ⟨tb, 2, none⟩ u).cell? ⟨W.heap.size, 5, none⟩ = some (.int .i64 x.e.src) ∧ (W'.setCell ⟨tb, 2, none⟩ u).cell? ⟨W.heap.size, 6, none⟩ = some (.int .i64 x.e.n) ∧ (W'.setCell ⟨tb, 2, none⟩ u).cell? ⟨W.heap.size, 7, none⟩ = some (.int .i64 x.e.dst) ∧ (W'.setCell ⟨tb, 2, none⟩ u).cell? ⟨W.heap.size, 8, none⟩ = some (.int .i64 x.e.pay))) := hid fun W' hb => by
    have h := HM5.out.below ((below_drewN (Below.refl W5.heap.size W5) 1).trans hb)
    have h1 := h.blk (z := (W.heap.size, 84, (#[.int .i64 kd, .bool false, .string (S x.c), .int .i64 x.k, .float .f64 x.e.t, .int .i64 x.e.src, .int .i64 x.e.n, .int .i64 x.e.dst, .int .i64 x.e.pay, .string (S fr), .string (S to)] : Array Value))) (by simp)
    have h2 := fun u => (h.set2 u).blk (z := (W.heap.size, 84, (#[.int .i64 kd, .bool false, .string (S x.c), .int .i64 x.k, .float .f64 x.e.t, .int .i64 x.e.src, .int .i64 x.e.n, .int .i64 x.e.dst, .int .i64 x.e.pay, .string (S fr), .string (S to)] : Array Value))) (by simp)
    exact ⟨⟨h1.cell 2, h1.cell 3, h1.cell 4, h1.cell 5, h1.cell 6, h1.cell 7, h1.cell 8⟩, fun u => ⟨(h2 u).cell 2, (h2 u).cell 3, (h2 u).cell 4, (h2 u).cell 5, (h2 u).cell 6, (h2 u).cell 7, (h2 u).cell 8⟩⟩
   have HMA := hid (HM5.out.below (below_drewN (Below.refl W5.heap.size W5) 1))
   have hb0 := Below.refl W5.drew.heap.size W5.drew
   go_wp2
   refine wp_region_held_drew (S := (fun W' => W'.cell? ⟨W.heap.size, 2, none⟩ = some (.string (S x.c)) ∧ W'.cell? ⟨W.heap.size, 3, none⟩ = some (.int .i64 x.k) ∧ W'.cell? ⟨W.heap.size, 4, none⟩ = some (.float .f64 x.e.t) ∧ W'.cell? ⟨W.heap.size, 5, none⟩ = some (.int .i64 x.e.src) ∧ W'.cell? ⟨W.heap.size, 6, none⟩ = some (.int .i64 x.e.n) ∧ W'.cell? ⟨W.heap.size, 7, none⟩ = some (.int .i64 x.e.dst) ∧ W'.cell? ⟨W.heap.size, 8, none⟩ = some (.int .i64 x.e.pay))) (by kernel_rfl) (by exact ⟨e2, e3, e4, e5, e6, e7, e8⟩) (fun hHeld => ?_)
   refine hTk (i := 0) (v := ?_) (by (simp only [gEa, gEb, gEc]; try rfl)) (by kernel_rfl) ?_ (Or.inl ⟨by rfl, ?_⟩) hHeld ?_; rotate_left 2; (focus (intro wz hSw; (try dsimp only at hSw); go_simp; first | done | with_reducible rfl)); rotate_left; (focus exact fun _ _ _ h => h); (try simp only [Act.put, sEa, sEb, sEc]); refine hTk (i := 1) (v := ?_) (by (simp only [gEa, gEb, gEc]; try rfl)) (by kernel_rfl) ?_ (Or.inl ⟨by rfl, ?_⟩) hHeld ?_; rotate_left 2; (focus (intro wz hSw; (try dsimp only at hSw); go_simp; first | done | with_reducible rfl)); rotate_left; (focus exact fun _ _ _ h => h); (try simp only [Act.put, sEa, sEb, sEc]); refine hTk (i := 2) (v := ?_) (by (simp only [gEa, gEb, gEc]; try rfl)) (by kernel_rfl) ?_ (Or.inl ⟨by rfl, ?_⟩) hHeld ?_; rotate_left 2; (focus (intro wz hSw; (try dsimp only at hSw); go_simp; first | done | with_reducible rfl)); rotate_left; (focus exact fun _ _ _ h => h); (try simp only [Act.put, sEa, sEb, sEc]); refine hTk (i := 4) (v := ?_) (by (simp only [gEa, gEb, gEc]; try rfl)) (by kernel_rfl) ?_ (Or.inl ⟨by rfl, ?_⟩) hHeld ?_; rotate_left 2; (focus (intro wz hSw; (try dsimp only at hSw); go_simp; first | done | with_reducible rfl)); rotate_left; (focus exact fun _ _ _ h => h); (try simp only [Act.put, sEa, sEb, sEc]); refine hTk (i := 5) (v := ?_) (by (simp only [gEa, gEb, gEc]; try rfl)) (by kernel_rfl) ?_ (Or.inl ⟨by rfl, ?_⟩) hHeld ?_; rotate_left 2; (focus (intro wz hSw; (try dsimp only at hSw); go_simp; first | done | with_reducible rfl)); rotate_left; (focus exact fun _ _ _ h => h); (try simp only [Act.put, sEa, sEb, sEc]); refine wpAnyH_ready (rs := [3]) (by kernel_rfl) (by simp) ?_; refine AllReadyH.cons (by (simp only [gEa, gEb, gEc]; try rfl)) (fun K hK => ?_) AllReadyH.nil; go_simp; refine hK.out _ _ (by first | exact (HKP.out _ hb6).2 _ | exact (HKP.out _ hb6).1 | exact (HKP.out _ hb0).1) (fun hHeld => ?_); clear hK K; (try simp only [Act.put, sEa, sEb, sEc]); refine wpAnyH_ready (rs := [6]) (by kernel_rfl) (by simp) ?_; refine AllReadyH.cons (by (simp only [gEa, gEb, gEc]; try rfl)) (fun K hK => ?_) AllReadyH.nil; go_simp; (go_at_call 36; refine HPT.out.mono ?_; rintro r W6 ⟨v6, rfl, hO6, hb6⟩; (obtain ⟨n6, hn6⟩ : ∃ n6, n6 = (setO la x.nrm).length := ⟨_, rfl⟩); have HN6 := hid hn6; rw [← hn6] at hO6; obtain ⟨p6, c6, rfl⟩ := own_slice2 hO6; have HM6 := hid (HMA.out.add hb6 (by rw [← HN6.out]; exact hO6)); have hB6 := HM6.out.t; have dt6 := hB6.cell 2; have ef6 := hB6.frozen 2; have el6 := hB6.lt; clear hn6 hO6 hB6); refine hK.out _ _ (by first | exact (HKP.out _ hb6).2 _ | exact (HKP.out _ hb6).1 | exact (HKP.out _ hb0).1) (fun hHeld => ?_); clear hK K; (try simp only [Act.put, sEa, sEb, sEc]); refine hTk (i := 7) (v := ?_) (by (simp only [gEa, gEb, gEc]; try rfl)) (by kernel_rfl) ?_ (Or.inl ⟨by rfl, ?_⟩) hHeld ?_; rotate_left 2; (focus (intro wz hSw; (try dsimp only at hSw); go_simp; first | done | with_reducible rfl)); rotate_left; (focus exact fun _ _ _ h => h); (try simp only [Act.put, sEa, sEb, sEc]); refine wpAnyH_ready (rs := [8]) (by kernel_rfl) (by simp) ?_; refine AllReadyH.cons (by (simp only [gEa, gEb, gEc]; try rfl)) (fun K hK => ?_) AllReadyH.nil; go_simp; refine hK.out _ _ (by first | exact (HKP.out _ hb6).2 _ | exact (HKP.out _ hb6).1 | exact (HKP.out _ hb0).1) (fun hHeld => ?_); clear hK K; (try simp only [Act.put, sEa, sEb, sEc])
   refine wpAnyH_done (by kernel_rfl) ?_ _
   go_wp2
   go_ret
   exact ⟨rfl, p6, n6, c6, p0, n0, c0, setO la x.nrm, lb, HN6.out, HX.out.2.2.2.1, ((HM6.out.set2 _).nobox).sub (fun z hz => by simp only [List.mem_cons, List.mem_nil_iff, or_false] at hz ⊢; rcases hz with rfl | rfl <;> simp)⟩
set_option maxHeartbeats 16000000 in
theorem do24_put_ba {w W : World} {tb xb yb : Nat} {s : SL} {n k : Nat} {p1 : Option Addr} {n1 c1 : Nat} {p0 : Option Addr} {n0 c0 : Nat} {la lb : List It} (h : MvD w W tb xb yb s n k (.slice p1 n1 c1) (.slice p0 n0 c0) [] [(.slice p1 n1 c1, la), (.slice p0 n0 c0, lb)] la lb) (hn1 : n1 = la.length) (hn0 : n0 = lb.length) (hk : k ≤ 100) (hr : ∀ N L, N ≤ n → L ≤ k → roomO N L) (kd : Int) (x : It) (fr to : Bs) (hxo : x.e.ok ∧ x.c.length < 9223372036854775807) (hkd : kd = 0 ∨ kd = 1 ∨ kd = 2 ∨ kd = 3) :
  Calls Tryz.prog 42 #[.pointer (some ⟨tb, 0, none⟩), ac24 kd true x fr to] W fun r w' => DoQ w tb xb yb s (n + 1) (k + 1) r w' := by
 unfold ac24
 obtain ⟨W1, hW1⟩ : ∃ W1, W1 = W.alloc (.cells #[.int .i64 kd, .bool true, .string (S x.c), .int .i64 x.k, .float .f64 x.e.t, .int .i64 x.e.src, .int .i64 x.e.n, .int .i64 x.e.dst, .int .i64 x.e.pay, .string (S fr), .string (S to)] 84) := ⟨_, rfl⟩
 have hb1 : Below W.heap.size W W1 := by rw [hW1]; exact (Below.refl _ W).alloc (Nat.le_refl _) _
 have hM1 := h.box 84 #[.int .i64 kd, .bool true, .string (S x.c), .int .i64 x.k, .float .f64 x.e.t, .int .i64 x.e.src, .int .i64 x.e.n, .int .i64 x.e.dst, .int .i64 x.e.pay, .string (S fr), .string (S to)]
 rw [← hW1] at hM1
 have HM1 := hid hM1
 have HCT : Hid (∀ W', BelC W1 W' → W'.cell? ⟨tb, 0, none⟩ = some (.pointer (some ⟨xb, 0, none⟩)) ∧ W'.cell? ⟨tb, 1, none⟩ = some (.pointer (some ⟨yb, 0, none⟩))) := hid fun W' hW => by
  have q := hW.blk HM1.out.t
  exact ⟨q.cell 0, q.cell 1⟩
 have HX := hid (⟨hW1, hb1, hn1, hn0, hk⟩ : _ ∧ _ ∧ _ ∧ _ ∧ _)
 have HOK := hid h.ok
 have HKD := hid hkd
 have HR := hid hr
 have HXO := hid hxo
 have HIT := hid (fun W => item24_any x W)
 have HRI := hid (fun W => right24_any x W)
 unfold itV at HIT HRI
 clear h hM1 hW1 hb1 hn1 hn0 hk hkd hr hxo
 go_enter Tryz.func42, Tryz.ntmps42
 go_wp2
 rw [← HX.out.1]
 refine qC_region (by kernel_rfl) (by kernel_rfl) (BelC W1) (BelC.drew W1) ?_
 repeat (first | (refine qC_none rfl (fun K hK => ?_); apply Exists.intro; refine ⟨fun w0 hw0 => ?_, ?_⟩; (focus (obtain ⟨q0, q1⟩ := HCT.out w0 hw0; go_simp; first | exact rfl | exact ⟨rfl, rfl⟩ | (fail))); go_simp; refine hK _ ?_; clear hK K) | (refine qC_yes _ _ _ rfl rfl (by rfl) (fun K hK => ?_); apply Exists.intro; refine ⟨fun w0 hw0 => ?_, ?_⟩; (focus (obtain ⟨q0, q1⟩ := HCT.out w0 hw0; go_simp; first | exact rfl | exact ⟨rfl, rfl⟩ | (fail))); go_simp; refine hK _ ?_; clear hK K) | (refine qC_no _ _ _ rfl rfl (by rfl) (fun K hK => ?_); go_simp; refine hK _ ?_; clear hK K) | (refine qC_undef _ _ _ rfl rfl (by rfl) (fun K hK => ?_); go_simp; refine hK _ ?_; clear hK K))
 refine qC_nil ?_
 intro w2 hw2
 have HM2 := hid (HM1.out.below hw2.out)
 obtain ⟨t0, t1⟩ := HCT.out w2 hw2
 have hBx := HM2.out.blk (z := (W.heap.size, 84, (#[.int .i64 kd, .bool true, .string (S x.c), .int .i64 x.k, .float .f64 x.e.t, .int .i64 x.e.src, .int .i64 x.e.n, .int .i64 x.e.dst, .int .i64 x.e.pay, .string (S fr), .string (S to)] : Array Value))) (by simp)
 have b0 : w2.cell? ⟨W.heap.size, 0, none⟩ = some (.int .i64 kd) := hBx.cell 0
 have b1 : w2.cell? ⟨W.heap.size, 1, none⟩ = some (.bool true) := hBx.cell 1
 have b2 : w2.cell? ⟨W.heap.size, 2, none⟩ = some (.string (S x.c)) := hBx.cell 2
 have b3 : w2.cell? ⟨W.heap.size, 3, none⟩ = some (.int .i64 x.k) := hBx.cell 3
 have b4 : w2.cell? ⟨W.heap.size, 4, none⟩ = some (.float .f64 x.e.t) := hBx.cell 4
 have b5 : w2.cell? ⟨W.heap.size, 5, none⟩ = some (.int .i64 x.e.src) := hBx.cell 5
 have b6 : w2.cell? ⟨W.heap.size, 6, none⟩ = some (.int .i64 x.e.n) := hBx.cell 6
 have b7 : w2.cell? ⟨W.heap.size, 7, none⟩ = some (.int .i64 x.e.dst) := hBx.cell 7
 have b8 : w2.cell? ⟨W.heap.size, 8, none⟩ = some (.int .i64 x.e.pay) := hBx.cell 8
 have b9 : w2.cell? ⟨W.heap.size, 9, none⟩ = some (.string (S fr)) := hBx.cell 9
 have b10 : w2.cell? ⟨W.heap.size, 10, none⟩ = some (.string (S to)) := hBx.cell 10
 clear hw2 hBx
 by_cases hR : x.right
 case neg =>
  have HPU := hid (fun W => oput_no ⟨yb, 0, none⟩ x HXO.out.2 HXO.out.1 hR W)
  unfold itV at HPU
  rw [decide_eq_false hR] at HRI
  clear hR
  rcases HKD.out with hkd | hkd | hkd | hkd
  all_goals
   go_wp2_with fail
   (with_reducible refine (HIT.out _).mono ?_)
   rintro r W3 ⟨rfl, hb3⟩
   have HM3 := hid (HM2.out.below hb3)
   clear hb3 t0 t1 b0 b1 b2 b3 b4 b5 b6 b7 b8 b9 b10
   go_wp2_with fail
   (with_reducible refine (HPU.out _).mono ?_)
   rintro r W4 ⟨rfl, hb4⟩
   have HM4 := hid (HM3.out.below hb4)
   have hBx := HM4.out.blk (z := (W.heap.size, 84, (#[.int .i64 kd, .bool true, .string (S x.c), .int .i64 x.k, .float .f64 x.e.t, .int .i64 x.e.src, .int .i64 x.e.n, .int .i64 x.e.dst, .int .i64 x.e.pay, .string (S fr), .string (S to)] : Array Value))) (by simp)
   have d2 : W4.cell? ⟨W.heap.size, 2, none⟩ = some (.string (S x.c)) := hBx.cell 2
   have d3 : W4.cell? ⟨W.heap.size, 3, none⟩ = some (.int .i64 x.k) := hBx.cell 3
   have d4 : W4.cell? ⟨W.heap.size, 4, none⟩ = some (.float .f64 x.e.t) := hBx.cell 4
   have d5 : W4.cell? ⟨W.heap.size, 5, none⟩ = some (.int .i64 x.e.src) := hBx.cell 5
   have d6 : W4.cell? ⟨W.heap.size, 6, none⟩ = some (.int .i64 x.e.n) := hBx.cell 6
   have d7 : W4.cell? ⟨W.heap.size, 7, none⟩ = some (.int .i64 x.e.dst) := hBx.cell 7
   have d8 : W4.cell? ⟨W.heap.size, 8, none⟩ = some (.int .i64 x.e.pay) := hBx.cell 8
   clear hb4 hBx
   go_wp2_with fail
   (with_reducible refine (HRI.out _).mono ?_)
   rintro r W5 ⟨rfl, hb5⟩
   have HM5 := hid (HM4.out.below hb5)
   clear hb5 d2 d3 d4 d5 d6 d7 d8
   go_wp2
   go_ret
   exact ⟨rfl, p1, n1, c1, p0, n0, c0, la, lb, HX.out.2.2.1, HX.out.2.2.2.1, (HM5.out.nobox).up (Nat.le_succ _) (Nat.le_succ _)⟩
 case pos =>
  rw [decide_eq_true hR] at HRI
  have HRR := hid hR
  clear hR
  rcases HKD.out with hkd | hkd | hkd | hkd
  all_goals
   go_wp2_with fail
   (with_reducible refine (HIT.out _).mono ?_)
   rintro r W3 ⟨rfl, hb3⟩
   have hP := mvD_putb (HM2.out.below hb3) HR.out x HRR.out HXO.out.1
   unfold itV at hP
   have HP := hid hP
   clear hb3 hP t0 t1 b0 b1 b2 b3 b4 b5 b6 b7 b8 b9 b10
   go_wp2_with fail
   (with_reducible refine HP.out.mono ?_)
   rintro r W4 ⟨rfl, hM4⟩
   have HM4 := hid hM4
   have hBx := HM4.out.blk (z := (W.heap.size, 84, (#[.int .i64 kd, .bool true, .string (S x.c), .int .i64 x.k, .float .f64 x.e.t, .int .i64 x.e.src, .int .i64 x.e.n, .int .i64 x.e.dst, .int .i64 x.e.pay, .string (S fr), .string (S to)] : Array Value))) (by simp)
   have d2 : W4.cell? ⟨W.heap.size, 2, none⟩ = some (.string (S x.c)) := hBx.cell 2
   have d3 : W4.cell? ⟨W.heap.size, 3, none⟩ = some (.int .i64 x.k) := hBx.cell 3
   have d4 : W4.cell? ⟨W.heap.size, 4, none⟩ = some (.float .f64 x.e.t) := hBx.cell 4
   have d5 : W4.cell? ⟨W.heap.size, 5, none⟩ = some (.int .i64 x.e.src) := hBx.cell 5
   have d6 : W4.cell? ⟨W.heap.size, 6, none⟩ = some (.int .i64 x.e.n) := hBx.cell 6
   have d7 : W4.cell? ⟨W.heap.size, 7, none⟩ = some (.int .i64 x.e.dst) := hBx.cell 7
   have d8 : W4.cell? ⟨W.heap.size, 8, none⟩ = some (.int .i64 x.e.pay) := hBx.cell 8
   clear hM4 hBx
   go_wp2_with fail
   (with_reducible refine (HRI.out _).mono ?_)
   rintro r W5 ⟨rfl, hb5⟩
   have HM5 := hid (HM4.out.below hb5)
   have hBx := HM5.out.blk (z := (W.heap.size, 84, (#[.int .i64 kd, .bool true, .string (S x.c), .int .i64 x.k, .float .f64 x.e.t, .int .i64 x.e.src, .int .i64 x.e.n, .int .i64 x.e.dst, .int .i64 x.e.pay, .string (S fr), .string (S to)] : Array Value))) (by simp)
   clear hb5 d2 d3 d4 d5 d6 d7 d8
   have e2 : W5.cell? ⟨W.heap.size, 2, none⟩ = some (.string (S x.c)) := hBx.cell 2
   have e3 : W5.cell? ⟨W.heap.size, 3, none⟩ = some (.int .i64 x.k) := hBx.cell 3
   have e4 : W5.cell? ⟨W.heap.size, 4, none⟩ = some (.float .f64 x.e.t) := hBx.cell 4
   have e5 : W5.cell? ⟨W.heap.size, 5, none⟩ = some (.int .i64 x.e.src) := hBx.cell 5
   have e6 : W5.cell? ⟨W.heap.size, 6, none⟩ = some (.int .i64 x.e.n) := hBx.cell 6
   have e7 : W5.cell? ⟨W.heap.size, 7, none⟩ = some (.int .i64 x.e.dst) := hBx.cell 7
   have e8 : W5.cell? ⟨W.heap.size, 8, none⟩ = some (.int .i64 x.e.pay) := hBx.cell 8
   have dt : W5.cell? ⟨tb, 3, none⟩ = some (.slice p0 n0 c0) := HM5.out.t.cell 3
   have hPT := put24_any ((HM5.out.vw (z := ((.slice p0 n0 c0), lb)) (by simp)).below (below_drewN (Below.refl W5.heap.size W5) 1)) HX.out.2.2.2.1 (by have h3 := HX.out.2.2.2.1; have h4 := HOK.out.2.2.2.1; have h5 := HX.out.2.2.2.2; omega) x HXO.out.1
   rw [put24_right HOK.out.2.2.2.2.2 (fun y hy => (HOK.out.2.1 y hy).1.1) HRR.out] at hPT
   unfold itV at hPT
   have HPT := hid hPT
   clear hBx hPT
   have HKP : Hid (∀ W', Below W5.drew.heap.size W5.drew W' → (W'.cell? ⟨W.heap.size, 2, none⟩ = some (.string (S x.c)) ∧ W'.cell? ⟨W.heap.size, 3, none⟩ = some (.int .i64 x.k) ∧ W'.cell? ⟨W.heap.size, 4, none⟩ = some (.float .f64 x.e.t) ∧ W'.cell? ⟨W.heap.size, 5, none⟩ = some (.int .i64 x.e.src) ∧ W'.cell? ⟨W.heap.size, 6, none⟩ = some (.int .i64 x.e.n) ∧ W'.cell? ⟨W.heap.size, 7, none⟩ = some (.int .i64 x.e.dst) ∧ W'.cell? ⟨W.heap.size, 8, none⟩ = some (.int .i64 x.e.pay)) ∧ ∀ u, ((W'.setCell ⟨tb, 3, none⟩ u).cell? ⟨W.heap.size, 2, none⟩ = some (.string (S x.c)) ∧ (W'.setCell ⟨tb, 3, none⟩ u).cell? ⟨W.heap.size, 3, none⟩ = some (.int .i64 x.k) ∧ (W'.setCell ⟨tb, 3, none⟩ u).cell? ⟨W.heap.size, 4, none⟩ = some (.float .f64 x.e.t) ∧ (W'.setCell ⟨tb, 3, none⟩ u).cell? ⟨W.heap.size, 5, none⟩ = some (.int .i64 x.e.src) ∧ (W'.setCell ⟨tb, 3, none⟩ u).cell? ⟨W.heap.size, 6, none⟩ = some (.int .i64 x.e.n) ∧ (W'.setCell ⟨tb, 3, none⟩ u).cell? ⟨W.heap.size, 7, none⟩ = some (.int .i64 x.e.dst) ∧ (W'.setCell ⟨tb, 3, none⟩ u).cell? ⟨W.heap.size, 8, none⟩ = some (.int .i64 x.e.pay))) := hid fun W' hb => by
    have h := HM5.out.below ((below_drewN (Below.refl W5.heap.size W5) 1).trans hb)
    have h1 := h.blk (z := (W.heap.size, 84, (#[.int .i64 kd, .bool true, .string (S x.c), .int .i64 x.k, .float .f64 x.e.t, .int .i64 x.e.src, .int .i64 x.e.n, .int .i64 x.e.dst, .int .i64 x.e.pay, .string (S fr), .string (S to)] : Array Value))) (by simp)
    have h2 := fun u => (h.set3 u).blk (z := (W.heap.size, 84, (#[.int .i64 kd, .bool true, .string (S x.c), .int .i64 x.k, .float .f64 x.e.t, .int .i64 x.e.src, .int .i64 x.e.n, .int .i64 x.e.dst, .int .i64 x.e.pay, .string (S fr), .string (S to)] : Array Value))) (by simp)
    exact ⟨⟨h1.cell 2, h1.cell 3, h1.cell 4, h1.cell 5, h1.cell 6, h1.cell 7, h1.cell 8⟩, fun u => ⟨(h2 u).cell 2, (h2 u).cell 3, (h2 u).cell 4, (h2 u).cell 5, (h2 u).cell 6, (h2 u).cell 7, (h2 u).cell 8⟩⟩
   have HMA := hid (HM5.out.below (below_drewN (Below.refl W5.heap.size W5) 1))
   have hb0 := Below.refl W5.drew.heap.size W5.drew
   go_wp2
   refine wp_region_held_drew (S := (fun W' => W'.cell? ⟨W.heap.size, 2, none⟩ = some (.string (S x.c)) ∧ W'.cell? ⟨W.heap.size, 3, none⟩ = some (.int .i64 x.k) ∧ W'.cell? ⟨W.heap.size, 4, none⟩ = some (.float .f64 x.e.t) ∧ W'.cell? ⟨W.heap.size, 5, none⟩ = some (.int .i64 x.e.src) ∧ W'.cell? ⟨W.heap.size, 6, none⟩ = some (.int .i64 x.e.n) ∧ W'.cell? ⟨W.heap.size, 7, none⟩ = some (.int .i64 x.e.dst) ∧ W'.cell? ⟨W.heap.size, 8, none⟩ = some (.int .i64 x.e.pay))) (by kernel_rfl) (by exact ⟨e2, e3, e4, e5, e6, e7, e8⟩) (fun hHeld => ?_)
   refine hTk (i := 0) (v := ?_) (by (simp only [gEa, gEb, gEc]; try rfl)) (by kernel_rfl) ?_ (Or.inl ⟨by rfl, ?_⟩) hHeld ?_; rotate_left 2; (focus (intro wz hSw; (try dsimp only at hSw); go_simp; first | done | with_reducible rfl)); rotate_left; (focus exact fun _ _ _ h => h); (try simp only [Act.put, sEa, sEb, sEc]); refine hTk (i := 1) (v := ?_) (by (simp only [gEa, gEb, gEc]; try rfl)) (by kernel_rfl) ?_ (Or.inl ⟨by rfl, ?_⟩) hHeld ?_; rotate_left 2; (focus (intro wz hSw; (try dsimp only at hSw); go_simp; first | done | with_reducible rfl)); rotate_left; (focus exact fun _ _ _ h => h); (try simp only [Act.put, sEa, sEb, sEc]); refine hTk (i := 2) (v := ?_) (by (simp only [gEa, gEb, gEc]; try rfl)) (by kernel_rfl) ?_ (Or.inl ⟨by rfl, ?_⟩) hHeld ?_; rotate_left 2; (focus (intro wz hSw; (try dsimp only at hSw); go_simp; first | done | with_reducible rfl)); rotate_left; (focus exact fun _ _ _ h => h); (try simp only [Act.put, sEa, sEb, sEc]); refine hTk (i := 4) (v := ?_) (by (simp only [gEa, gEb, gEc]; try rfl)) (by kernel_rfl) ?_ (Or.inl ⟨by rfl, ?_⟩) hHeld ?_; rotate_left 2; (focus (intro wz hSw; (try dsimp only at hSw); go_simp; first | done | with_reducible rfl)); rotate_left; (focus exact fun _ _ _ h => h); (try simp only [Act.put, sEa, sEb, sEc]); refine hTk (i := 5) (v := ?_) (by (simp only [gEa, gEb, gEc]; try rfl)) (by kernel_rfl) ?_ (Or.inl ⟨by rfl, ?_⟩) hHeld ?_; rotate_left 2; (focus (intro wz hSw; (try dsimp only at hSw); go_simp; first | done | with_reducible rfl)); rotate_left; (focus exact fun _ _ _ h => h); (try simp only [Act.put, sEa, sEb, sEc]); refine wpAnyH_ready (rs := [3]) (by kernel_rfl) (by simp) ?_; refine AllReadyH.cons (by (simp only [gEa, gEb, gEc]; try rfl)) (fun K hK => ?_) AllReadyH.nil; go_simp; refine hK.out _ _ (by first | exact (HKP.out _ hb6).2 _ | exact (HKP.out _ hb6).1 | exact (HKP.out _ hb0).1) (fun hHeld => ?_); clear hK K; (try simp only [Act.put, sEa, sEb, sEc]); refine wpAnyH_ready (rs := [6]) (by kernel_rfl) (by simp) ?_; refine AllReadyH.cons (by (simp only [gEa, gEb, gEc]; try rfl)) (fun K hK => ?_) AllReadyH.nil; go_simp; (go_at_call 36; refine HPT.out.mono ?_; rintro r W6 ⟨v6, rfl, hO6, hb6⟩; (obtain ⟨n6, hn6⟩ : ∃ n6, n6 = (setO lb x.nrm).length := ⟨_, rfl⟩); have HN6 := hid hn6; rw [← hn6] at hO6; obtain ⟨p6, c6, rfl⟩ := own_slice2 hO6; have HM6 := hid (HMA.out.add hb6 (by rw [← HN6.out]; exact hO6)); have hB6 := HM6.out.t; have dt6 := hB6.cell 3; have ef6 := hB6.frozen 3; have el6 := hB6.lt; clear hn6 hO6 hB6); refine hK.out _ _ (by first | exact (HKP.out _ hb6).2 _ | exact (HKP.out _ hb6).1 | exact (HKP.out _ hb0).1) (fun hHeld => ?_); clear hK K; (try simp only [Act.put, sEa, sEb, sEc]); refine hTk (i := 7) (v := ?_) (by (simp only [gEa, gEb, gEc]; try rfl)) (by kernel_rfl) ?_ (Or.inl ⟨by rfl, ?_⟩) hHeld ?_; rotate_left 2; (focus (intro wz hSw; (try dsimp only at hSw); go_simp; first | done | with_reducible rfl)); rotate_left; (focus exact fun _ _ _ h => h); (try simp only [Act.put, sEa, sEb, sEc]); refine wpAnyH_ready (rs := [8]) (by kernel_rfl) (by simp) ?_; refine AllReadyH.cons (by (simp only [gEa, gEb, gEc]; try rfl)) (fun K hK => ?_) AllReadyH.nil; go_simp; refine hK.out _ _ (by first | exact (HKP.out _ hb6).2 _ | exact (HKP.out _ hb6).1 | exact (HKP.out _ hb0).1) (fun hHeld => ?_); clear hK K; (try simp only [Act.put, sEa, sEb, sEc])
   refine wpAnyH_done (by kernel_rfl) ?_ _
   go_wp2
   go_ret
   exact ⟨rfl, p1, n1, c1, p6, n6, c6, la, setO lb x.nrm, HX.out.2.2.1, HN6.out, ((HM6.out.set3 _).nobox).sub (fun z hz => by simp only [List.mem_cons, List.mem_nil_iff, or_false] at hz ⊢; rcases hz with rfl | rfl <;> simp)⟩
end
end Go.Proofs.YtnnghcooidjlhaaGreat
