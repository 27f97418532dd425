/- Parts of the proof: Zz Zya. -/
import Derived.Test.YtnnghcooidjlhaaGreatE38
set_option linter.all false
set_option maxRecDepth 100000
namespace Go.Proofs.YtnnghcooidjlhaaGreat
section
open Go.RowKit Go.Lib
section
variable {w W : World} {tb xb yb : Nat} {s : SL} {n k : Nat} {v1 v2 : Value} {kb : List (Nat × TypeId × Array Value)} {ex : List (Value × List It)} {la lb : List It}
theorem mvD_nolistab (h : MvD w W tb xb yb s n k v1 v2 kb ex la lb) (fr to : Bs) (hf : ¬ (fr.length ≤ 30 ∧ to.length ≤ 30)) :
  Calls Tryz.prog 38 #[.pointer (some ⟨xb, 0, none⟩), .string (S fr), .string (S to)] W fun r w' => r = .returned (.tuple #[.slice none 0 0, .int .i64 2]) ∧ Below W.heap.size W w' := by
 obtain ⟨O, N, L, h1, h2, h3, h4, h5⟩ := h
 exact olist_no h1.i fr to hf
theorem mvD_nolistba (h : MvD w W tb xb yb s n k v1 v2 kb ex la lb) (fr to : Bs) (hf : ¬ (fr.length ≤ 30 ∧ to.length ≤ 30)) :
  Calls Tryz.prog 38 #[.pointer (some ⟨yb, 0, none⟩), .string (S fr), .string (S to)] W fun r w' => r = .returned (.tuple #[.slice none 0 0, .int .i64 2]) ∧ Below W.heap.size W w' := by
 obtain ⟨O, N, L, h1, h2, h3, h4, h5⟩ := h
 exact olist_no h1.i.swap fr to hf
end
set_option maxHeartbeats 16000000 in
theorem do24_list_ab {w W : World} {tb xb yb : Nat} {s : SL} {n k : Nat} {p1 : Option Addr} {n1 c1 : Nat} {p0 : Option Addr} {n0 c0 : Nat} {la lb : List It} (h : MvD w W tb xb yb s n k (.slice p1 n1 c1) (.slice p0 n0 c0) [] [(.slice p1 n1 c1, la), (.slice p0 n0 c0, lb)] la lb) (hn1 : n1 = la.length) (hn0 : n0 = lb.length) (hk : k ≤ 100)  (kd : Int) (x : It) (fr to : Bs) (hkd : ¬ kd = 0 ∧ ¬ kd = 1 ∧ ¬ kd = 2 ∧ ¬ kd = 3 ∧ ¬ kd = 4 ∧ ¬ kd = 6 ∧ ¬ kd = 7 ∧ ¬ kd = 8) :
  Calls Tryz.prog 42 #[.pointer (some ⟨tb, 0, none⟩), ac24 kd false x fr to] W fun r w' => DoQ w tb xb yb s n k r w' := by
 unfold ac24
 obtain ⟨W1, hW1⟩ : ∃ W1, W1 = W.alloc (.cells #[.int .i64 kd, .bool false, .string (S x.c), .int .i64 x.k, .float .f64 x.e.t, .int .i64 x.e.src, .int .i64 x.e.n, .int .i64 x.e.dst, .int .i64 x.e.pay, .string (S fr), .string (S to)] 84) := ⟨_, rfl⟩
 have hb1 : Below W.heap.size W W1 := by rw [hW1]; exact (Below.refl _ W).alloc (Nat.le_refl _) _
 have hM1 := h.box 84 #[.int .i64 kd, .bool false, .string (S x.c), .int .i64 x.k, .float .f64 x.e.t, .int .i64 x.e.src, .int .i64 x.e.n, .int .i64 x.e.dst, .int .i64 x.e.pay, .string (S fr), .string (S to)]
 rw [← hW1] at hM1
 have HM1 := hid hM1
 have HCT : Hid (∀ W', BelC W1 W' → W'.cell? ⟨tb, 0, none⟩ = some (.pointer (some ⟨xb, 0, none⟩)) ∧ W'.cell? ⟨tb, 1, none⟩ = some (.pointer (some ⟨yb, 0, none⟩))) := hid fun W' hW => by
  have q := hW.blk HM1.out.t
  exact ⟨q.cell 0, q.cell 1⟩
 have HX := hid (⟨hW1, hb1, hn1, hn0, hk⟩ : _ ∧ _ ∧ _ ∧ _ ∧ _)
 have HOK := hid h.ok
 obtain ⟨k0, k1, k2, k3, k4, k6, k7, k8⟩ := hkd
 clear h hM1 hW1 hb1 hn1 hn0 hk 
 go_enter Tryz.func42, Tryz.ntmps42
 go_wp2
 rw [← HX.out.1]
 refine qC_region (by kernel_rfl) (by kernel_rfl) (BelC W1) (BelC.drew W1) ?_
 repeat (first | (refine qC_none rfl (fun K hK => ?_); apply Exists.intro; refine ⟨fun w0 hw0 => ?_, ?_⟩; (focus (obtain ⟨q0, q1⟩ := HCT.out w0 hw0; go_simp; first | exact rfl | exact ⟨rfl, rfl⟩ | (fail))); go_simp; refine hK _ ?_; clear hK K) | (refine qC_yes _ _ _ rfl rfl (by rfl) (fun K hK => ?_); apply Exists.intro; refine ⟨fun w0 hw0 => ?_, ?_⟩; (focus (obtain ⟨q0, q1⟩ := HCT.out w0 hw0; go_simp; first | exact rfl | exact ⟨rfl, rfl⟩ | (fail))); go_simp; refine hK _ ?_; clear hK K) | (refine qC_no _ _ _ rfl rfl (by rfl) (fun K hK => ?_); go_simp; refine hK _ ?_; clear hK K) | (refine qC_undef _ _ _ rfl rfl (by rfl) (fun K hK => ?_); go_simp; refine hK _ ?_; clear hK K))
 refine qC_nil ?_
 intro w2 hw2
 have HM2 := hid (HM1.out.below hw2.out)
 obtain ⟨t0, t1⟩ := HCT.out w2 hw2
 have hBx := HM2.out.blk (z := (W.heap.size, 84, (#[.int .i64 kd, .bool false, .string (S x.c), .int .i64 x.k, .float .f64 x.e.t, .int .i64 x.e.src, .int .i64 x.e.n, .int .i64 x.e.dst, .int .i64 x.e.pay, .string (S fr), .string (S to)] : Array Value))) (by simp)
 have b0 : w2.cell? ⟨W.heap.size, 0, none⟩ = some (.int .i64 kd) := hBx.cell 0
 have b1 : w2.cell? ⟨W.heap.size, 1, none⟩ = some (.bool false) := hBx.cell 1
 have b2 : w2.cell? ⟨W.heap.size, 2, none⟩ = some (.string (S x.c)) := hBx.cell 2
 have b3 : w2.cell? ⟨W.heap.size, 3, none⟩ = some (.int .i64 x.k) := hBx.cell 3
 have b4 : w2.cell? ⟨W.heap.size, 4, none⟩ = some (.float .f64 x.e.t) := hBx.cell 4
 have b5 : w2.cell? ⟨W.heap.size, 5, none⟩ = some (.int .i64 x.e.src) := hBx.cell 5
 have b6 : w2.cell? ⟨W.heap.size, 6, none⟩ = some (.int .i64 x.e.n) := hBx.cell 6
 have b7 : w2.cell? ⟨W.heap.size, 7, none⟩ = some (.int .i64 x.e.dst) := hBx.cell 7
 have b8 : w2.cell? ⟨W.heap.size, 8, none⟩ = some (.int .i64 x.e.pay) := hBx.cell 8
 have b9 : w2.cell? ⟨W.heap.size, 9, none⟩ = some (.string (S fr)) := hBx.cell 9
 have b10 : w2.cell? ⟨W.heap.size, 10, none⟩ = some (.string (S to)) := hBx.cell 10
 clear hw2 hBx
 by_cases hf : fr.length ≤ 30 ∧ to.length ≤ 30
 case neg =>
  have HMV := hid (mvD_nolistab HM2.out fr to hf)
  have hcs : ((30 : Int) < (fr.length : Int)) ∨ (¬ (30 : Int) < (fr.length : Int) ∧ (30 : Int) < (to.length : Int)) := by omega
  clear hf
  rcases hcs with h1 | ⟨h1, h2⟩
  all_goals
   go_wp2_with fail
   (with_reducible refine HMV.out.mono ?_)
   rintro r W3 ⟨rfl, hb3⟩
   have HM3 := hid (HM2.out.below hb3)
   have hBx := HM3.out.blk (z := (W.heap.size, 84, (#[.int .i64 kd, .bool false, .string (S x.c), .int .i64 x.k, .float .f64 x.e.t, .int .i64 x.e.src, .int .i64 x.e.n, .int .i64 x.e.dst, .int .i64 x.e.pay, .string (S fr), .string (S to)] : Array Value))) (by simp)
   have d9 : W3.cell? ⟨W.heap.size, 9, none⟩ = some (.string (S fr)) := hBx.cell 9
   have d10 : W3.cell? ⟨W.heap.size, 10, none⟩ = some (.string (S to)) := hBx.cell 10
   clear hb3 hBx t0 t1 b0 b1 b2 b3 b4 b5 b6 b7 b8 b9 b10
   go_wp2
   go_ret
   exact ⟨rfl, p1, n1, c1, p0, n0, c0, la, lb, HX.out.2.2.1, HX.out.2.2.2.1, HM3.out.nobox⟩
 case pos =>
  have HMV := hid (mvD_list HM2.out (by have := HX.out.2.2.2.2; omega) fr to hf.1 hf.2)
  have h1 : ¬ (30 : Int) < (fr.length : Int) := by omega
  have h2 : ¬ (30 : Int) < (to.length : Int) := by omega
  obtain ⟨ins, hins⟩ : ∃ ins, ins = insideO la fr to := ⟨_, rfl⟩
  obtain ⟨nin, hnin⟩ : ∃ nin, nin = ins.length := ⟨_, rfl⟩
  have HN := hid (⟨hins, hnin⟩ : _ ∧ _)
  have hnl : nin ≤ 100 := by
   rw [hnin, hins]
   exact Nat.le_trans (List.length_filter_le _ _) (Nat.le_trans HOK.out.2.2.1 HX.out.2.2.2.2)
  rw [← hins, ← hnin] at HMV
  clear hf hins hnin
  go_wp2_with fail
  (with_reducible refine HMV.out.mono ?_)
  rintro r W3 ⟨p3, c3, rfl, hM3⟩
  have HM3 := hid hM3
  have hBx := HM3.out.blk (z := (W.heap.size, 84, (#[.int .i64 kd, .bool false, .string (S x.c), .int .i64 x.k, .float .f64 x.e.t, .int .i64 x.e.src, .int .i64 x.e.n, .int .i64 x.e.dst, .int .i64 x.e.pay, .string (S fr), .string (S to)] : Array Value))) (by simp)
  have d9 : W3.cell? ⟨W.heap.size, 9, none⟩ = some (.string (S fr)) := hBx.cell 9
  have d10 : W3.cell? ⟨W.heap.size, 10, none⟩ = some (.string (S to)) := hBx.cell 10
  have dt : W3.cell? ⟨tb, 2, none⟩ = some (.slice p1 n1 c1) := HM3.out.t.cell 2
  have hWI := within24_any ((HM3.out.vw (z := ((.slice p1 n1 c1), la)) (by simp)).below (below_drewN (Below.refl W3.heap.size W3) 1)) HX.out.2.2.1 (by have h3 := HX.out.2.2.1; have h4 := HOK.out.2.2.1; have h5 := HX.out.2.2.2.2; omega) (fun y hy => (HOK.out.1 y hy).1.1) fr to
  rw [← HN.out.1] at hWI
  have HWI := hid hWI
  have HCK : Hid (∀ W', Below W3.drew.heap.size W3.drew W' → W'.cell? ⟨tb, 2, none⟩ = some (.slice p1 n1 c1) ∧ W'.cell? ⟨W.heap.size, 9, none⟩ = some (.string (S fr)) ∧ W'.cell? ⟨W.heap.size, 10, none⟩ = some (.string (S to))) := hid fun W' hb => by
   have h := HM3.out.below ((below_drewN (Below.refl W3.heap.size W3) 1).trans hb)
   have hBx := h.blk (z := (W.heap.size, 84, (#[.int .i64 kd, .bool false, .string (S x.c), .int .i64 x.k, .float .f64 x.e.t, .int .i64 x.e.src, .int .i64 x.e.n, .int .i64 x.e.dst, .int .i64 x.e.pay, .string (S fr), .string (S to)] : Array Value))) (by simp)
   exact ⟨h.t.cell 2, hBx.cell 9, hBx.cell 10⟩
  clear hM3 hWI hBx t0 t1 b0 b1 b2 b3 b4 b5 b6 b7 b8 b9 b10
  go_wp2
  go_region_held3 (fun W' => W'.cell? ⟨tb, 2, none⟩ = some (.slice p1 n1 c1) ∧ W'.cell? ⟨W.heap.size, 9, none⟩ = some (.string (S fr)) ∧ W'.cell? ⟨W.heap.size, 10, none⟩ = some (.string (S to))) (first | exact hck5 | exact ⟨dt, d9, d10⟩)
   (first
    | (go_at_call 103; refine HWI.out.mono ?_; rintro r W4 ⟨v4, v5, rfl, hT4⟩; have hck5 := HCK.out W4 hT4.1))
  all_goals
   obtain ⟨f1, f2, f3, f4, f5⟩ := hT4
   rw [← HN.out.2] at f2
   obtain ⟨p4, c4, rfl⟩ := own_slice2 f2
   obtain ⟨p5, c5, rfl⟩ := own_slice2 f3
   have hb34 : Below W3.heap.size W3 W4 := (below_drewN (Below.refl W3.heap.size W3) 1).trans f1
   have HM4 := hid (HM3.out.below hb34)
   have HS := hid (same24_any (HM4.out.vw (z := (.slice p3 nin c3, ins)) (by simp)) (Vw.of_own itC_len f2 HN.out.2) HN.out.2 (by omega))
   clear f1 f2 f3 f4 f5 hb34 hck5 d9 d10 dt
   go_wp2_with fail
   (with_reducible refine HS.out.mono ?_)
   rintro r W5 ⟨rfl, hb5⟩
   have HM5 := hid (HM4.out.below hb5)
   clear hb5
   go_wp2
   go_ret
   exact ⟨rfl, p1, n1, c1, p0, n0, c0, la, lb, HX.out.2.2.1, HX.out.2.2.2.1, (HM5.out.nobox).sub (fun z hz => by simp only [List.mem_cons, List.mem_nil_iff, or_false] at hz ⊢; rcases hz with rfl | rfl <;> simp)⟩
set_option maxHeartbeats 16000000 in
theorem do24_list_ba {w W : World} {tb xb yb : Nat} {s : SL} {n k : Nat} {p1 : Option Addr} {n1 c1 : Nat} {p0 : Option Addr} {n0 c0 : Nat} {la lb : List It} (h : MvD w W tb xb yb s n k (.slice p1 n1 c1) (.slice p0 n0 c0) [] [(.slice p1 n1 c1, la), (.slice p0 n0 c0, lb)] la lb) (hn1 : n1 = la.length) (hn0 : n0 = lb.length) (hk : k ≤ 100)  (kd : Int) (x : It) (fr to : Bs) (hkd : ¬ kd = 0 ∧ ¬ kd = 1 ∧ ¬ kd = 2 ∧ ¬ kd = 3 ∧ ¬ kd = 4 ∧ ¬ kd = 6 ∧ ¬ kd = 7 ∧ ¬ kd = 8) :
  Calls Tryz.prog 42 #[.pointer (some ⟨tb, 0, none⟩), ac24 kd true x fr to] W fun r w' => DoQ w tb xb yb s n k r w' := by
 unfold ac24
 obtain ⟨W1, hW1⟩ : ∃ W1, W1 = W.alloc (.cells #[.int .i64 kd, .bool true, .string (S x.c), .int .i64 x.k, .float .f64 x.e.t, .int .i64 x.e.src, .int .i64 x.e.n, .int .i64 x.e.dst, .int .i64 x.e.pay, .string (S fr), .string (S to)] 84) := ⟨_, rfl⟩
 have hb1 : Below W.heap.size W W1 := by rw [hW1]; exact (Below.refl _ W).alloc (Nat.le_refl _) _
 have hM1 := h.box 84 #[.int .i64 kd, .bool true, .string (S x.c), .int .i64 x.k, .float .f64 x.e.t, .int .i64 x.e.src, .int .i64 x.e.n, .int .i64 x.e.dst, .int .i64 x.e.pay, .string (S fr), .string (S to)]
 rw [← hW1] at hM1
 have HM1 := hid hM1
 have HCT : Hid (∀ W', BelC W1 W' → W'.cell? ⟨tb, 0, none⟩ = some (.pointer (some ⟨xb, 0, none⟩)) ∧ W'.cell? ⟨tb, 1, none⟩ = some (.pointer (some ⟨yb, 0, none⟩))) := hid fun W' hW => by
  have q := hW.blk HM1.out.t
  exact ⟨q.cell 0, q.cell 1⟩
 have HX := hid (⟨hW1, hb1, hn1, hn0, hk⟩ : _ ∧ _ ∧ _ ∧ _ ∧ _)
 have HOK := hid h.ok
 obtain ⟨k0, k1, k2, k3, k4, k6, k7, k8⟩ := hkd
 clear h hM1 hW1 hb1 hn1 hn0 hk 
 go_enter Tryz.func42, Tryz.ntmps42
 go_wp2
 rw [← HX.out.1]
 refine qC_region (by kernel_rfl) (by kernel_rfl) (BelC W1) (BelC.drew W1) ?_
 repeat (first | (refine qC_none rfl (fun K hK => ?_); apply Exists.intro; refine ⟨fun w0 hw0 => ?_, ?_⟩; (focus (obtain ⟨q0, q1⟩ := HCT.out w0 hw0; go_simp; first | exact rfl | exact ⟨rfl, rfl⟩ | (fail))); go_simp; refine hK _ ?_; clear hK K) | (refine qC_yes _ _ _ rfl rfl (by rfl) (fun K hK => ?_); apply Exists.intro; refine ⟨fun w0 hw0 => ?_, ?_⟩; (focus (obtain ⟨q0, q1⟩ := HCT.out w0 hw0; go_simp; first | exact rfl | exact ⟨rfl, rfl⟩ | (fail))); go_simp; refine hK _ ?_; clear hK K) | (refine qC_no _ _ _ rfl rfl (by rfl) (fun K hK => ?_); go_simp; refine hK _ ?_; clear hK K) | (refine qC_undef _ _ _ rfl rfl (by rfl) (fun K hK => ?_); go_simp; refine hK _ ?_; clear hK K))
 refine qC_nil ?_
 intro w2 hw2
 have HM2 := hid (HM1.out.below hw2.out)
 obtain ⟨t0, t1⟩ := HCT.out w2 hw2
 have hBx := HM2.out.blk (z := (W.heap.size, 84, (#[.int .i64 kd, .bool true, .string (S x.c), .int .i64 x.k, .float .f64 x.e.t, .int .i64 x.e.src, .int .i64 x.e.n, .int .i64 x.e.dst, .int .i64 x.e.pay, .string (S fr), .string (S to)] : Array Value))) (by simp)
 have b0 : w2.cell? ⟨W.heap.size, 0, none⟩ = some (.int .i64 kd) := hBx.cell 0
 have b1 : w2.cell? ⟨W.heap.size, 1, none⟩ = some (.bool true) := hBx.cell 1
 have b2 : w2.cell? ⟨W.heap.size, 2, none⟩ = some (.string (S x.c)) := hBx.cell 2
 have b3 : w2.cell? ⟨W.heap.size, 3, none⟩ = some (.int .i64 x.k) := hBx.cell 3
 have b4 : w2.cell? ⟨W.heap.size, 4, none⟩ = some (.float .f64 x.e.t) := hBx.cell 4
 have b5 : w2.cell? ⟨W.heap.size, 5, none⟩ = some (.int .i64 x.e.src) := hBx.cell 5
 have b6 : w2.cell? ⟨W.heap.size, 6, none⟩ = some (.int .i64 x.e.n) := hBx.cell 6
 have b7 : w2.cell? ⟨W.heap.size, 7, none⟩ = some (.int .i64 x.e.dst) := hBx.cell 7
 have b8 : w2.cell? ⟨W.heap.size, 8, none⟩ = some (.int .i64 x.e.pay) := hBx.cell 8
 have b9 : w2.cell? ⟨W.heap.size, 9, none⟩ = some (.string (S fr)) := hBx.cell 9
 have b10 : w2.cell? ⟨W.heap.size, 10, none⟩ = some (.string (S to)) := hBx.cell 10
 clear hw2 hBx
 by_cases hf : fr.length ≤ 30 ∧ to.length ≤ 30
 case neg =>
  have HMV := hid (mvD_nolistba HM2.out fr to hf)
  have hcs : ((30 : Int) < (fr.length : Int)) ∨ (¬ (30 : Int) < (fr.length : Int) ∧ (30 : Int) < (to.length : Int)) := by omega
  clear hf
  rcases hcs with h1 | ⟨h1, h2⟩
  all_goals
   go_wp2_with fail
   (with_reducible refine HMV.out.mono ?_)
   rintro r W3 ⟨rfl, hb3⟩
   have HM3 := hid (HM2.out.below hb3)
   have hBx := HM3.out.blk (z := (W.heap.size, 84, (#[.int .i64 kd, .bool true, .string (S x.c), .int .i64 x.k, .float .f64 x.e.t, .int .i64 x.e.src, .int .i64 x.e.n, .int .i64 x.e.dst, .int .i64 x.e.pay, .string (S fr), .string (S to)] : Array Value))) (by simp)
   have d9 : W3.cell? ⟨W.heap.size, 9, none⟩ = some (.string (S fr)) := hBx.cell 9
   have d10 : W3.cell? ⟨W.heap.size, 10, none⟩ = some (.string (S to)) := hBx.cell 10
   clear hb3 hBx t0 t1 b0 b1 b2 b3 b4 b5 b6 b7 b8 b9 b10
   go_wp2
   go_ret
   exact ⟨rfl, p1, n1, c1, p0, n0, c0, la, lb, HX.out.2.2.1, HX.out.2.2.2.1, HM3.out.nobox⟩
 case pos =>
  have HMV := hid (mvD_listb HM2.out (by have := HX.out.2.2.2.2; omega) fr to hf.1 hf.2)
  have h1 : ¬ (30 : Int) < (fr.length : Int) := by omega
  have h2 : ¬ (30 : Int) < (to.length : Int) := by omega
  obtain ⟨ins, hins⟩ : ∃ ins, ins = insideO lb fr to := ⟨_, rfl⟩
  obtain ⟨nin, hnin⟩ : ∃ nin, nin = ins.length := ⟨_, rfl⟩
  have HN := hid (⟨hins, hnin⟩ : _ ∧ _)
  have hnl : nin ≤ 100 := by
   rw [hnin, hins]
   exact Nat.le_trans (List.length_filter_le _ _) (Nat.le_trans HOK.out.2.2.2.1 HX.out.2.2.2.2)
  rw [← hins, ← hnin] at HMV
  clear hf hins hnin
  go_wp2_with fail
  (with_reducible refine HMV.out.mono ?_)
  rintro r W3 ⟨p3, c3, rfl, hM3⟩
  have HM3 := hid hM3
  have hBx := HM3.out.blk (z := (W.heap.size, 84, (#[.int .i64 kd, .bool true, .string (S x.c), .int .i64 x.k, .float .f64 x.e.t, .int .i64 x.e.src, .int .i64 x.e.n, .int .i64 x.e.dst, .int .i64 x.e.pay, .string (S fr), .string (S to)] : Array Value))) (by simp)
  have d9 : W3.cell? ⟨W.heap.size, 9, none⟩ = some (.string (S fr)) := hBx.cell 9
  have d10 : W3.cell? ⟨W.heap.size, 10, none⟩ = some (.string (S to)) := hBx.cell 10
  have dt : W3.cell? ⟨tb, 3, none⟩ = some (.slice p0 n0 c0) := HM3.out.t.cell 3
  have hWI := within24_any ((HM3.out.vw (z := ((.slice p0 n0 c0), lb)) (by simp)).below (below_drewN (Below.refl W3.heap.size W3) 1)) HX.out.2.2.2.1 (by have h3 := HX.out.2.2.2.1; have h4 := HOK.out.2.2.2.1; have h5 := HX.out.2.2.2.2; omega) (fun y hy => (HOK.out.2.1 y hy).1.1) fr to
  rw [← HN.out.1] at hWI
  have HWI := hid hWI
  have HCK : Hid (∀ W', Below W3.drew.heap.size W3.drew W' → W'.cell? ⟨tb, 3, none⟩ = some (.slice p0 n0 c0) ∧ W'.cell? ⟨W.heap.size, 9, none⟩ = some (.string (S fr)) ∧ W'.cell? ⟨W.heap.size, 10, none⟩ = some (.string (S to))) := hid fun W' hb => by
   have h := HM3.out.below ((below_drewN (Below.refl W3.heap.size W3) 1).trans hb)
   have hBx := h.blk (z := (W.heap.size, 84, (#[.int .i64 kd, .bool true, .string (S x.c), .int .i64 x.k, .float .f64 x.e.t, .int .i64 x.e.src, .int .i64 x.e.n, .int .i64 x.e.dst, .int .i64 x.e.pay, .string (S fr), .string (S to)] : Array Value))) (by simp)
   exact ⟨h.t.cell 3, hBx.cell 9, hBx.cell 10⟩
  clear hM3 hWI hBx t0 t1 b0 b1 b2 b3 b4 b5 b6 b7 b8 b9 b10
  go_wp2
  go_region_held3 (fun W' => W'.cell? ⟨tb, 3, none⟩ = some (.slice p0 n0 c0) ∧ W'.cell? ⟨W.heap.size, 9, none⟩ = some (.string (S fr)) ∧ W'.cell? ⟨W.heap.size, 10, none⟩ = some (.string (S to))) (first | exact hck5 | exact ⟨dt, d9, d10⟩)
   (first
    | (go_at_call 103; refine HWI.out.mono ?_; rintro r W4 ⟨v4, v5, rfl, hT4⟩; have hck5 := HCK.out W4 hT4.1))
  all_goals
   obtain ⟨f1, f2, f3, f4, f5⟩ := hT4
   rw [← HN.out.2] at f2
   obtain ⟨p4, c4, rfl⟩ := own_slice2 f2
   obtain ⟨p5, c5, rfl⟩ := own_slice2 f3
   have hb34 : Below W3.heap.size W3 W4 := (below_drewN (Below.refl W3.heap.size W3) 1).trans f1
   have HM4 := hid (HM3.out.below hb34)
   have HS := hid (same24_any (HM4.out.vw (z := (.slice p3 nin c3, ins)) (by simp)) (Vw.of_own itC_len f2 HN.out.2) HN.out.2 (by omega))
   clear f1 f2 f3 f4 f5 hb34 hck5 d9 d10 dt
   go_wp2_with fail
   (with_reducible refine HS.out.mono ?_)
   rintro r W5 ⟨rfl, hb5⟩
   have HM5 := hid (HM4.out.below hb5)
   clear hb5
   go_wp2
   go_ret
   exact ⟨rfl, p1, n1, c1, p0, n0, c0, la, lb, HX.out.2.2.1, HX.out.2.2.2.1, (HM5.out.nobox).sub (fun z hz => by simp only [List.mem_cons, List.mem_nil_iff, or_false] at hz ⊢; rcases hz with rfl | rfl <;> simp)⟩
end
section
open Go.RowKit Go.Lib
section
variable {w W W' : World} {tb xb yb : Nat} {s : SL} {n k : Nat} {v1 v2 : Value} {kb : List (Nat × TypeId × Array Value)} {ex : List (Value × List It)} {la lb : List It}
theorem mvD_noclearab (h : MvD w W tb xb yb s n k v1 v2 kb ex la lb) (fr to : Bs) (hf : ¬ (fr.length ≤ 30 ∧ to.length ≤ 30)) :
  Calls Tryz.prog 44 #[.pointer (some ⟨xb, 0, none⟩), .string (S fr), .string (S to)] W fun r w' => r = .returned (.tuple #[.int .i64 0, .int .i64 2]) ∧ Below W.heap.size W w' := by
 obtain ⟨O, N, L, h1, h2, h3, h4, h5⟩ := h
 exact oclear_no h1.i fr to hf
theorem mvD_noclearba (h : MvD w W tb xb yb s n k v1 v2 kb ex la lb) (fr to : Bs) (hf : ¬ (fr.length ≤ 30 ∧ to.length ≤ 30)) :
  Calls Tryz.prog 44 #[.pointer (some ⟨yb, 0, none⟩), .string (S fr), .string (S to)] W fun r w' => r = .returned (.tuple #[.int .i64 0, .int .i64 2]) ∧ Below W.heap.size W w' := by
 obtain ⟨O, N, L, h1, h2, h3, h4, h5⟩ := h
 exact oclear_no h1.i.swap fr to hf
end
set_option maxHeartbeats 16000000 in
theorem do24_clear_ab {w W : World} {tb xb yb : Nat} {s : SL} {n k : Nat} {p1 : Option Addr} {n1 c1 : Nat} {p0 : Option Addr} {n0 c0 : Nat} {la lb : List It} (h : MvD w W tb xb yb s n k (.slice p1 n1 c1) (.slice p0 n0 c0) [] [(.slice p1 n1 c1, la), (.slice p0 n0 c0, lb)] la lb) (hn1 : n1 = la.length) (hn0 : n0 = lb.length) (hk : k ≤ 100)  (kd : Int) (x : It) (fr to : Bs) (hkd : kd = 6) :
  Calls Tryz.prog 42 #[.pointer (some ⟨tb, 0, none⟩), ac24 kd false x fr to] W fun r w' => DoQ w tb xb yb s n k r w' := by
 unfold ac24
 obtain ⟨W1, hW1⟩ : ∃ W1, W1 = W.alloc (.cells #[.int .i64 kd, .bool false, .string (S x.c), .int .i64 x.k, .float .f64 x.e.t, .int .i64 x.e.src, .int .i64 x.e.n, .int .i64 x.e.dst, .int .i64 x.e.pay, .string (S fr), .string (S to)] 84) := ⟨_, rfl⟩
 have hb1 : Below W.heap.size W W1 := by rw [hW1]; exact (Below.refl _ W).alloc (Nat.le_refl _) _
 have hM1 := h.box 84 #[.int .i64 kd, .bool false, .string (S x.c), .int .i64 x.k, .float .f64 x.e.t, .int .i64 x.e.src, .int .i64 x.e.n, .int .i64 x.e.dst, .int .i64 x.e.pay, .string (S fr), .string (S to)]
 rw [← hW1] at hM1
 have HM1 := hid hM1
 have HCT : Hid (∀ W', BelC W1 W' → W'.cell? ⟨tb, 0, none⟩ = some (.pointer (some ⟨xb, 0, none⟩)) ∧ W'.cell? ⟨tb, 1, none⟩ = some (.pointer (some ⟨yb, 0, none⟩))) := hid fun W' hW => by
  have q := hW.blk HM1.out.t
  exact ⟨q.cell 0, q.cell 1⟩
 have HX := hid (⟨hW1, hb1, hn1, hn0, hk⟩ : _ ∧ _ ∧ _ ∧ _ ∧ _)
 have HOK := hid h.ok
 have HKD := hid hkd
 clear h hM1 hW1 hb1 hn1 hn0 hk hkd
 go_enter Tryz.func42, Tryz.ntmps42
 go_wp2
 rw [← HX.out.1]
 refine qC_region (by kernel_rfl) (by kernel_rfl) (BelC W1) (BelC.drew W1) ?_
 repeat (first | (refine qC_none rfl (fun K hK => ?_); apply Exists.intro; refine ⟨fun w0 hw0 => ?_, ?_⟩; (focus (obtain ⟨q0, q1⟩ := HCT.out w0 hw0; go_simp; first | exact rfl | exact ⟨rfl, rfl⟩ | (fail))); go_simp; refine hK _ ?_; clear hK K) | (refine qC_yes _ _ _ rfl rfl (by rfl) (fun K hK => ?_); apply Exists.intro; refine ⟨fun w0 hw0 => ?_, ?_⟩; (focus (obtain ⟨q0, q1⟩ := HCT.out w0 hw0; go_simp; first | exact rfl | exact ⟨rfl, rfl⟩ | (fail))); go_simp; refine hK _ ?_; clear hK K) | (refine qC_no _ _ _ rfl rfl (by rfl) (fun K hK => ?_); go_simp; refine hK _ ?_; clear hK K) | (refine qC_undef _ _ _ rfl rfl (by rfl) (fun K hK => ?_); go_simp; refine hK _ ?_; clear hK K))
 refine qC_nil ?_
 intro w2 hw2
 have HM2 := hid (HM1.out.below hw2.out)
 obtain ⟨t0, t1⟩ := HCT.out w2 hw2
 have hBx := HM2.out.blk (z := (W.heap.size, 84, (#[.int .i64 kd, .bool false, .string (S x.c), .int .i64 x.k, .float .f64 x.e.t, .int .i64 x.e.src, .int .i64 x.e.n, .int .i64 x.e.dst, .int .i64 x.e.pay, .string (S fr), .string (S to)] : Array Value))) (by simp)
 have b0 : w2.cell? ⟨W.heap.size, 0, none⟩ = some (.int .i64 kd) := hBx.cell 0
 have b1 : w2.cell? ⟨W.heap.size, 1, none⟩ = some (.bool false) := hBx.cell 1
 have b2 : w2.cell? ⟨W.heap.size, 2, none⟩ = some (.string (S x.c)) := hBx.cell 2
 have b3 : w2.cell? ⟨W.heap.size, 3, none⟩ = some (.int .i64 x.k) := hBx.cell 3
 have b4 : w2.cell? ⟨W.heap.size, 4, none⟩ = some (.float .f64 x.e.t) := hBx.cell 4
 have b5 : w2.cell? ⟨W.heap.size, 5, none⟩ = some (.int .i64 x.e.src) := hBx.cell 5
 have b6 : w2.cell? ⟨W.heap.size, 6, none⟩ = some (.int .i64 x.e.n) := hBx.cell 6
 have b7 : w2.cell? ⟨W.heap.size, 7, none⟩ = some (.int .i64 x.e.dst) := hBx.cell 7
 have b8 : w2.cell? ⟨W.heap.size, 8, none⟩ = some (.int .i64 x.e.pay) := hBx.cell 8
 have b9 : w2.cell? ⟨W.heap.size, 9, none⟩ = some (.string (S fr)) := hBx.cell 9
 have b10 : w2.cell? ⟨W.heap.size, 10, none⟩ = some (.string (S to)) := hBx.cell 10
 clear hw2 hBx
 have hkd := HKD.out
 by_cases hf : fr.length ≤ 30 ∧ to.length ≤ 30
 case neg =>
  have HMV := hid (mvD_noclearab HM2.out fr to hf)
  have hcs : ((30 : Int) < (fr.length : Int)) ∨ (¬ (30 : Int) < (fr.length : Int) ∧ (30 : Int) < (to.length : Int)) := by omega
  clear hf
  rcases hcs with h1 | ⟨h1, h2⟩
  all_goals
   go_wp2_with fail
   (with_reducible refine HMV.out.mono ?_)
   rintro r W3 ⟨rfl, hb3⟩
   have HM3 := hid (HM2.out.below hb3)
   have hBx := HM3.out.blk (z := (W.heap.size, 84, (#[.int .i64 kd, .bool false, .string (S x.c), .int .i64 x.k, .float .f64 x.e.t, .int .i64 x.e.src, .int .i64 x.e.n, .int .i64 x.e.dst, .int .i64 x.e.pay, .string (S fr), .string (S to)] : Array Value))) (by simp)
   have d9 : W3.cell? ⟨W.heap.size, 9, none⟩ = some (.string (S fr)) := hBx.cell 9
   have d10 : W3.cell? ⟨W.heap.size, 10, none⟩ = some (.string (S to)) := hBx.cell 10
   clear hb3 hBx t0 t1 b0 b1 b2 b3 b4 b5 b6 b7 b8 b9 b10
   go_wp2
   go_ret
   exact ⟨rfl, p1, n1, c1, p0, n0, c0, la, lb, HX.out.2.2.1, HX.out.2.2.2.1, HM3.out.nobox⟩
 case pos =>
  have HMV := hid (mvD_clear HM2.out fr to hf.1 hf.2)
  have h1 : ¬ (30 : Int) < (fr.length : Int) := by omega
  have h2 : ¬ (30 : Int) < (to.length : Int) := by omega
  obtain ⟨ins, hins⟩ : ∃ ins, ins = insideO la fr to := ⟨_, rfl⟩
  obtain ⟨ou, hou⟩ : ∃ ou, ou = outO la fr to := ⟨_, rfl⟩
  obtain ⟨nin, hnin⟩ : ∃ nin, nin = ins.length := ⟨_, rfl⟩
  have HN := hid (⟨hins, hnin, hou⟩ : _ ∧ _ ∧ _)
  rw [← hins, ← hnin, ← hou] at HMV
  clear hf hins hnin hou
  go_wp2_with fail
  (with_reducible refine HMV.out.mono ?_)
  rintro r W3 ⟨rfl, hM3⟩
  have HM3 := hid hM3
  have hBx := HM3.out.blk (z := (W.heap.size, 84, (#[.int .i64 kd, .bool false, .string (S x.c), .int .i64 x.k, .float .f64 x.e.t, .int .i64 x.e.src, .int .i64 x.e.n, .int .i64 x.e.dst, .int .i64 x.e.pay, .string (S fr), .string (S to)] : Array Value))) (by simp)
  have d9 : W3.cell? ⟨W.heap.size, 9, none⟩ = some (.string (S fr)) := hBx.cell 9
  have d10 : W3.cell? ⟨W.heap.size, 10, none⟩ = some (.string (S to)) := hBx.cell 10
  have dt : W3.cell? ⟨tb, 2, none⟩ = some (.slice p1 n1 c1) := HM3.out.t.cell 2
  have hWI := within24_any ((HM3.out.vw (z := ((.slice p1 n1 c1), la)) (by simp)).below (below_drewN (Below.refl W3.heap.size W3) 1)) HX.out.2.2.1 (by have h3 := HX.out.2.2.1; have h4 := HOK.out.2.2.1; have h5 := HX.out.2.2.2.2; omega) (fun y hy => (HOK.out.1 y hy).1.1) fr to
  rw [← HN.out.1, ← HN.out.2.2] at hWI
  have HWI := hid hWI
  have HCK : Hid (∀ W', Below W3.drew.heap.size W3.drew W' → W'.cell? ⟨tb, 2, none⟩ = some (.slice p1 n1 c1) ∧ W'.cell? ⟨W.heap.size, 9, none⟩ = some (.string (S fr)) ∧ W'.cell? ⟨W.heap.size, 10, none⟩ = some (.string (S to))) := hid fun W' hb => by
   have h := HM3.out.below ((below_drewN (Below.refl W3.heap.size W3) 1).trans hb)
   have hBx := h.blk (z := (W.heap.size, 84, (#[.int .i64 kd, .bool false, .string (S x.c), .int .i64 x.k, .float .f64 x.e.t, .int .i64 x.e.src, .int .i64 x.e.n, .int .i64 x.e.dst, .int .i64 x.e.pay, .string (S fr), .string (S to)] : Array Value))) (by simp)
   exact ⟨h.t.cell 2, hBx.cell 9, hBx.cell 10⟩
  clear hM3 hWI hBx t0 t1 b0 b1 b2 b3 b4 b5 b6 b7 b8 b9 b10
  go_wp2
  go_region_held3 (fun W' => W'.cell? ⟨tb, 2, none⟩ = some (.slice p1 n1 c1) ∧ W'.cell? ⟨W.heap.size, 9, none⟩ = some (.string (S fr)) ∧ W'.cell? ⟨W.heap.size, 10, none⟩ = some (.string (S to))) (first | exact hck5 | exact ⟨dt, d9, d10⟩)
   (first
    | (go_at_call 103; refine HWI.out.mono ?_; rintro r W4 ⟨v4, v5, rfl, hT4⟩; have hck5 := HCK.out W4 hT4.1))
  all_goals
   obtain ⟨f1, f2, f3, f4, f5⟩ := hT4
   rw [← HN.out.2.1] at f2
   obtain ⟨nou, hnou⟩ : ∃ nou, nou = ou.length := ⟨_, rfl⟩
   have HNO := hid hnou
   rw [← hnou] at f3
   obtain ⟨p4, c4, rfl⟩ := own_slice2 f2
   obtain ⟨p5, c5, rfl⟩ := own_slice2 f3
   have HM3d := HM3.out.below (below_drewN (Below.refl W3.heap.size W3) 1)
   have HM4 := hid (HM3d.adds f1 [(.slice p5 nou c5, ou)] (fun z hz => by
    rw [List.mem_singleton.1 hz]
    exact ⟨_, by rw [← HNO.out]; exact f3⟩))
   have hB4 := HM4.out.t
   have e2 : W4.cell? ⟨tb, 2, none⟩ = some (.slice p1 n1 c1) := hB4.cell 2
   have ef := hB4.frozen 2
   have el := hB4.lt
   clear f1 f2 f3 f4 f5 hck5 d9 d10 dt hnou HM3d hB4
   go_wp2
   go_ret
   exact ⟨rfl, p5, nou, c5, p0, n0, c0, ou, lb, HNO.out, HX.out.2.2.2.1, ((HM4.out.set2 _).nobox).sub (fun z hz => by simp only [List.mem_cons, List.mem_nil_iff, or_false, List.cons_append, List.nil_append] at hz ⊢; rcases hz with rfl | rfl <;> simp)⟩
set_option maxHeartbeats 16000000 in
theorem do24_clear_ba {w W : World} {tb xb yb : Nat} {s : SL} {n k : Nat} {p1 : Option Addr} {n1 c1 : Nat} {p0 : Option Addr} {n0 c0 : Nat} {la lb : List It} (h : MvD w W tb xb yb s n k (.slice p1 n1 c1) (.slice p0 n0 c0) [] [(.slice p1 n1 c1, la), (.slice p0 n0 c0, lb)] la lb) (hn1 : n1 = la.length) (hn0 : n0 = lb.length) (hk : k ≤ 100)  (kd : Int) (x : It) (fr to : Bs) (hkd : kd = 6) :
  Calls Tryz.prog 42 #[.pointer (some ⟨tb, 0, none⟩), ac24 kd true x fr to] W fun r w' => DoQ w tb xb yb s n k r w' := by
 unfold ac24
 obtain ⟨W1, hW1⟩ : ∃ W1, W1 = W.alloc (.cells #[.int .i64 kd, .bool true, .string (S x.c), .int .i64 x.k, .float .f64 x.e.t, .int .i64 x.e.src, .int .i64 x.e.n, .int .i64 x.e.dst, .int .i64 x.e.pay, .string (S fr), .string (S to)] 84) := ⟨_, rfl⟩
 have hb1 : Below W.heap.size W W1 := by rw [hW1]; exact (Below.refl _ W).alloc (Nat.le_refl _) _
 have hM1 := h.box 84 #[.int .i64 kd, .bool true, .string (S x.c), .int .i64 x.k, .float .f64 x.e.t, .int .i64 x.e.src, .int .i64 x.e.n, .int .i64 x.e.dst, .int .i64 x.e.pay, .string (S fr), .string (S to)]
 rw [← hW1] at hM1
 have HM1 := hid hM1
 have HCT : Hid (∀ W', BelC W1 W' → W'.cell? ⟨tb, 0, none⟩ = some (.pointer (some ⟨xb, 0, none⟩)) ∧ W'.cell? ⟨tb, 1, none⟩ = some (.pointer (some ⟨yb, 0, none⟩))) := hid fun W' hW => by
  have q := hW.blk HM1.out.t
  exact ⟨q.cell 0, q.cell 1⟩
 have HX := hid (⟨hW1, hb1, hn1, hn0, hk⟩ : _ ∧ _ ∧ _ ∧ _ ∧ _)
 have HOK := hid h.ok
 have HKD := hid hkd
 clear h hM1 hW1 hb1 hn1 hn0 hk hkd
 go_enter Tryz.func42, Tryz.ntmps42
 go_wp2
 rw [← HX.out.1]
 refine qC_region (by kernel_rfl) (by kernel_rfl) (BelC W1) (BelC.drew W1) ?_
 repeat (first | (refine qC_none rfl (fun K hK => ?_); apply Exists.intro; refine ⟨fun w0 hw0 => ?_, ?_⟩; (focus (obtain ⟨q0, q1⟩ := HCT.out w0 hw0; go_simp; first | exact rfl | exact ⟨rfl, rfl⟩ | (fail))); go_simp; refine hK _ ?_; clear hK K) | (refine qC_yes _ _ _ rfl rfl (by rfl) (fun K hK => ?_); apply Exists.intro; refine ⟨fun w0 hw0 => ?_, ?_⟩; (focus (obtain ⟨q0, q1⟩ := HCT.out w0 hw0; go_simp; first | exact rfl | exact ⟨rfl, rfl⟩ | (fail))); go_simp; refine hK _ ?_; clear hK K) | (refine qC_no _ _ _ rfl rfl (by rfl) (fun K hK => ?_); go_simp; refine hK _ ?_; clear hK K) | (refine qC_undef _ _ _ rfl rfl (by rfl) (fun K hK => ?_); go_simp; refine hK _ ?_; clear hK K))
 refine qC_nil ?_
 intro w2 hw2
 have HM2 := hid (HM1.out.below hw2.out)
 obtain ⟨t0, t1⟩ := HCT.out w2 hw2
 have hBx := HM2.out.blk (z := (W.heap.size, 84, (#[.int .i64 kd, .bool true, .string (S x.c), .int .i64 x.k, .float .f64 x.e.t, .int .i64 x.e.src, .int .i64 x.e.n, .int .i64 x.e.dst, .int .i64 x.e.pay, .string (S fr), .string (S to)] : Array Value))) (by simp)
 have b0 : w2.cell? ⟨W.heap.size, 0, none⟩ = some (.int .i64 kd) := hBx.cell 0
 have b1 : w2.cell? ⟨W.heap.size, 1, none⟩ = some (.bool true) := hBx.cell 1
 have b2 : w2.cell? ⟨W.heap.size, 2, none⟩ = some (.string (S x.c)) := hBx.cell 2
 have b3 : w2.cell? ⟨W.heap.size, 3, none⟩ = some (.int .i64 x.k) := hBx.cell 3
 have b4 : w2.cell? ⟨W.heap.size, 4, none⟩ = some (.float .f64 x.e.t) := hBx.cell 4
 have b5 : w2.cell? ⟨W.heap.size, 5, none⟩ = some (.int .i64 x.e.src) := hBx.cell 5
 have b6 : w2.cell? ⟨W.heap.size, 6, none⟩ = some (.int .i64 x.e.n) := hBx.cell 6
 have b7 : w2.cell? ⟨W.heap.size, 7, none⟩ = some (.int .i64 x.e.dst) := hBx.cell 7
 have b8 : w2.cell? ⟨W.heap.size, 8, none⟩ = some (.int .i64 x.e.pay) := hBx.cell 8
 have b9 : w2.cell? ⟨W.heap.size, 9, none⟩ = some (.string (S fr)) := hBx.cell 9
 have b10 : w2.cell? ⟨W.heap.size, 10, none⟩ = some (.string (S to)) := hBx.cell 10
 clear hw2 hBx
 have hkd := HKD.out
 by_cases hf : fr.length ≤ 30 ∧ to.length ≤ 30
 case neg =>
  have HMV := hid (mvD_noclearba HM2.out fr to hf)
  have hcs : ((30 : Int) < (fr.length : Int)) ∨ (¬ (30 : Int) < (fr.length : Int) ∧ (30 : Int) < (to.length : Int)) := by omega
  clear hf
  rcases hcs with h1 | ⟨h1, h2⟩
  all_goals
   go_wp2_with fail
   (with_reducible refine HMV.out.mono ?_)
   rintro r W3 ⟨rfl, hb3⟩
   have HM3 := hid (HM2.out.below hb3)
   have hBx := HM3.out.blk (z := (W.heap.size, 84, (#[.int .i64 kd, .bool true, .string (S x.c), .int .i64 x.k, .float .f64 x.e.t, .int .i64 x.e.src, .int .i64 x.e.n, .int .i64 x.e.dst, .int .i64 x.e.pay, .string (S fr), .string (S to)] : Array Value))) (by simp)
   have d9 : W3.cell? ⟨W.heap.size, 9, none⟩ = some (.string (S fr)) := hBx.cell 9
   have d10 : W3.cell? ⟨W.heap.size, 10, none⟩ = some (.string (S to)) := hBx.cell 10
   clear hb3 hBx t0 t1 b0 b1 b2 b3 b4 b5 b6 b7 b8 b9 b10
   go_wp2
   go_ret
   exact ⟨rfl, p1, n1, c1, p0, n0, c0, la, lb, HX.out.2.2.1, HX.out.2.2.2.1, HM3.out.nobox⟩
 case pos =>
  have HMV := hid (mvD_clearb HM2.out fr to hf.1 hf.2)
  have h1 : ¬ (30 : Int) < (fr.length : Int) := by omega
  have h2 : ¬ (30 : Int) < (to.length : Int) := by omega
  obtain ⟨ins, hins⟩ : ∃ ins, ins = insideO lb fr to := ⟨_, rfl⟩
  obtain ⟨ou, hou⟩ : ∃ ou, ou = outO lb fr to := ⟨_, rfl⟩
  obtain ⟨nin, hnin⟩ : ∃ nin, nin = ins.length := ⟨_, rfl⟩
  have HN := hid (⟨hins, hnin, hou⟩ : _ ∧ _ ∧ _)
  rw [← hins, ← hnin, ← hou] at HMV
  clear hf hins hnin hou
  go_wp2_with fail
  (with_reducible refine HMV.out.mono ?_)
  rintro r W3 ⟨rfl, hM3⟩
  have HM3 := hid hM3
  have hBx := HM3.out.blk (z := (W.heap.size, 84, (#[.int .i64 kd, .bool true, .string (S x.c), .int .i64 x.k, .float .f64 x.e.t, .int .i64 x.e.src, .int .i64 x.e.n, .int .i64 x.e.dst, .int .i64 x.e.pay, .string (S fr), .string (S to)] : Array Value))) (by simp)
  have d9 : W3.cell? ⟨W.heap.size, 9, none⟩ = some (.string (S fr)) := hBx.cell 9
  have d10 : W3.cell? ⟨W.heap.size, 10, none⟩ = some (.string (S to)) := hBx.cell 10
  have dt : W3.cell? ⟨tb, 3, none⟩ = some (.slice p0 n0 c0) := HM3.out.t.cell 3
  have hWI := within24_any ((HM3.out.vw (z := ((.slice p0 n0 c0), lb)) (by simp)).below (below_drewN (Below.refl W3.heap.size W3) 1)) HX.out.2.2.2.1 (by have h3 := HX.out.2.2.2.1; have h4 := HOK.out.2.2.2.1; have h5 := HX.out.2.2.2.2; omega) (fun y hy => (HOK.out.2.1 y hy).1.1) fr to
  rw [← HN.out.1, ← HN.out.2.2] at hWI
  have HWI := hid hWI
  have HCK : Hid (∀ W', Below W3.drew.heap.size W3.drew W' → W'.cell? ⟨tb, 3, none⟩ = some (.slice p0 n0 c0) ∧ W'.cell? ⟨W.heap.size, 9, none⟩ = some (.string (S fr)) ∧ W'.cell? ⟨W.heap.size, 10, none⟩ = some (.string (S to))) := hid fun W' hb => by
   have h := HM3.out.below ((below_drewN (Below.refl W3.heap.size W3) 1).trans hb)
   have hBx := h.blk (z := (W.heap.size, 84, (#[.int .i64 kd, .bool true, .string (S x.c), .int .i64 x.k, .float .f64 x.e.t, .int .i64 x.e.src, .int .i64 x.e.n, .int .i64 x.e.dst, .int .i64 x.e.pay, .string (S fr), .string (S to)] : Array Value))) (by simp)
   exact ⟨h.t.cell 3, hBx.cell 9, hBx.cell 10⟩
  clear hM3 hWI hBx t0 t1 b0 b1 b2 b3 b4 b5 b6 b7 b8 b9 b10
  go_wp2
  go_region_held3 (fun W' => W'.cell? ⟨tb, 3, none⟩ = some (.slice p0 n0 c0) ∧ W'.cell? ⟨W.heap.size, 9, none⟩ = some (.string (S fr)) ∧ W'.cell? ⟨W.heap.size, 10, none⟩ = some (.string (S to))) (first | exact hck5 | exact ⟨dt, d9, d10⟩)
   (first
    | (go_at_call 103; refine HWI.out.mono ?_; rintro r W4 ⟨v4, v5, rfl, hT4⟩; have hck5 := HCK.out W4 hT4.1))
  all_goals
   obtain ⟨f1, f2, f3, f4, f5⟩ := hT4
   rw [← HN.out.2.1] at f2
   obtain ⟨nou, hnou⟩ : ∃ nou, nou = ou.length := ⟨_, rfl⟩
   have HNO := hid hnou
   rw [← hnou] at f3
   obtain ⟨p4, c4, rfl⟩ := own_slice2 f2
   obtain ⟨p5, c5, rfl⟩ := own_slice2 f3
   have HM3d := HM3.out.below (below_drewN (Below.refl W3.heap.size W3) 1)
   have HM4 := hid (HM3d.adds f1 [(.slice p5 nou c5, ou)] (fun z hz => by
    rw [List.mem_singleton.1 hz]
    exact ⟨_, by rw [← HNO.out]; exact f3⟩))
   have hB4 := HM4.out.t
   have e2 : W4.cell? ⟨tb, 3, none⟩ = some (.slice p0 n0 c0) := hB4.cell 3
   have ef := hB4.frozen 3
   have el := hB4.lt
   clear f1 f2 f3 f4 f5 hck5 d9 d10 dt hnou HM3d hB4
   go_wp2
   go_ret
   exact ⟨rfl, p1, n1, c1, p5, nou, c5, la, ou, HX.out.2.2.1, HNO.out, ((HM4.out.set3 _).nobox).sub (fun z hz => by simp only [List.mem_cons, List.mem_nil_iff, or_false, List.cons_append, List.nil_append] at hz ⊢; rcases hz with rfl | rfl <;> simp)⟩
end
end Go.Proofs.YtnnghcooidjlhaaGreat
