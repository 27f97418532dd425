/- Parts of the proof: Xz. -/
import Derived.Test.YtnnghcooidjlhaaGreatD39
set_option linter.all false
set_option maxRecDepth 100000
namespace Go.Proofs.YtnnghcooidjlhaaGreat
section
open Go.RowKit Go.Lib
set_option maxHeartbeats 8000000 in
theorem key20_any (e : Ev) (h : e.right) (ho : e.ok) (w : World) :
  Calls Tryz.prog 69 #[evV e] w fun r w' => r = .returned (.string (S (keyB e))) ∧ Below w.heap.size w w' := by
 have HK := hid (fun W => key02_any e.t e.src e.n h.1 ho.1 ho.2.1 ho.2.2.1 W)
 have HI1 := hid (i01_ok e.n ho.2.2.1.1 ho.2.2.1.2)
 have HI2 := hid (i01_ok e.pay ho.2.2.2.2.1 ho.2.2.2.2.2)
 have w1 : IntKind.i64.wrap (e.src + 1) = e.src + 1 := by have := h.2.1; have := h.2.2.1; rw [IntKind.wrap_i64]; omega
 have w2 : IntKind.u8.wrap (e.src + 1) = e.src + 1 := by have := h.2.1; have := h.2.2.1; rw [IntKind.wrap_u8]; omega
 have HCV : Hid (∀ W g, Blk W g 5 #[.int .u8 (e.src + 1)] → (convert 129 9 (.slice (some ⟨g, 0, none⟩) 1 1)).run Tryz.prog W = .ok (.string (S (oneB (e.src + 1)))) W) := hid fun W g hB => blk_one hB (by
  have := h.2.1
  have := h.2.2.1
  simp [bA, cB, oneB]
  omega) 1 1 rfl
 obtain ⟨kb, hkb⟩ : ∃ kb, kb = timeB e.t ++ encI e.src ++ encI e.n := ⟨_, rfl⟩
 rw [← hkb] at HK
 have HKB : Hid (keyB e = kb.take 8 ++ (oneB (e.src + 1) ++ (encI e.n ++ encI e.pay))) := hid (by
  have h8 : (timeB e.t ++ encI e.src ++ encI e.n).take 8 = timeB e.t := by rw [List.append_assoc, List.take_append_of_le_length (by simp [timeB]), List.take_of_length_le (by simp [timeB])]
  rw [hkb, h8]
  unfold keyB
  simp only [List.append_assoc])
 have hkl : kb.length = 24 := by rw [hkb]; simp [timeB]
 have l1 : ¬ 9223372036854775807 < (kb.take 8).length + (oneB (e.src + 1)).length := by simp [oneB]; omega
 unfold evV
 obtain ⟨W1, hW1⟩ : ∃ W1, W1 = w.alloc (.cells #[.float .f64 e.t, .int .i64 e.src, .int .i64 e.n, .int .i64 e.dst, .int .i64 e.pay] 67) := ⟨_, rfl⟩
 have hb1 : Below w.heap.size w W1 := by rw [hW1]; exact (Below.refl _ w).alloc (Nat.le_refl _) _
 have hB1 : Blk W1 w.heap.size 67 #[.float .f64 e.t, .int .i64 e.src, .int .i64 e.n, .int .i64 e.dst, .int .i64 e.pay] := by rw [hW1]; exact Blk.new w _ _
 have HX := hid (⟨hW1, hB1⟩ : _ ∧ _)
 clear h ho hkb hB1 hW1
 go_enter Tryz.func69, Tryz.ntmps69
 go_wp2_with fail
 (with_reducible refine (HK.out _).mono ?_)
 rintro r W2 ⟨rfl, hb2⟩
 rw [← HX.out.1] at hb2
 have hB2 := HX.out.2.below hb2 HX.out.2.lt
 have HB := hid (hb1.trans (hb2.mono hb1.size))
 have HCL : Hid (∀ W, Below W2.heap.size W2 W → W.cell? ⟨w.heap.size, 1, none⟩ = some (.int .i64 e.src) ∧ W.cell? ⟨w.heap.size, 2, none⟩ = some (.int .i64 e.n) ∧ W.cell? ⟨w.heap.size, 4, none⟩ = some (.int .i64 e.pay)) := hid fun W hW => by
  have h1 := hB2.below hW hB2.lt
  exact ⟨h1.cell 1, h1.cell 2, h1.cell 4⟩
 obtain ⟨m1, m2, m4⟩ := HCL.out W2 (Below.refl _ _)
 clear hb1 hb2 hB2
 go_wp2
 refine wp_region_held_drew (S := fun W => W.cell? ⟨w.heap.size, 1, none⟩ = some (.int .i64 e.src) ∧ W.cell? ⟨w.heap.size, 2, none⟩ = some (.int .i64 e.n) ∧ W.cell? ⟨w.heap.size, 4, none⟩ = some (.int .i64 e.pay)) (by kernel_rfl) (by exact ⟨m1, m2, m4⟩) (fun hHeld => ?_)
 obtain ⟨W3, hW3⟩ : ∃ W3, W3 = W2.drew := ⟨_, rfl⟩
 have hbD : Below W2.heap.size W2 W3 := by rw [hW3]; exact below_drewN (Below.refl _ W2) 1
 rw [← hW3] at hHeld ⊢
 clear hW3
 refine hTk (i := 0) (oi := ?a0_10) (v := ?v0_10) (by (simp only [gEa, gEb, gEc]; try rfl)) (by kernel_rfl) ?b0_10 (Or.inl ⟨by rfl, ?c0_10⟩) hHeld ?d0_10; (case c0_10 => (intro wz hSw; (try dsimp only at hSw); go_simp; first | done | with_reducible rfl)); (case b0_10 => exact fun _ _ _ h => h); (try simp only [Act.put, sEa, sEb, sEc]); refine hTk (i := 1) (oi := ?a1_10) (v := ?v1_10) (by (simp only [gEa, gEb, gEc]; try rfl)) (by kernel_rfl) ?b1_10 (Or.inl ⟨by rfl, ?c1_10⟩) hHeld ?d1_10; (case c1_10 => (intro wz hSw; (try dsimp only at hSw); go_simp; first | done | with_reducible rfl)); (case b1_10 => exact fun _ _ _ h => h); (try simp only [Act.put, sEa, sEb, sEc]); refine hTk (i := 2) (oi := ?a2_10) (v := ?v2_10) (by (simp only [gEa, gEb, gEc]; try rfl)) (by kernel_rfl) ?b2_10 (Or.inl ⟨by rfl, ?c2_10⟩) hHeld ?d2_10; (case c2_10 => (intro wz hSw; (try dsimp only at hSw); go_simp; first | done | with_reducible rfl)); (case b2_10 => exact fun _ _ _ h => h); (try simp only [Act.put, sEa, sEb, sEc]); refine hTk (i := 3) (oi := ?a3_10) (v := ?v3_10) (by (simp only [gEa, gEb, gEc]; try rfl)) (by kernel_rfl) ?b3_10 (Or.inl ⟨by rfl, ?c3_10⟩) hHeld ?d3_10; (case c3_10 => (intro wz hSw; (try dsimp only at hSw); go_simp; first | done | with_reducible rfl)); (case b3_10 => exact fun _ _ _ h => h); (try simp only [Act.put, sEa, sEb, sEc]); refine hTk (i := 4) (oi := ?a4_10) (v := ?v4_10) (by (simp only [gEa, gEb, gEc]; try rfl)) (by kernel_rfl) ?b4_10 (Or.inl ⟨by rfl, ?c4_10⟩) hHeld ?d4_10; (case c4_10 => (intro wz hSw; (try dsimp only at hSw); go_simp; first | done | with_reducible rfl)); (case b4_10 => exact fun _ _ _ h => h); (try simp only [Act.put, sEa, sEb, sEc]); refine hTk (i := 5) (oi := ?a5_10) (v := ?v5_10) (by (simp only [gEa, gEb, gEc]; try rfl)) (by kernel_rfl) ?b5_10 (Or.inl ⟨by rfl, ?c5_10⟩) hHeld ?d5_10; (case c5_10 => (intro wz hSw; (try dsimp only at hSw); go_simp; first | done | with_reducible rfl)); (case b5_10 => exact fun _ _ _ h => h); (try simp only [Act.put, sEa, sEb, sEc]); refine hTk (i := 6) (oi := ?a6_10) (v := ?v6_10) (by (simp only [gEa, gEb, gEc]; try rfl)) (by kernel_rfl) ?b6_10 (Or.inl ⟨by rfl, ?c6_10⟩) hHeld ?d6_10; (case c6_10 => (intro wz hSw; (try dsimp only at hSw); go_simp; first | done | with_reducible rfl)); (case b6_10 => exact fun _ _ _ h => h); (try simp only [Act.put, sEa, sEb, sEc]); refine hTk (i := 10) (oi := ?a10_10) (v := ?v10_10) (by (simp only [gEa, gEb, gEc]; try rfl)) (by kernel_rfl) ?b10_10 (Or.inl ⟨by rfl, ?c10_10⟩) hHeld ?d10_10; (case c10_10 => (intro wz hSw; (try dsimp only at hSw); go_simp; first | done | with_reducible rfl)); (case b10_10 => exact fun _ _ _ h => h); (try simp only [Act.put, sEa, sEb, sEc]); refine hTk (i := 11) (oi := ?a11_10) (v := ?v11_10) (by (simp only [gEa, gEb, gEc]; try rfl)) (by kernel_rfl) ?b11_10 (Or.inl ⟨by rfl, ?c11_10⟩) hHeld ?d11_10; (case c11_10 => (intro wz hSw; (try dsimp only at hSw); go_simp; first | done | with_reducible rfl)); (case b11_10 => exact fun _ _ _ h => h); (try simp only [Act.put, sEa, sEb, sEc]); refine hTk (i := 12) (oi := ?a12_10) (v := ?v12_10) (by (simp only [gEa, gEb, gEc]; try rfl)) (by kernel_rfl) ?b12_10 (Or.inl ⟨by rfl, ?c12_10⟩) hHeld ?d12_10; (case c12_10 => (intro wz hSw; (try dsimp only at hSw); go_simp; first | done | with_reducible rfl)); (case b12_10 => exact fun _ _ _ h => h); (try simp only [Act.put, sEa, sEb, sEc]); refine hTk (i := 15) (oi := ?a15_10) (v := ?v15_10) (by (simp only [gEa, gEb, gEc]; try rfl)) (by kernel_rfl) ?b15_10 (Or.inl ⟨by rfl, ?c15_10⟩) hHeld ?d15_10; (case c15_10 => (intro wz hSw; (try dsimp only at hSw); go_simp; first | done | with_reducible rfl)); (case b15_10 => exact fun _ _ _ h => h); (try simp only [Act.put, sEa, sEb, sEc]); refine hTk (i := 16) (oi := ?a16_10) (v := ?v16_10) (by (simp only [gEa, gEb, gEc]; try rfl)) (by kernel_rfl) ?b16_10 (Or.inl ⟨by rfl, ?c16_10⟩) hHeld ?d16_10; (case c16_10 => (intro wz hSw; (try dsimp only at hSw); go_simp; first | done | with_reducible rfl)); (case b16_10 => exact fun _ _ _ h => h); (try simp only [Act.put, sEa, sEb, sEc])
 refine wpAnyH_ready (rs := [7, 13]) (by kernel_rfl) (by simp) ?_
 refine AllReadyH.cons (by (simp only [gEa, gEb, gEc]; try rfl)) (fun K hK => ?_) (AllReadyH.cons (by (simp only [gEa, gEb, gEc]; try rfl)) (fun K hK => ?_) (AllReadyH.nil))
 ·skip
  go_simp
  have hbn1 := hbD.alloc hbD.size (.cells #[.int .u8 (e.src + 1)] 5)
  have hB1 := Blk.new W3 5 #[.int .u8 (e.src + 1)]
  refine hK.out _ _ (by exact HCL.out _ hbn1) (fun hHeld => ?_)
  clear hK K
  (try simp only [Act.put, sEa, sEb, sEc])
  obtain ⟨V1, hV1⟩ : ∃ V1, V1 = W3.alloc (.cells #[.int .u8 (e.src + 1)] 5) := ⟨_, rfl⟩
  rw [← hV1] at hbn1 hB1 ⊢
  have hcv := HCV.out _ _ hB1
  clear hV1
  refine wpAnyH_ready (rs := [8, 13]) (by kernel_rfl) (by simp) ?_
  refine AllReadyH.cons (by (simp only [gEa, gEb, gEc]; try rfl)) (fun K hK => ?_) (AllReadyH.cons (by (simp only [gEa, gEb, gEc]; try rfl)) (fun K hK => ?_) (AllReadyH.nil))
  ·skip
   go_simp
   refine hK.out _ _ (by exact HCL.out _ hbn1) (fun hHeld => ?_)
   clear hK K
   (try simp only [Act.put, sEa, sEb, sEc])
   refine hTk (i := 9) (oi := ?a9_11) (v := ?v9_11) (by (simp only [gEa, gEb, gEc]; try rfl)) (by kernel_rfl) ?b9_11 (Or.inl ⟨by rfl, ?c9_11⟩) hHeld ?d9_11; (case c9_11 => (intro wz hSw; (try dsimp only at hSw); go_simp; first | done | with_reducible rfl)); (case b9_11 => exact fun _ _ _ h => h); (try simp only [Act.put, sEa, sEb, sEc])
   refine wpAnyH_ready (rs := [13]) (by kernel_rfl) (by simp) ?_
   refine AllReadyH.cons (by (simp only [gEa, gEb, gEc]; try rfl)) (fun K hK => ?_) (AllReadyH.nil)
   go_simp
   go_at_call 123
   refine (HI1.out _).mono ?_
   rintro r V3 ⟨rfl, hc3⟩
   have hbn3 := hbn1.trans (hc3.mono hbn1.size)
   have hB3 := hB1.below hc3 hB1.lt
   refine hK.out _ _ (by exact HCL.out _ hbn3) (fun hHeld => ?_)
   clear hK K
   (try simp only [Act.put, sEa, sEb, sEc])
   refine hTk (i := 14) (oi := ?a14_12) (v := ?v14_12) (by (simp only [gEa, gEb, gEc]; try rfl)) (by kernel_rfl) ?b14_12 (Or.inl ⟨by rfl, ?c14_12⟩) hHeld ?d14_12; (case c14_12 => (intro wz hSw; (try dsimp only at hSw); go_simp; first | done | with_reducible rfl)); (case b14_12 => exact fun _ _ _ h => h); (try simp only [Act.put, sEa, sEb, sEc])
   refine wpAnyH_ready (rs := [17]) (by kernel_rfl) (by simp) ?_
   refine AllReadyH.cons (by (simp only [gEa, gEb, gEc]; try rfl)) (fun K hK => ?_) (AllReadyH.nil)
   go_simp
   go_at_call 123
   refine (HI2.out _).mono ?_
   rintro r V4 ⟨rfl, hc4⟩
   have hbn4 := hbn3.trans (hc4.mono hbn3.size)
   have hB4 := hB3.below hc4 hB3.lt
   refine hK.out _ _ (by exact HCL.out _ hbn4) (fun hHeld => ?_)
   clear hK K
   (try simp only [Act.put, sEa, sEb, sEc])
   refine hTk (i := 18) (oi := ?a18_13) (v := ?v18_13) (by (simp only [gEa, gEb, gEc]; try rfl)) (by kernel_rfl) ?b18_13 (Or.inl ⟨by rfl, ?c18_13⟩) hHeld ?d18_13; (case c18_13 => (intro wz hSw; (try dsimp only at hSw); go_simp; first | done | with_reducible rfl)); (case b18_13 => exact fun _ _ _ h => h); (try simp only [Act.put, sEa, sEb, sEc]); refine hTk (i := 19) (oi := ?a19_13) (v := ?v19_13) (by (simp only [gEa, gEb, gEc]; try rfl)) (by kernel_rfl) ?b19_13 (Or.inl ⟨by rfl, ?c19_13⟩) hHeld ?d19_13; (case c19_13 => (intro wz hSw; (try dsimp only at hSw); go_simp; first | done | with_reducible rfl)); (case b19_13 => exact fun _ _ _ h => h); (try simp only [Act.put, sEa, sEb, sEc])
   refine wpAnyH_done (by kernel_rfl) ?_ _
   have HF := hid (HB.out.trans (hbn4.mono HB.out.size))
   go_wp2
   go_ret
   exact ⟨by rw [HKB.out]; rfl, HF.out⟩
  ·skip
   go_simp
   go_at_call 123
   refine (HI1.out _).mono ?_
   rintro r V5 ⟨rfl, hc5⟩
   have hbn5 := hbn1.trans (hc5.mono hbn1.size)
   have hB5 := hB1.below hc5 hB1.lt
   have hcv := HCV.out _ _ hB5
   refine hK.out _ _ (by exact HCL.out _ hbn5) (fun hHeld => ?_)
   clear hK K
   (try simp only [Act.put, sEa, sEb, sEc])
   refine wpAnyH_ready (rs := [8, 17]) (by kernel_rfl) (by simp) ?_
   refine AllReadyH.cons (by (simp only [gEa, gEb, gEc]; try rfl)) (fun K hK => ?_) (AllReadyH.cons (by (simp only [gEa, gEb, gEc]; try rfl)) (fun K hK => ?_) (AllReadyH.nil))
   ·skip
    go_simp
    refine hK.out _ _ (by exact HCL.out _ hbn5) (fun hHeld => ?_)
    clear hK K
    (try simp only [Act.put, sEa, sEb, sEc])
    refine hTk (i := 9) (oi := ?a9_14) (v := ?v9_14) (by (simp only [gEa, gEb, gEc]; try rfl)) (by kernel_rfl) ?b9_14 (Or.inl ⟨by rfl, ?c9_14⟩) hHeld ?d9_14; (case c9_14 => (intro wz hSw; (try dsimp only at hSw); go_simp; first | done | with_reducible rfl)); (case b9_14 => exact fun _ _ _ h => h); (try simp only [Act.put, sEa, sEb, sEc]); refine hTk (i := 14) (oi := ?a14_14) (v := ?v14_14) (by (simp only [gEa, gEb, gEc]; try rfl)) (by kernel_rfl) ?b14_14 (Or.inl ⟨by rfl, ?c14_14⟩) hHeld ?d14_14; (case c14_14 => (intro wz hSw; (try dsimp only at hSw); go_simp; first | done | with_reducible rfl)); (case b14_14 => exact fun _ _ _ h => h); (try simp only [Act.put, sEa, sEb, sEc])
    refine wpAnyH_ready (rs := [17]) (by kernel_rfl) (by simp) ?_
    refine AllReadyH.cons (by (simp only [gEa, gEb, gEc]; try rfl)) (fun K hK => ?_) (AllReadyH.nil)
    go_simp
    go_at_call 123
    refine (HI2.out _).mono ?_
    rintro r V7 ⟨rfl, hc7⟩
    have hbn7 := hbn5.trans (hc7.mono hbn5.size)
    have hB7 := hB5.below hc7 hB5.lt
    refine hK.out _ _ (by exact HCL.out _ hbn7) (fun hHeld => ?_)
    clear hK K
    (try simp only [Act.put, sEa, sEb, sEc])
    refine hTk (i := 18) (oi := ?a18_15) (v := ?v18_15) (by (simp only [gEa, gEb, gEc]; try rfl)) (by kernel_rfl) ?b18_15 (Or.inl ⟨by rfl, ?c18_15⟩) hHeld ?d18_15; (case c18_15 => (intro wz hSw; (try dsimp only at hSw); go_simp; first | done | with_reducible rfl)); (case b18_15 => exact fun _ _ _ h => h); (try simp only [Act.put, sEa, sEb, sEc]); refine hTk (i := 19) (oi := ?a19_15) (v := ?v19_15) (by (simp only [gEa, gEb, gEc]; try rfl)) (by kernel_rfl) ?b19_15 (Or.inl ⟨by rfl, ?c19_15⟩) hHeld ?d19_15; (case c19_15 => (intro wz hSw; (try dsimp only at hSw); go_simp; first | done | with_reducible rfl)); (case b19_15 => exact fun _ _ _ h => h); (try simp only [Act.put, sEa, sEb, sEc])
    refine wpAnyH_done (by kernel_rfl) ?_ _
    have HF := hid (HB.out.trans (hbn7.mono HB.out.size))
    go_wp2
    go_ret
    exact ⟨by rw [HKB.out]; rfl, HF.out⟩
   ·skip
    go_simp
    go_at_call 123
    refine (HI2.out _).mono ?_
    rintro r V8 ⟨rfl, hc8⟩
    have hbn8 := hbn5.trans (hc8.mono hbn5.size)
    have hB8 := hB5.below hc8 hB5.lt
    have hcv := HCV.out _ _ hB8
    refine hK.out _ _ (by exact HCL.out _ hbn8) (fun hHeld => ?_)
    clear hK K
    (try simp only [Act.put, sEa, sEb, sEc])
    refine wpAnyH_ready (rs := [8]) (by kernel_rfl) (by simp) ?_
    refine AllReadyH.cons (by (simp only [gEa, gEb, gEc]; try rfl)) (fun K hK => ?_) (AllReadyH.nil)
    go_simp
    refine hK.out _ _ (by exact HCL.out _ hbn8) (fun hHeld => ?_)
    clear hK K
    (try simp only [Act.put, sEa, sEb, sEc])
    refine hTk (i := 9) (oi := ?a9_16) (v := ?v9_16) (by (simp only [gEa, gEb, gEc]; try rfl)) (by kernel_rfl) ?b9_16 (Or.inl ⟨by rfl, ?c9_16⟩) hHeld ?d9_16; (case c9_16 => (intro wz hSw; (try dsimp only at hSw); go_simp; first | done | with_reducible rfl)); (case b9_16 => exact fun _ _ _ h => h); (try simp only [Act.put, sEa, sEb, sEc]); refine hTk (i := 14) (oi := ?a14_16) (v := ?v14_16) (by (simp only [gEa, gEb, gEc]; try rfl)) (by kernel_rfl) ?b14_16 (Or.inl ⟨by rfl, ?c14_16⟩) hHeld ?d14_16; (case c14_16 => (intro wz hSw; (try dsimp only at hSw); go_simp; first | done | with_reducible rfl)); (case b14_16 => exact fun _ _ _ h => h); (try simp only [Act.put, sEa, sEb, sEc]); refine hTk (i := 18) (oi := ?a18_16) (v := ?v18_16) (by (simp only [gEa, gEb, gEc]; try rfl)) (by kernel_rfl) ?b18_16 (Or.inl ⟨by rfl, ?c18_16⟩) hHeld ?d18_16; (case c18_16 => (intro wz hSw; (try dsimp only at hSw); go_simp; first | done | with_reducible rfl)); (case b18_16 => exact fun _ _ _ h => h); (try simp only [Act.put, sEa, sEb, sEc]); refine hTk (i := 19) (oi := ?a19_16) (v := ?v19_16) (by (simp only [gEa, gEb, gEc]; try rfl)) (by kernel_rfl) ?b19_16 (Or.inl ⟨by rfl, ?c19_16⟩) hHeld ?d19_16; (case c19_16 => (intro wz hSw; (try dsimp only at hSw); go_simp; first | done | with_reducible rfl)); (case b19_16 => exact fun _ _ _ h => h); (try simp only [Act.put, sEa, sEb, sEc])
    refine wpAnyH_done (by kernel_rfl) ?_ _
    have HF := hid (HB.out.trans (hbn8.mono HB.out.size))
    go_wp2
    go_ret
    exact ⟨by rw [HKB.out]; rfl, HF.out⟩
 ·skip
  go_simp
  go_at_call 123
  refine (HI1.out _).mono ?_
  rintro r V10 ⟨rfl, hc10⟩
  have hbn10 := hbD.trans (hc10.mono hbD.size)
  refine hK.out _ _ (by exact HCL.out _ hbn10) (fun hHeld => ?_)
  clear hK K
  (try simp only [Act.put, sEa, sEb, sEc])
  refine wpAnyH_ready (rs := [7, 17]) (by kernel_rfl) (by simp) ?_
  refine AllReadyH.cons (by (simp only [gEa, gEb, gEc]; try rfl)) (fun K hK => ?_) (AllReadyH.cons (by (simp only [gEa, gEb, gEc]; try rfl)) (fun K hK => ?_) (AllReadyH.nil))
  ·skip
   go_simp
   have hbn11 := hbn10.alloc hbn10.size (.cells #[.int .u8 (e.src + 1)] 5)
   have hB11 := Blk.new V10 5 #[.int .u8 (e.src + 1)]
   refine hK.out _ _ (by exact HCL.out _ hbn11) (fun hHeld => ?_)
   clear hK K
   (try simp only [Act.put, sEa, sEb, sEc])
   obtain ⟨V11, hV11⟩ : ∃ V11, V11 = V10.alloc (.cells #[.int .u8 (e.src + 1)] 5) := ⟨_, rfl⟩
   rw [← hV11] at hbn11 hB11 ⊢
   have hcv := HCV.out _ _ hB11
   clear hV11
   refine wpAnyH_ready (rs := [8, 17]) (by kernel_rfl) (by simp) ?_
   refine AllReadyH.cons (by (simp only [gEa, gEb, gEc]; try rfl)) (fun K hK => ?_) (AllReadyH.cons (by (simp only [gEa, gEb, gEc]; try rfl)) (fun K hK => ?_) (AllReadyH.nil))
   ·skip
    go_simp
    refine hK.out _ _ (by exact HCL.out _ hbn11) (fun hHeld => ?_)
    clear hK K
    (try simp only [Act.put, sEa, sEb, sEc])
    refine hTk (i := 9) (oi := ?a9_17) (v := ?v9_17) (by (simp only [gEa, gEb, gEc]; try rfl)) (by kernel_rfl) ?b9_17 (Or.inl ⟨by rfl, ?c9_17⟩) hHeld ?d9_17; (case c9_17 => (intro wz hSw; (try dsimp only at hSw); go_simp; first | done | with_reducible rfl)); (case b9_17 => exact fun _ _ _ h => h); (try simp only [Act.put, sEa, sEb, sEc]); refine hTk (i := 14) (oi := ?a14_17) (v := ?v14_17) (by (simp only [gEa, gEb, gEc]; try rfl)) (by kernel_rfl) ?b14_17 (Or.inl ⟨by rfl, ?c14_17⟩) hHeld ?d14_17; (case c14_17 => (intro wz hSw; (try dsimp only at hSw); go_simp; first | done | with_reducible rfl)); (case b14_17 => exact fun _ _ _ h => h); (try simp only [Act.put, sEa, sEb, sEc])
    refine wpAnyH_ready (rs := [17]) (by kernel_rfl) (by simp) ?_
    refine AllReadyH.cons (by (simp only [gEa, gEb, gEc]; try rfl)) (fun K hK => ?_) (AllReadyH.nil)
    go_simp
    go_at_call 123
    refine (HI2.out _).mono ?_
    rintro r V13 ⟨rfl, hc13⟩
    have hbn13 := hbn11.trans (hc13.mono hbn11.size)
    have hB13 := hB11.below hc13 hB11.lt
    refine hK.out _ _ (by exact HCL.out _ hbn13) (fun hHeld => ?_)
    clear hK K
    (try simp only [Act.put, sEa, sEb, sEc])
    refine hTk (i := 18) (oi := ?a18_18) (v := ?v18_18) (by (simp only [gEa, gEb, gEc]; try rfl)) (by kernel_rfl) ?b18_18 (Or.inl ⟨by rfl, ?c18_18⟩) hHeld ?d18_18; (case c18_18 => (intro wz hSw; (try dsimp only at hSw); go_simp; first | done | with_reducible rfl)); (case b18_18 => exact fun _ _ _ h => h); (try simp only [Act.put, sEa, sEb, sEc]); refine hTk (i := 19) (oi := ?a19_18) (v := ?v19_18) (by (simp only [gEa, gEb, gEc]; try rfl)) (by kernel_rfl) ?b19_18 (Or.inl ⟨by rfl, ?c19_18⟩) hHeld ?d19_18; (case c19_18 => (intro wz hSw; (try dsimp only at hSw); go_simp; first | done | with_reducible rfl)); (case b19_18 => exact fun _ _ _ h => h); (try simp only [Act.put, sEa, sEb, sEc])
    refine wpAnyH_done (by kernel_rfl) ?_ _
    have HF := hid (HB.out.trans (hbn13.mono HB.out.size))
    go_wp2
    go_ret
    exact ⟨by rw [HKB.out]; rfl, HF.out⟩
   ·skip
    go_simp
    go_at_call 123
    refine (HI2.out _).mono ?_
    rintro r V14 ⟨rfl, hc14⟩
    have hbn14 := hbn11.trans (hc14.mono hbn11.size)
    have hB14 := hB11.below hc14 hB11.lt
    have hcv := HCV.out _ _ hB14
    refine hK.out _ _ (by exact HCL.out _ hbn14) (fun hHeld => ?_)
    clear hK K
    (try simp only [Act.put, sEa, sEb, sEc])
    refine wpAnyH_ready (rs := [8]) (by kernel_rfl) (by simp) ?_
    refine AllReadyH.cons (by (simp only [gEa, gEb, gEc]; try rfl)) (fun K hK => ?_) (AllReadyH.nil)
    go_simp
    refine hK.out _ _ (by exact HCL.out _ hbn14) (fun hHeld => ?_)
    clear hK K
    (try simp only [Act.put, sEa, sEb, sEc])
    refine hTk (i := 9) (oi := ?a9_19) (v := ?v9_19) (by (simp only [gEa, gEb, gEc]; try rfl)) (by kernel_rfl) ?b9_19 (Or.inl ⟨by rfl, ?c9_19⟩) hHeld ?d9_19; (case c9_19 => (intro wz hSw; (try dsimp only at hSw); go_simp; first | done | with_reducible rfl)); (case b9_19 => exact fun _ _ _ h => h); (try simp only [Act.put, sEa, sEb, sEc]); refine hTk (i := 14) (oi := ?a14_19) (v := ?v14_19) (by (simp only [gEa, gEb, gEc]; try rfl)) (by kernel_rfl) ?b14_19 (Or.inl ⟨by rfl, ?c14_19⟩) hHeld ?d14_19; (case c14_19 => (intro wz hSw; (try dsimp only at hSw); go_simp; first | done | with_reducible rfl)); (case b14_19 => exact fun _ _ _ h => h); (try simp only [Act.put, sEa, sEb, sEc]); refine hTk (i := 18) (oi := ?a18_19) (v := ?v18_19) (by (simp only [gEa, gEb, gEc]; try rfl)) (by kernel_rfl) ?b18_19 (Or.inl ⟨by rfl, ?c18_19⟩) hHeld ?d18_19; (case c18_19 => (intro wz hSw; (try dsimp only at hSw); go_simp; first | done | with_reducible rfl)); (case b18_19 => exact fun _ _ _ h => h); (try simp only [Act.put, sEa, sEb, sEc]); refine hTk (i := 19) (oi := ?a19_19) (v := ?v19_19) (by (simp only [gEa, gEb, gEc]; try rfl)) (by kernel_rfl) ?b19_19 (Or.inl ⟨by rfl, ?c19_19⟩) hHeld ?d19_19; (case c19_19 => (intro wz hSw; (try dsimp only at hSw); go_simp; first | done | with_reducible rfl)); (case b19_19 => exact fun _ _ _ h => h); (try simp only [Act.put, sEa, sEb, sEc])
    refine wpAnyH_done (by kernel_rfl) ?_ _
    have HF := hid (HB.out.trans (hbn14.mono HB.out.size))
    go_wp2
    go_ret
    exact ⟨by rw [HKB.out]; rfl, HF.out⟩
  ·skip
   go_simp
   go_at_call 123
   refine (HI2.out _).mono ?_
   rintro r V16 ⟨rfl, hc16⟩
   have hbn16 := hbn10.trans (hc16.mono hbn10.size)
   refine hK.out _ _ (by exact HCL.out _ hbn16) (fun hHeld => ?_)
   clear hK K
   (try simp only [Act.put, sEa, sEb, sEc])
   refine wpAnyH_ready (rs := [7]) (by kernel_rfl) (by simp) ?_
   refine AllReadyH.cons (by (simp only [gEa, gEb, gEc]; try rfl)) (fun K hK => ?_) (AllReadyH.nil)
   go_simp
   have hbn17 := hbn16.alloc hbn16.size (.cells #[.int .u8 (e.src + 1)] 5)
   have hB17 := Blk.new V16 5 #[.int .u8 (e.src + 1)]
   refine hK.out _ _ (by exact HCL.out _ hbn17) (fun hHeld => ?_)
   clear hK K
   (try simp only [Act.put, sEa, sEb, sEc])
   obtain ⟨V17, hV17⟩ : ∃ V17, V17 = V16.alloc (.cells #[.int .u8 (e.src + 1)] 5) := ⟨_, rfl⟩
   rw [← hV17] at hbn17 hB17 ⊢
   have hcv := HCV.out _ _ hB17
   clear hV17
   refine wpAnyH_ready (rs := [8]) (by kernel_rfl) (by simp) ?_
   refine AllReadyH.cons (by (simp only [gEa, gEb, gEc]; try rfl)) (fun K hK => ?_) (AllReadyH.nil)
   go_simp
   refine hK.out _ _ (by exact HCL.out _ hbn17) (fun hHeld => ?_)
   clear hK K
   (try simp only [Act.put, sEa, sEb, sEc])
   refine hTk (i := 9) (oi := ?a9_20) (v := ?v9_20) (by (simp only [gEa, gEb, gEc]; try rfl)) (by kernel_rfl) ?b9_20 (Or.inl ⟨by rfl, ?c9_20⟩) hHeld ?d9_20; (case c9_20 => (intro wz hSw; (try dsimp only at hSw); go_simp; first | done | with_reducible rfl)); (case b9_20 => exact fun _ _ _ h => h); (try simp only [Act.put, sEa, sEb, sEc]); refine hTk (i := 14) (oi := ?a14_20) (v := ?v14_20) (by (simp only [gEa, gEb, gEc]; try rfl)) (by kernel_rfl) ?b14_20 (Or.inl ⟨by rfl, ?c14_20⟩) hHeld ?d14_20; (case c14_20 => (intro wz hSw; (try dsimp only at hSw); go_simp; first | done | with_reducible rfl)); (case b14_20 => exact fun _ _ _ h => h); (try simp only [Act.put, sEa, sEb, sEc]); refine hTk (i := 18) (oi := ?a18_20) (v := ?v18_20) (by (simp only [gEa, gEb, gEc]; try rfl)) (by kernel_rfl) ?b18_20 (Or.inl ⟨by rfl, ?c18_20⟩) hHeld ?d18_20; (case c18_20 => (intro wz hSw; (try dsimp only at hSw); go_simp; first | done | with_reducible rfl)); (case b18_20 => exact fun _ _ _ h => h); (try simp only [Act.put, sEa, sEb, sEc]); refine hTk (i := 19) (oi := ?a19_20) (v := ?v19_20) (by (simp only [gEa, gEb, gEc]; try rfl)) (by kernel_rfl) ?b19_20 (Or.inl ⟨by rfl, ?c19_20⟩) hHeld ?d19_20; (case c19_20 => (intro wz hSw; (try dsimp only at hSw); go_simp; first | done | with_reducible rfl)); (case b19_20 => exact fun _ _ _ h => h); (try simp only [Act.put, sEa, sEb, sEc])
   refine wpAnyH_done (by kernel_rfl) ?_ _
   have HF := hid (HB.out.trans (hbn17.mono HB.out.size))
   go_wp2
   go_ret
   exact ⟨by rw [HKB.out]; rfl, HF.out⟩
end
end Go.Proofs.YtnnghcooidjlhaaGreat
