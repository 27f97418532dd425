/- Parts of the proof: Zg. -/
import Derived.Test.YtnnghcooidjlhaaGreatE32
set_option linter.all false
set_option maxRecDepth 100000
namespace Go.Proofs.YtnnghcooidjlhaaGreat
section
open Go.RowKit Go.Lib
theorem Blk.far7 {w : World} {g b : Nat} {t : TypeId} {cs : Array Value} (h : Blk w g t cs) (hne : g ≠ b) (u0 u1 u2 u3 u4 u5 u6 : Value) :
  Blk (((((((w.setCell ⟨b, 0, none⟩ u0).setCell ⟨b, 1, none⟩ u1).setCell ⟨b, 2, none⟩ u2).setCell ⟨b, 3, none⟩ u3).setCell ⟨b, 4, none⟩ u4).setCell ⟨b, 5, none⟩ u5).setCell ⟨b, 6, none⟩ u6) g t cs :=
 ((((((h.far hne u0).far hne u1).far hne u2).far hne u3).far hne u4).far hne u5).far hne u6
set_option maxHeartbeats 8000000 in
theorem oitem_any (x : It) (hr : x.right) (ho : x.e.ok) (hn : x.e.nrm = x.e) (w : World) :
  Calls Tryz.prog 100 #[.agg #[.string (S x.key), .string (S (evB x.e))]] w fun r w' => r = .returned (.tuple #[itV x, .int .i64 0]) ∧ Below w.heap.size w w' := by
 have HG := hid (fun W => getev_any x.e hr.2 ho W)
 rw [hn] at HG
 have hkl : x.key.length = 26 := It.key_len hr.1
 have htk : x.key.take 25 = x.c := by unfold It.key; exact List.take_left' hr.1.1
 have hby : ((UInt8.ofNat x.k.toNat).toNat : Int) = x.k := by have := hr.1.2; simp; omega
 have hget : x.key[25]'(by omega) = UInt8.ofNat x.k.toNat := by
  have h1 : x.key[25]? = some (UInt8.ofNat x.k.toNat) := by
   unfold It.key oneB
   rw [List.getElem?_append_right (by have := hr.1.1; omega), hr.1.1]
   rfl
  exact (List.getElem?_eq_some_iff.1 h1).2
 have hval : IntKind.i64.wrap ((x.key[25]'(by omega)).toNat : Int) = x.k := by
  rw [hget, hby, IntKind.wrap_i64]
  have := hr.1.2
  omega
 clear hget hby
 unfold evV at HG
 obtain ⟨W2, hW2⟩ : ∃ W2, W2 = (w.alloc (.cells #[.string (S x.key), .string (S (evB x.e))] 168)).alloc (.cells #[.string ⟨#[]⟩, .int .i64 0, .float .f64 0, .int .i64 0, .int .i64 0, .int .i64 0, .int .i64 0] 69) := ⟨_, rfl⟩
 have hb2 : Below w.heap.size w W2 := by rw [hW2]; exact ((Below.refl _ w).alloc (Nat.le_refl _) _).alloc (by simp) _
 have hA2 : Blk W2 w.heap.size 168 #[.string (S x.key), .string (S (evB x.e))] := by rw [hW2]; exact (Blk.new w _ _).alloc _
 have hB2 : Blk W2 (w.heap.size + 1) 69 #[.string ⟨#[]⟩, .int .i64 0, .float .f64 0, .int .i64 0, .int .i64 0, .int .i64 0, .int .i64 0] := by
  rw [hW2]
  have := Blk.new (w.alloc (.cells #[.string (S x.key), .string (S (evB x.e))] 168)) 69 #[.string ⟨#[]⟩, .int .i64 0, .float .f64 0, .int .i64 0, .int .i64 0, .int .i64 0, .int .i64 0]
  simpa using this
 have HG2 := hid (HG.out W2)
 rw [hW2] at HG2
 have HX := hid (⟨hb2, hA2, hB2⟩ : _ ∧ _ ∧ _)
 have HWW := hid hW2
 clear hr ho hn hb2 hA2 hB2 hW2
 unfold itV
 go_enter Tryz.func100, Tryz.ntmps100
 go_wp2_with fail
 (with_reducible refine HG2.out.mono ?_)
 rintro r W3 ⟨rfl, hb3⟩
 rw [← HWW.out] at hb3
 have hA3 := HX.out.2.1.below hb3 HX.out.2.1.lt
 have hB3 := HX.out.2.2.below hb3 HX.out.2.2.lt
 have hb03 := HX.out.1.trans (hb3.mono HX.out.1.size)
 have H3 := hid (⟨hA3, hB3, hb03⟩ : _ ∧ _ ∧ _)
 clear hA3 hB3 hb03 hb3
 go_wp2_with (with_reducible refine stopLoad 9 rfl ?_)
 obtain ⟨W4, hW4⟩ : ∃ W4, W4 = W3.alloc (.cells #[.float .f64 x.e.t, .int .i64 x.e.src, .int .i64 x.e.n, .int .i64 x.e.dst, .int .i64 x.e.pay] 67) := ⟨_, rfl⟩
 rw [← hW4]
 with_reducible refine goOn ?_
 have hb4 : Below W3.heap.size W3 W4 := by rw [hW4]; exact (Below.refl _ W3).alloc (Nat.le_refl _) _
 have hY4 : Blk W4 W3.heap.size 67 #[.float .f64 x.e.t, .int .i64 x.e.src, .int .i64 x.e.n, .int .i64 x.e.dst, .int .i64 x.e.pay] := by rw [hW4]; exact Blk.new W3 _ _
 have hA4 := H3.out.1.below hb4 H3.out.1.lt
 have hB4 := H3.out.2.1.below hb4 H3.out.2.1.lt
 have hb04 := H3.out.2.2.trans (hb4.mono H3.out.2.2.size)
 have hlt3 := H3.out.2.1.lt
 have hne1 : w.heap.size ≠ w.heap.size + 1 := by omega
 have hne2 : W3.heap.size ≠ w.heap.size + 1 := by omega
 have a0 : W4.cell? ⟨w.heap.size, 0, none⟩ = some (.string (S x.key)) := hA4.cell 0
 obtain ⟨W5, hW5⟩ : ∃ W5, W5 = W4.drew := ⟨_, rfl⟩
 have hA5 : Blk W5 w.heap.size 168 #[.string (S x.key), .string (S (evB x.e))] := by rw [hW5]; exact hA4.drew
 have hB5 : Blk W5 (w.heap.size + 1) 69 #[.string ⟨#[]⟩, .int .i64 0, .float .f64 0, .int .i64 0, .int .i64 0, .int .i64 0, .int .i64 0] := by rw [hW5]; exact hB4.drew
 have hY5 : Blk W5 W3.heap.size 67 #[.float .f64 x.e.t, .int .i64 x.e.src, .int .i64 x.e.n, .int .i64 x.e.dst, .int .i64 x.e.pay] := by rw [hW5]; exact hY4.drew
 have hb05 : Below w.heap.size w W5 := by rw [hW5]; exact below_drewN hb04 1
 have HS0 : Hid ((fun W => W.cell? ⟨w.heap.size, 0, none⟩ = some (.string (S x.key)) ∧ W.cell? ⟨W3.heap.size, 0, none⟩ = some (.float .f64 x.e.t) ∧ W.cell? ⟨W3.heap.size, 1, none⟩ = some (.int .i64 x.e.src) ∧ W.cell? ⟨W3.heap.size, 2, none⟩ = some (.int .i64 x.e.n) ∧ W.cell? ⟨W3.heap.size, 3, none⟩ = some (.int .i64 x.e.dst) ∧ W.cell? ⟨W3.heap.size, 4, none⟩ = some (.int .i64 x.e.pay)) W5) := hid ⟨hA5.cell 0, hY5.cell 0, hY5.cell 1, hY5.cell 2, hY5.cell 3, hY5.cell 4⟩
 have HK9 : Hid (∀ u0 u1 u2 u3 u4 u5 u6 : Value, (fun W => W.cell? ⟨w.heap.size, 0, none⟩ = some (.string (S x.key)) ∧ W.cell? ⟨W3.heap.size, 0, none⟩ = some (.float .f64 x.e.t) ∧ W.cell? ⟨W3.heap.size, 1, none⟩ = some (.int .i64 x.e.src) ∧ W.cell? ⟨W3.heap.size, 2, none⟩ = some (.int .i64 x.e.n) ∧ W.cell? ⟨W3.heap.size, 3, none⟩ = some (.int .i64 x.e.dst) ∧ W.cell? ⟨W3.heap.size, 4, none⟩ = some (.int .i64 x.e.pay)) (((((((W5.setCell ⟨w.heap.size + 1, 0, none⟩ u0).setCell ⟨w.heap.size + 1, 1, none⟩ u1).setCell ⟨w.heap.size + 1, 2, none⟩ u2).setCell ⟨w.heap.size + 1, 3, none⟩ u3).setCell ⟨w.heap.size + 1, 4, none⟩ u4).setCell ⟨w.heap.size + 1, 5, none⟩ u5).setCell ⟨w.heap.size + 1, 6, none⟩ u6)) := hid fun u0 u1 u2 u3 u4 u5 u6 => by
  have k1 := hA5.far7 hne1 u0 u1 u2 u3 u4 u5 u6
  have k2 := hY5.far7 hne2 u0 u1 u2 u3 u4 u5 u6
  exact ⟨k1.cell 0, k2.cell 0, k2.cell 1, k2.cell 2, k2.cell 3, k2.cell 4⟩
 have H5 := hid (⟨hb05, hB5⟩ : _ ∧ _)
 have HW5 := hid hW5
 clear hW4 hb4 hY4 hA4 hB4 hb04 hA5 hY5 hb05 hW5
 go_wp2
 refine wp_region_held_drew (S := (fun W => W.cell? ⟨w.heap.size, 0, none⟩ = some (.string (S x.key)) ∧ W.cell? ⟨W3.heap.size, 0, none⟩ = some (.float .f64 x.e.t) ∧ W.cell? ⟨W3.heap.size, 1, none⟩ = some (.int .i64 x.e.src) ∧ W.cell? ⟨W3.heap.size, 2, none⟩ = some (.int .i64 x.e.n) ∧ W.cell? ⟨W3.heap.size, 3, none⟩ = some (.int .i64 x.e.dst) ∧ W.cell? ⟨W3.heap.size, 4, none⟩ = some (.int .i64 x.e.pay))) (by kernel_rfl) (by rw [← HW5.out]; exact HS0.out) (fun hHeld => ?_)
 rw [← HW5.out] at hHeld
 rw [← HW5.out]
 refine hTk (i := 0) (oi := ?a0_3) (v := ?v0_3) (by (simp only [gEa, gEb, gEc]; try rfl)) (by kernel_rfl) ?b0_3 (Or.inl ⟨by rfl, ?c0_3⟩) hHeld ?d0_3; (case c0_3 => (intro wz hSw; (try dsimp only at hSw); go_simp; first | done | with_reducible rfl)); (case b0_3 => exact fun _ _ _ h => h); (try simp only [Act.put, sEa, sEb, sEc]); refine hTk (i := 1) (oi := ?a1_3) (v := ?v1_3) (by (simp only [gEa, gEb, gEc]; try rfl)) (by kernel_rfl) ?b1_3 (Or.inl ⟨by rfl, ?c1_3⟩) hHeld ?d1_3; (case c1_3 => (intro wz hSw; (try dsimp only at hSw); go_simp; first | done | with_reducible rfl)); (case b1_3 => exact fun _ _ _ h => h); (try simp only [Act.put, sEa, sEb, sEc]); refine hTk (i := 2) (oi := ?a2_3) (v := ?v2_3) (by (simp only [gEa, gEb, gEc]; try rfl)) (by kernel_rfl) ?b2_3 (Or.inl ⟨by rfl, ?c2_3⟩) hHeld ?d2_3; (case c2_3 => (intro wz hSw; (try dsimp only at hSw); go_simp; first | done | with_reducible rfl)); (case b2_3 => exact fun _ _ _ h => h); (try simp only [Act.put, sEa, sEb, sEc]); refine hTk (i := 3) (oi := ?a3_3) (v := ?v3_3) (by (simp only [gEa, gEb, gEc]; try rfl)) (by kernel_rfl) ?b3_3 (Or.inl ⟨by rfl, ?c3_3⟩) hHeld ?d3_3; (case c3_3 => (intro wz hSw; (try dsimp only at hSw); go_simp; first | done | with_reducible rfl)); (case b3_3 => exact fun _ _ _ h => h); (try simp only [Act.put, sEa, sEb, sEc]); refine hTk (i := 4) (oi := ?a4_3) (v := ?v4_3) (by (simp only [gEa, gEb, gEc]; try rfl)) (by kernel_rfl) ?b4_3 (Or.inl ⟨by rfl, ?c4_3⟩) hHeld ?d4_3; (case c4_3 => (intro wz hSw; (try dsimp only at hSw); go_simp; first | done | with_reducible rfl)); (case b4_3 => exact fun _ _ _ h => h); (try simp only [Act.put, sEa, sEb, sEc]); refine hTk (i := 5) (oi := ?a5_3) (v := ?v5_3) (by (simp only [gEa, gEb, gEc]; try rfl)) (by kernel_rfl) ?b5_3 (Or.inl ⟨by rfl, ?c5_3⟩) hHeld ?d5_3; (case c5_3 => (intro wz hSw; (try dsimp only at hSw); go_simp; first | done | with_reducible rfl)); (case b5_3 => exact fun _ _ _ h => h); (try simp only [Act.put, sEa, sEb, sEc]); refine hTk (i := 6) (oi := ?a6_3) (v := ?v6_3) (by (simp only [gEa, gEb, gEc]; try rfl)) (by kernel_rfl) ?b6_3 (Or.inl ⟨by rfl, ?c6_3⟩) hHeld ?d6_3; (case c6_3 => (intro wz hSw; (try dsimp only at hSw); go_simp; first | done | with_reducible rfl)); (case b6_3 => exact fun _ _ _ h => h); (try simp only [Act.put, sEa, sEb, sEc]); refine hTk (i := 7) (oi := ?a7_3) (v := ?v7_3) (by (simp only [gEa, gEb, gEc]; try rfl)) (by kernel_rfl) ?b7_3 (Or.inl ⟨by rfl, ?c7_3⟩) hHeld ?d7_3; (case c7_3 => (intro wz hSw; (try dsimp only at hSw); go_simp; first | done | with_reducible rfl)); (case b7_3 => exact fun _ _ _ h => h); (try simp only [Act.put, sEa, sEb, sEc]); refine hTk (i := 8) (oi := ?a8_3) (v := ?v8_3) (by (simp only [gEa, gEb, gEc]; try rfl)) (by kernel_rfl) ?b8_3 (Or.inl ⟨by rfl, ?c8_3⟩) hHeld ?d8_3; (case c8_3 => (intro wz hSw; (try dsimp only at hSw); go_simp; first | done | with_reducible rfl)); (case b8_3 => exact fun _ _ _ h => h); (try simp only [Act.put, sEa, sEb, sEc])
 clear a0
 have b0 : W5.cell? ⟨w.heap.size + 1, 0, none⟩ = some (.string ⟨#[]⟩) := hB5.cell 0
 have b1 : W5.cell? ⟨w.heap.size + 1, 1, none⟩ = some (.int .i64 0) := hB5.cell 1
 have b2 : W5.cell? ⟨w.heap.size + 1, 2, none⟩ = some (.float .f64 0) := hB5.cell 2
 have b3 : W5.cell? ⟨w.heap.size + 1, 3, none⟩ = some (.int .i64 0) := hB5.cell 3
 have b4 : W5.cell? ⟨w.heap.size + 1, 4, none⟩ = some (.int .i64 0) := hB5.cell 4
 have b5 : W5.cell? ⟨w.heap.size + 1, 5, none⟩ = some (.int .i64 0) := hB5.cell 5
 have b6 : W5.cell? ⟨w.heap.size + 1, 6, none⟩ = some (.int .i64 0) := hB5.cell 6
 have bf0 := hB5.frozen 0
 have bf1 := hB5.frozen 1
 have bf2 := hB5.frozen 2
 have bf3 := hB5.frozen 3
 have bf4 := hB5.frozen 4
 have bf5 := hB5.frozen 5
 have bf6 := hB5.frozen 6
 have bl := hB5.lt
 clear hB5
 refine wpAnyH_ready (rs := [9]) (by kernel_rfl) (by simp) ?_; refine AllReadyH.cons (o := ?o9_4) (by (simp only [gEa, gEb, gEc]; try rfl)) (fun K hK => ?_) AllReadyH.nil; go_simp; refine hK.out _ _ (by exact HK9.out _ _ _ _ _ _ _) (fun hHeld => ?_); clear hK K; (try simp only [Act.put, sEa, sEb, sEc])
 refine hTk (i := 10) (oi := ?a10_5) (v := ?v10_5) (by (simp only [gEa, gEb, gEc]; try rfl)) (by kernel_rfl) ?b10_5 (Or.inl ⟨by rfl, ?c10_5⟩) hHeld ?d10_5; (case c10_5 => (intro wz hSw; (try dsimp only at hSw); go_simp; first | done | with_reducible rfl)); (case b10_5 => exact fun _ _ _ h => h); (try simp only [Act.put, sEa, sEb, sEc])
 refine wpAnyH_done (by kernel_rfl) ?_ _
 go_wp2
 have hr8 := (((((((H5.out.2.set_ 0 (.string (S x.c))).set_ 1 (.int .i64 x.k)).set_ 2 (.float .f64 x.e.t)).set_ 3 (.int .i64 x.e.src)).set_ 4 (.int .i64 x.e.n)).set_ 5 (.int .i64 x.e.dst)).set_ 6 (.int .i64 x.e.pay))
 have v0 := hr8.cell 0
 have v1 := hr8.cell 1
 have v2 := hr8.cell 2
 have v3 := hr8.cell 3
 have v4 := hr8.cell 4
 have v5 := hr8.cell 5
 have v6 := hr8.cell 6
 simp only [List.setIfInBounds_toArray, List.set_cons_zero, List.set_cons_succ, List.getElem?_toArray, List.getElem?_cons_zero, List.getElem?_cons_succ] at v0 v1 v2 v3 v4 v5 v6
 refine bodyPost_ret (v := .tuple #[.agg #[.string (S x.c), .int .i64 x.k, .float .f64 x.e.t, .int .i64 x.e.src, .int .i64 x.e.n, .int .i64 x.e.dst, .int .i64 x.e.pay], .int .i64 0]) (by simp [results, Tryz.results100, go_sem, v0, v1, v2, v3, v4, v5, v6]) rfl ?_
 exact ⟨rfl, ((((((H5.out.1.setCell (Nat.le_succ _) _).setCell (Nat.le_succ _) _).setCell (Nat.le_succ _) _).setCell (Nat.le_succ _) _).setCell (Nat.le_succ _) _).setCell (Nat.le_succ _) _).setCell (Nat.le_succ _) _⟩
section
variable {w w' : World} {xb yb : Nat} {s : SL} {sp sq lp : Int} {O : List Nat} {N L : Nat} {l m : List It}
theorem OxI.keep (h : OxI w xb yb s sp sq lp O N L l m) (hk : Kp O w w') {M : List KV} (hs : StI w' s O N M) (h1 : OxM M sp lp l) (h2 : OxM M sq lp m) (h3 : longs M = 0) (h4 : M.length ≤ L) : OxI w' xb yb s sp sq lp O N L l m := h.turn hk (Gr.refl _ _) hs h1 h2 h3 h4
theorem olist_no (h : OxI w xb yb s sp sq lp O N L l m) (fr to : Bs) (hf : ¬ (fr.length ≤ 30 ∧ to.length ≤ 30)) :
  Calls Tryz.prog 38 #[.pointer (some ⟨xb, 0, none⟩), .string (S fr), .string (S to)] w fun r w' => r = .returned (.tuple #[.slice none 0 0, .int .i64 2]) ∧ Below w.heap.size w w' := by
 have HS := hid (sscan_no (some ⟨s.sb, 0, none⟩) sp lp fr to 1099511627776 (c := 2) (mayE_long h.okp.not (by
  by_cases h1 : fr.length ≤ 30
  ·exact ⟨to, by simp, by omega⟩
  ·exact ⟨fr, by simp, by omega⟩)) (by decide) w.drew)
 have c0 : w.cell? ⟨xb, 0, none⟩ = some (.pointer (some ⟨s.sb, 0, none⟩)) := Blk.cell h.x 0
 have c1 : w.cell? ⟨xb, 1, none⟩ = some (.int .i64 sp) := Blk.cell h.x 1
 have c2 : w.cell? ⟨xb, 2, none⟩ = some (.int .i64 lp) := Blk.cell h.x 2
 have HCK : Hid (∀ W', Below w.drew.heap.size w.drew W' → W'.cell? ⟨xb, 0, none⟩ = some (.pointer (some ⟨s.sb, 0, none⟩)) ∧ W'.cell? ⟨xb, 1, none⟩ = some (.int .i64 sp) ∧ W'.cell? ⟨xb, 2, none⟩ = some (.int .i64 lp)) := hid fun W' hk => by
  have := (Blk.drew h.x).below hk (Blk.drew h.x).lt
  exact ⟨this.cell 0, this.cell 1, this.cell 2⟩
 clear h hf
 go_enter Tryz.func38, Tryz.ntmps38
 go_wp2
 go_region_held3 (fun W => W.cell? ⟨xb, 0, none⟩ = some (.pointer (some ⟨s.sb, 0, none⟩)) ∧ W.cell? ⟨xb, 1, none⟩ = some (.int .i64 sp) ∧ W.cell? ⟨xb, 2, none⟩ = some (.int .i64 lp)) (first | exact hck5 | exact ⟨c0, c1, c2⟩)
  (first
   | (go_at_call 84; refine HS.out.mono ?_; rintro r W5 ⟨rfl, hb5⟩; have hck5 := HCK.out W5 hb5))
 all_goals
  have HF := hid ((below_drewN (Below.refl w.heap.size w) 1).trans hb5)
  clear hb5 hck5
  go_wp2
  go_ret2
  exact ⟨rfl, HF.out⟩
set_option maxHeartbeats 8000000 in
theorem olist_any (h : OxI w xb yb s sp sq lp O N L l m) (hl : l.length ≤ 1000) (fr to : Bs) (hf : fr.length ≤ 30) (ht : to.length ≤ 30) :
  Calls Tryz.prog 38 #[.pointer (some ⟨xb, 0, none⟩), .string (S fr), .string (S to)] w fun r w' => ∃ v, r = .returned (.tuple #[v, .int .i64 0]) ∧ OxI w' xb yb s sp sq lp O N L l m ∧ Kp O w w' ∧ w'.ownsRow w.heap.size 69 7 v (insideO l fr to).length (rowV itC (insideO l fr to)) := by
 obtain ⟨M, h1, h2, h3, h4, h5⟩ := h.m
 have HS := hid (sscan_any (sp := sp) (lp := lp) (fr := fr) (to := to) (h1.below (below_drewN (Below.refl w.heap.size w) 1)) h.okp hf ht 1099511627776)
 rw [h2.scan fr to hl, show (itP (insideO l fr to)).length = (insideO l fr to).length by simp [itP]] at HS
 have c0 : w.cell? ⟨xb, 0, none⟩ = some (.pointer (some ⟨s.sb, 0, none⟩)) := Blk.cell h.x 0
 have c1 : w.cell? ⟨xb, 1, none⟩ = some (.int .i64 sp) := Blk.cell h.x 1
 have c2 : w.cell? ⟨xb, 2, none⟩ = some (.int .i64 lp) := Blk.cell h.x 2
 have HCK : Hid (∀ W', Kp O w.drew W' → W'.cell? ⟨xb, 0, none⟩ = some (.pointer (some ⟨s.sb, 0, none⟩)) ∧ W'.cell? ⟨xb, 1, none⟩ = some (.int .i64 sp) ∧ W'.cell? ⟨xb, 2, none⟩ = some (.int .i64 lp)) := hid fun W' hk => by
  have := (Blk.drew h.x).kp hk h.nxO
  exact ⟨this.cell 0, this.cell 1, this.cell 2⟩
 have HST : Hid (∀ W', StI W' s O N M → Kp O w W' → OxI W' xb yb s sp sq lp O N L l m) := hid fun W' hs hk => h.keep hk hs h2 h3 h4 h5
 have hlts := hid h.lts
 have HOK : Hid (∀ x ∈ insideO l fr to, x.right ∧ x.e.ok ∧ x.e.nrm = x.e) := hid fun x hx => h.ok x (List.mem_filter.1 hx).1
 have hle : (insideO l fr to).length ≤ 1000 := Nat.le_trans (List.length_filter_le _ _) hl
 generalize insideO l fr to = ls at HS HOK hle ⊢
 obtain ⟨nl, hnl⟩ : ∃ nl, nl = ls.length := ⟨_, rfl⟩
 have HNL := hid hnl
 rw [← hnl] at HS hle ⊢
 have hli : (nl : Int) ≤ 1000 := by omega
 have HL := hid hle
 clear h hl hf ht h1 h2 h3 h4 h5 hle hnl
 go_enter Tryz.func38, Tryz.ntmps38
 go_wp2
 go_region_held3 (fun W => W.cell? ⟨xb, 0, none⟩ = some (.pointer (some ⟨s.sb, 0, none⟩)) ∧ W.cell? ⟨xb, 1, none⟩ = some (.int .i64 sp) ∧ W.cell? ⟨xb, 2, none⟩ = some (.int .i64 lp)) (first | exact hck5 | exact ⟨c0, c1, c2⟩)
  (first
   | (go_at_call 84; refine HS.out.mono ?_; rintro r W1 ⟨v1, rfl, hS1, hk1, hO1⟩; have hck5 := HCK.out W1 hk1; obtain ⟨pa, pc, rfl⟩ := own_slice2 hO1))
 all_goals
  have hk01 : Kp O w W1 := (Kp.refl O w).drew.trans hk1
  have HI0 : Hid (OxI W1 xb yb s sp sq lp O N L l m ∧ Kp O w W1 ∧ W1.ownsRow w.heap.size 168 2 (.slice pa nl pc) nl (rowV pairC (itP ls)) ∧ W1.ownsRow W1.heap.size 69 7 (.slice none 0 0) 0 (rowV itC (ls.take 0)) ∧ W1.heap.size ≤ W1.heap.size) := hid ⟨HST.out W1 hS1 hk01, hk01, hO1, ⟨rfl, .inl ⟨rfl, rfl⟩⟩, Nat.le_refl _⟩
  have HB := hid (⟨fun b hb => hO1.lt b hb, hk01.size⟩ : (∀ b, (Value.slice pa nl pc).ownBlock = some b → w.heap.size ≤ b ∧ b < W1.heap.size) ∧ w.heap.size ≤ W1.heap.size)
  clear hS1 hk1 hO1 hck5 hk01
  go_wp2
  go_loopg [10, 39] nl (fun gg s10 s39 wr => ∃ (j : Nat) (v : Value), j ≤ nl ∧ nl - j ≤ gg ∧ s39 = .int .i64 j ∧ s10 = v ∧ Hid (OxI wr xb yb s sp sq lp O N L l m ∧ Kp O w wr ∧ wr.ownsRow w.heap.size 168 2 (.slice pa nl pc) nl (rowV pairC (itP ls)) ∧ wr.ownsRow W1.heap.size 69 7 v j (rowV itC (ls.take j)) ∧ W1.heap.size ≤ wr.heap.size))
  case atStart => exact ⟨0, _, by omega, by omega, rfl, rfl, HI0⟩
  case round =>
   obtain ⟨j, v, hj, hgg, rfl, rfl, HI⟩ := hrel
   by_cases hje : j < nl
   ·obtain ⟨x, hx⟩ : ∃ x, ls[j]? = some x := ⟨_, List.getElem?_eq_getElem (by rw [← HNL.out]; exact hje)⟩
    have hxm : x ∈ ls := List.mem_of_getElem? hx
    obtain ⟨hxr, hxo, hxn⟩ := HOK.out x hxm
    obtain ⟨hF, hk, hOp, hOo, hsz⟩ := HI.out
    obtain ⟨g, c, e1, hg1, hg2, hg3⟩ := own_form hOp (by omega)
    injection e1 with e1 elen e3
    clear elen
    subst e1 e3
    have hxp : (itP ls)[j]? = some (x.key, evB x.e) := by simp [itP, hx]
    have m0 : wr.cell? ⟨g, j * 2, none⟩ = some (.string (S x.key)) := own_at hOp rfl (j := j * 2) (by
     have := rowV_get pairC_len _ j _ hxp 0 (by omega)
     rw [Nat.add_zero] at this
     rw [this]; rfl)
    have m1 : wr.cell? ⟨g, j * 2 + 1, none⟩ = some (.string (S (evB x.e))) := own_at hOp rfl (j := j * 2 + 1) (by
     rw [rowV_get pairC_len _ j _ hxp 1 (by omega)]; rfl)
    have hji : (j : Int) < (nl : Int) := by omega
    obtain ⟨wo, hwo⟩ : ∃ wo, wo = wr := ⟨_, rfl⟩
    subst hwo
    have HM := hid (fun W => oitem_any x hxr hxo hxn W)
    unfold itV at HM
    have htk : ls.take (j + 1) = ls.take j ++ [x] := by rw [List.take_add_one, hx]; rfl
    have HTK := hid htk
    clear hx hxm hxr hxo hxn hF hk hOp hOo hsz hxp htk
    go_wp2_with fail
    (with_reducible refine (HM.out _).mono ?_)
    rintro r W4 ⟨rfl, hb4⟩
    obtain ⟨hF, hk, hOp, hOo, hsz⟩ := HI.out
    have hb04 : Below wo.heap.size wo W4 := hb4
    have hO4 := row_of hOo (fun b hb => hb04.block b (hOo.lt b hb).2)
    have hOp4 := row_of hOp (fun b hb => hb04.block b (hOp.lt b hb).2)
    obtain ⟨av, cv, rfl⟩ := own_slice2 hO4
    have H4 := hid (⟨hF.below hb04, hk.trans (Kp.of_below hb04), hOp4, hO4, Nat.le_trans hsz hb04.size⟩ : _ ∧ _ ∧ _ ∧ _ ∧ _)
    clear hb4 hb04 hF hk hOp hOo hsz hO4 hOp4
    go_wp2_with (with_reducible refine stopAt .append rfl ?_)
    with_reducible refine goOn ?_
    obtain ⟨W5, hW5⟩ : ∃ W5, W5 = W4.alloc (.cells #[.string (S x.c), .int .i64 x.k, .float .f64 x.e.t, .int .i64 x.e.src, .int .i64 x.e.n, .int .i64 x.e.dst, .int .i64 x.e.pay] 69) := ⟨_, rfl⟩
    have hs5 : W5.heap.size = W4.heap.size + 1 := by rw [hW5]; simp
    have hb5 : Below W4.heap.size W4 W5 := by rw [hW5]; exact (Below.refl _ W4).alloc (Nat.le_refl _) _
    rw [← hW5, ← hs5]
    clear hW5
    obtain ⟨hF, hk, hOp, hOo, hsz⟩ := H4.out
    have hO5 := row_of hOo (fun b hb => hb5.block b (hOo.lt b hb).2)
    have hOp5 := row_of hOp (fun b hb => hb5.block b (hOp.lt b hb).2)
    refine app_one rfl _ _ 75 rfl itC infItem Tryz.underlying75 rfl (by decide) (by decide) itC_len itC_one x hO5 (by have := HL.out; omega) (Nat.le_trans hsz hb5.size) rfl rfl ?_
    intro v' W6 hO6 hk6 _
    rw [← HTK.out] at hO6
    have hno6 : ∀ b, b < W1.heap.size → b ∉ (Value.slice av j cv).ownBlock.toList := fun b hb hm => by
     have := (hO5.lt b (Option.mem_toList.1 hm)).1
     omega
    have hF5 := hF.below hb5
    have hlt0 : ∀ b ∈ xb :: yb :: s.sb :: s.tb :: O, b < W1.heap.size := fun b hb => Nat.lt_of_lt_of_le (hlts.out b hb) HB.out.2
    have hF6 : OxI W6 xb yb s sp sq lp O N L l m := hF5.of_blocks (fun b hb => hk6.block b (hF5.lts b hb) (hno6 b (hlt0 b hb)))
    have hOp6 := row_of hOp5 (fun b hb => hk6.block b (hOp5.lt b hb).2 (hno6 b (HB.out.1 b hb).2))
    have hk06 : Kp O w W6 := (hk.trans (Kp.of_below hb5)).trans_gr (O' := (Value.slice av j cv).ownBlock.toList ++ O) (fun b hb => by
     rcases List.mem_append.1 hb with hb | hb
     ·have := (hO5.lt b (Option.mem_toList.1 hb)).1
      have := HB.out.2
      exact .inr (by omega)
     ·exact .inl hb) (hk6.mono (fun b hb => .inl (by simp [hb])))
    have HI6 := hid (⟨hF6, hk06, hOp6, hO6, Nat.le_trans (Nat.le_trans hsz hb5.size) hk6.size⟩ : _ ∧ _ ∧ _ ∧ _ ∧ _)
    clear hF hk hOp hOo hsz hO5 hOp5 hO6 hk6 hno6 hF5 hlt0 hF6 hOp6 hk06 hb5 hs5
    go_wp2
    go_roundg (nl - (j + 1))
    case measure => omega
    case rel => exact ⟨j + 1, v', by omega, by omega, by go_num, rfl, HI6⟩
   ·have hjl : j = nl := by omega
    have HJ := hid hjl
    have hji : ¬ ((j : Int) < (nl : Int)) := by omega
    clear hjl
    go_wp2
    go_ret2
    obtain ⟨hF, hk, hOp, hOo, hsz⟩ := HI.out
    rw [HJ.out, HNL.out, List.take_length, ← HNL.out] at hOo
    exact ⟨_, rfl, hF, hk, own_base hOo HB.out.2⟩
theorem oclear_no (h : OxI w xb yb s sp sq lp O N L l m) (fr to : Bs) (hf : ¬ (fr.length ≤ 30 ∧ to.length ≤ 30)) :
  Calls Tryz.prog 44 #[.pointer (some ⟨xb, 0, none⟩), .string (S fr), .string (S to)] w fun r w' => r = .returned (.tuple #[.int .i64 0, .int .i64 2]) ∧ Below w.heap.size w w' := by
 have HS := hid (sclear_no (some ⟨s.sb, 0, none⟩) sp lp fr to (c := 2) (mayE_long h.okp.not (by
  by_cases h1 : fr.length ≤ 30
  ·exact ⟨to, by simp, by omega⟩
  ·exact ⟨fr, by simp, by omega⟩)) (by decide) w.drew)
 have c0 : w.cell? ⟨xb, 0, none⟩ = some (.pointer (some ⟨s.sb, 0, none⟩)) := Blk.cell h.x 0
 have c1 : w.cell? ⟨xb, 1, none⟩ = some (.int .i64 sp) := Blk.cell h.x 1
 have c2 : w.cell? ⟨xb, 2, none⟩ = some (.int .i64 lp) := Blk.cell h.x 2
 have HCK : Hid (∀ W', Below w.drew.heap.size w.drew W' → W'.cell? ⟨xb, 0, none⟩ = some (.pointer (some ⟨s.sb, 0, none⟩)) ∧ W'.cell? ⟨xb, 1, none⟩ = some (.int .i64 sp) ∧ W'.cell? ⟨xb, 2, none⟩ = some (.int .i64 lp)) := hid fun W' hk => by
  have := (Blk.drew h.x).below hk (Blk.drew h.x).lt
  exact ⟨this.cell 0, this.cell 1, this.cell 2⟩
 clear h hf
 go_enter Tryz.func44, Tryz.ntmps44
 go_wp2
 go_region_held3 (fun W => W.cell? ⟨xb, 0, none⟩ = some (.pointer (some ⟨s.sb, 0, none⟩)) ∧ W.cell? ⟨xb, 1, none⟩ = some (.int .i64 sp) ∧ W.cell? ⟨xb, 2, none⟩ = some (.int .i64 lp)) (first | exact hck5 | exact ⟨c0, c1, c2⟩)
  (first
   | (go_at_call 93; refine HS.out.mono ?_; rintro r W5 ⟨rfl, hb5⟩; have hck5 := HCK.out W5 hb5))
 all_goals
  have HF := hid ((below_drewN (Below.refl w.heap.size w) 1).trans hb5)
  clear hb5 hck5
  go_wp2
  go_ret2
  exact ⟨rfl, HF.out⟩
set_option maxHeartbeats 4000000 in
theorem oclear_any (h : OxI w xb yb s sp sq lp O N L l m) (fr to : Bs) (hf : fr.length ≤ 30) (ht : to.length ≤ 30) :
  Calls Tryz.prog 44 #[.pointer (some ⟨xb, 0, none⟩), .string (S fr), .string (S to)] w fun r w' => r = .returned (.tuple #[.int .i64 (insideO l fr to).length, .int .i64 0]) ∧ OxI w' xb yb s sp sq lp O N L (outO l fr to) m ∧ Kp O w w' := by
 obtain ⟨M, h1, h2, h3, h4, h5⟩ := h.m
 have HS := hid (sclear_any (sp := sp) (lp := lp) (fr := fr) (to := to) (h1.below (below_drewN (Below.refl w.heap.size w) 1)) h.okp hf ht)
 rw [h2.count fr to] at HS
 have c0 : w.cell? ⟨xb, 0, none⟩ = some (.pointer (some ⟨s.sb, 0, none⟩)) := Blk.cell h.x 0
 have c1 : w.cell? ⟨xb, 1, none⟩ = some (.int .i64 sp) := Blk.cell h.x 1
 have c2 : w.cell? ⟨xb, 2, none⟩ = some (.int .i64 lp) := Blk.cell h.x 2
 have HCK : Hid (∀ W', Kp O w.drew W' → W'.cell? ⟨xb, 0, none⟩ = some (.pointer (some ⟨s.sb, 0, none⟩)) ∧ W'.cell? ⟨xb, 1, none⟩ = some (.int .i64 sp) ∧ W'.cell? ⟨xb, 2, none⟩ = some (.int .i64 lp)) := hid fun W' hk => by
  have := (Blk.drew h.x).kp hk h.nxO
  exact ⟨this.cell 0, this.cell 1, this.cell 2⟩
 have HST : Hid (∀ W', StI W' s O N (M.filter fun a => !inR (hdP sp lp ++ fr) (toK (hdP sp lp) to) a.1) → Kp O w W' → OxI W' xb yb s sp sq lp O N L (outO l fr to) m) := hid fun W' hs hk => by
  have hsub := List.filter_sublist (l := M) (p := fun a => !inR (hdP sp lp ++ fr) (toK (hdP sp lp) to) a.1)
  have h6 := longs_sub hsub
  exact h.turn hk (Gr.refl _ _) hs (h2.clear h.hlp fr to) (h3.clear_other h.hlp (hdO_ne h.sps lp) fr to) (by omega) (Nat.le_trans hsub.length_le h5)
 obtain ⟨nl, hnl⟩ : ∃ nl, nl = (insideO l fr to).length := ⟨_, rfl⟩
 rw [← hnl] at HS ⊢
 clear h hf ht h1 h2 h3 h4 h5 hnl
 go_enter Tryz.func44, Tryz.ntmps44
 go_wp2
 go_region_held3 (fun W => W.cell? ⟨xb, 0, none⟩ = some (.pointer (some ⟨s.sb, 0, none⟩)) ∧ W.cell? ⟨xb, 1, none⟩ = some (.int .i64 sp) ∧ W.cell? ⟨xb, 2, none⟩ = some (.int .i64 lp)) (first | exact hck5 | exact ⟨c0, c1, c2⟩)
  (first
   | (go_at_call 93; refine HS.out.mono ?_; rintro r W5 ⟨rfl, hS5, hk5⟩; have hck5 := HCK.out W5 hk5))
 all_goals
  have hk05 : Kp O w W5 := (Kp.refl O w).drew.trans hk5
  have HF := hid (⟨HST.out W5 hS5 hk05, hk05⟩ : _ ∧ _)
  clear hS5 hk5 hck5 hk05
  go_wp2
  go_ret2
  exact ⟨rfl, HF.out⟩
end
end
end Go.Proofs.YtnnghcooidjlhaaGreat
