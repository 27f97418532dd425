/- Parts of the proof: Zg Zh Zi. -/
import Derived.Test.YtnnghcooidjlhaaGreatC25
set_option linter.all false
section
set_option linter.unusedSimpArgs false
set_option linter.unusedVariables false
set_option maxRecDepth 100000
namespace Go.Proofs.YtnnghcooidjlhaaGreat
open Go.RowKit Go.Lib
theorem olist_nil (a b : ByteArray) (w : World) : Calls Tryz.prog 38 #[.pointer none, .string a, .string b] w fun e w' => e = .returned (.tuple #[.slice none 0 0, .int .i64 1]) ∧ w = w' := by
  go_enter Tryz.func38, Tryz.ntmps38
  go_wp2
  go_ret2
  exact ⟨rfl, rfl⟩
theorem oclear_nil (a b : ByteArray) (w : World) : Calls Tryz.prog 44 #[.pointer none, .string a, .string b] w fun e w' => e = .returned (.tuple #[.int .i64 0, .int .i64 1]) ∧ w = w' := by
  go_enter Tryz.func44, Tryz.ntmps44
  go_wp2
  go_ret2
  exact ⟨rfl, rfl⟩
theorem Blk.far7 {w : World} {g b : Nat} {t : TypeId} {cs : Array Value} (h : Blk w g t cs) (hne : g ≠ b) (u0 u1 u2 u3 u4 u5 u6 : Value) :
    Blk (((((((w.setCell ⟨b, 0, none⟩ u0).setCell ⟨b, 1, none⟩ u1).setCell ⟨b, 2, none⟩ u2).setCell ⟨b, 3, none⟩ u3).setCell ⟨b, 4, none⟩ u4).setCell ⟨b, 5, none⟩ u5).setCell ⟨b, 6, none⟩ u6) g t cs :=
  ((((((h.far hne u0).far hne u1).far hne u2).far hne u3).far hne u4).far hne u5).far hne u6
set_option maxHeartbeats 8000000 in
theorem oitem_any (x : It) (hr : x.right) (ho : x.e.ok) (hn : x.e.nrm = x.e) (w : World) :
    Calls Tryz.prog 100 #[.agg #[.string (S x.key), .string (S (evB x.e))]] w fun r w' => r = .returned (.tuple #[itV x, .int .i64 0]) ∧ Below w.heap.size w w' := by
  have HG := hid (fun W => getev_any x.e hr.2 ho W)
  rw [hn] at HG
  have hkl : x.key.length = 26 := It.key_len hr.1
  have htk : x.key.take 25 = x.c := by unfold It.key; exact List.take_left' hr.1.1
  have hby : ((UInt8.ofNat x.k.toNat).toNat : Int) = x.k := by have := hr.1.2; simp; omega
  have hget : x.key[25]'(by omega) = UInt8.ofNat x.k.toNat := by
    have h1 : x.key[25]? = some (UInt8.ofNat x.k.toNat) := by
      unfold It.key oneB
      rw [List.getElem?_append_right (by have := hr.1.1; omega), hr.1.1]
      rfl
    exact (List.getElem?_eq_some_iff.1 h1).2
  have hval : IntKind.i64.wrap ((x.key[25]'(by omega)).toNat : Int) = x.k := by
    rw [hget, hby, IntKind.wrap_i64]
    have := hr.1.2
    omega
  clear hget hby
  unfold evV at HG
  obtain ⟨W2, hW2⟩ : ∃ W2, W2 = (w.alloc (.cells #[.string (S x.key), .string (S (evB x.e))] 168)).alloc (.cells #[.string ⟨#[]⟩, .int .i64 0, .float .f64 0, .int .i64 0, .int .i64 0, .int .i64 0, .int .i64 0] 69) := ⟨_, rfl⟩
  have hb2 : Below w.heap.size w W2 := by rw [hW2]; exact ((Below.refl _ w).alloc (Nat.le_refl _) _).alloc (by simp) _
  have hA2 : Blk W2 w.heap.size 168 #[.string (S x.key), .string (S (evB x.e))] := by rw [hW2]; exact (Blk.new w _ _).alloc _
  have hB2 : Blk W2 (w.heap.size + 1) 69 #[.string ⟨#[]⟩, .int .i64 0, .float .f64 0, .int .i64 0, .int .i64 0, .int .i64 0, .int .i64 0] := by
    rw [hW2]
    have := Blk.new (w.alloc (.cells #[.string (S x.key), .string (S (evB x.e))] 168)) 69 #[.string ⟨#[]⟩, .int .i64 0, .float .f64 0, .int .i64 0, .int .i64 0, .int .i64 0, .int .i64 0]
    simpa using this
  have HG2 := hid (HG.out W2)
  rw [hW2] at HG2
  have HX := hid (⟨hb2, hA2, hB2⟩ : _ ∧ _ ∧ _)
  have HWW := hid hW2
  clear hr ho hn hb2 hA2 hB2 hW2
  unfold itV
  go_enter Tryz.func100, Tryz.ntmps100
  go_wp2_with fail
  (with_reducible refine HG2.out.mono ?_)
  rintro r W3 ⟨rfl, hb3⟩
  rw [← HWW.out] at hb3
  have hA3 := HX.out.2.1.below hb3 HX.out.2.1.lt
  have hB3 := HX.out.2.2.below hb3 HX.out.2.2.lt
  have hb03 := HX.out.1.trans (hb3.mono HX.out.1.size)
  have H3 := hid (⟨hA3, hB3, hb03⟩ : _ ∧ _ ∧ _)
  clear hA3 hB3 hb03 hb3
  go_wp2_with (with_reducible refine stopLoad 9 rfl ?_)
  obtain ⟨W4, hW4⟩ : ∃ W4, W4 = W3.alloc (.cells #[.float .f64 x.e.t, .int .i64 x.e.src, .int .i64 x.e.n, .int .i64 x.e.dst, .int .i64 x.e.pay] 67) := ⟨_, rfl⟩
  rw [← hW4]
  with_reducible refine goOn ?_
  have hb4 : Below W3.heap.size W3 W4 := by rw [hW4]; exact (Below.refl _ W3).alloc (Nat.le_refl _) _
  have hY4 : Blk W4 W3.heap.size 67 #[.float .f64 x.e.t, .int .i64 x.e.src, .int .i64 x.e.n, .int .i64 x.e.dst, .int .i64 x.e.pay] := by rw [hW4]; exact Blk.new W3 _ _
  have hA4 := H3.out.1.below hb4 H3.out.1.lt
  have hB4 := H3.out.2.1.below hb4 H3.out.2.1.lt
  have hb04 := H3.out.2.2.trans (hb4.mono H3.out.2.2.size)
  have hlt3 := H3.out.2.1.lt
  have hne1 : w.heap.size ≠ w.heap.size + 1 := by omega
  have hne2 : W3.heap.size ≠ w.heap.size + 1 := by omega
  have a0 : W4.cell? ⟨w.heap.size, 0, none⟩ = some (.string (S x.key)) := hA4.cell 0
  obtain ⟨W5, hW5⟩ : ∃ W5, W5 = W4.drew := ⟨_, rfl⟩
  have hA5 : Blk W5 w.heap.size 168 #[.string (S x.key), .string (S (evB x.e))] := by rw [hW5]; exact hA4.drew
  have hB5 : Blk W5 (w.heap.size + 1) 69 #[.string ⟨#[]⟩, .int .i64 0, .float .f64 0, .int .i64 0, .int .i64 0, .int .i64 0, .int .i64 0] := by rw [hW5]; exact hB4.drew
  have hY5 : Blk W5 W3.heap.size 67 #[.float .f64 x.e.t, .int .i64 x.e.src, .int .i64 x.e.n, .int .i64 x.e.dst, .int .i64 x.e.pay] := by rw [hW5]; exact hY4.drew
  have hb05 : Below w.heap.size w W5 := by rw [hW5]; exact below_drewN hb04 1
  have HS0 : Hid ((fun W => W.cell? ⟨w.heap.size, 0, none⟩ = some (.string (S x.key)) ∧ W.cell? ⟨W3.heap.size, 0, none⟩ = some (.float .f64 x.e.t) ∧ W.cell? ⟨W3.heap.size, 1, none⟩ = some (.int .i64 x.e.src) ∧ W.cell? ⟨W3.heap.size, 2, none⟩ = some (.int .i64 x.e.n) ∧ W.cell? ⟨W3.heap.size, 3, none⟩ = some (.int .i64 x.e.dst) ∧ W.cell? ⟨W3.heap.size, 4, none⟩ = some (.int .i64 x.e.pay)) W5) := hid ⟨hA5.cell 0, hY5.cell 0, hY5.cell 1, hY5.cell 2, hY5.cell 3, hY5.cell 4⟩
  have HK9 : Hid (∀ u0 u1 u2 u3 u4 u5 u6 : Value, (fun W => W.cell? ⟨w.heap.size, 0, none⟩ = some (.string (S x.key)) ∧ W.cell? ⟨W3.heap.size, 0, none⟩ = some (.float .f64 x.e.t) ∧ W.cell? ⟨W3.heap.size, 1, none⟩ = some (.int .i64 x.e.src) ∧ W.cell? ⟨W3.heap.size, 2, none⟩ = some (.int .i64 x.e.n) ∧ W.cell? ⟨W3.heap.size, 3, none⟩ = some (.int .i64 x.e.dst) ∧ W.cell? ⟨W3.heap.size, 4, none⟩ = some (.int .i64 x.e.pay)) (((((((W5.setCell ⟨w.heap.size + 1, 0, none⟩ u0).setCell ⟨w.heap.size + 1, 1, none⟩ u1).setCell ⟨w.heap.size + 1, 2, none⟩ u2).setCell ⟨w.heap.size + 1, 3, none⟩ u3).setCell ⟨w.heap.size + 1, 4, none⟩ u4).setCell ⟨w.heap.size + 1, 5, none⟩ u5).setCell ⟨w.heap.size + 1, 6, none⟩ u6)) := hid fun u0 u1 u2 u3 u4 u5 u6 => by
    have k1 := hA5.far7 hne1 u0 u1 u2 u3 u4 u5 u6
    have k2 := hY5.far7 hne2 u0 u1 u2 u3 u4 u5 u6
    exact ⟨k1.cell 0, k2.cell 0, k2.cell 1, k2.cell 2, k2.cell 3, k2.cell 4⟩
  have H5 := hid (⟨hb05, hB5⟩ : _ ∧ _)
  have HW5 := hid hW5
  clear hW4 hb4 hY4 hA4 hB4 hb04 hA5 hY5 hb05 hW5
  go_wp2
  refine wp_region_held_drew (S := (fun W => W.cell? ⟨w.heap.size, 0, none⟩ = some (.string (S x.key)) ∧ W.cell? ⟨W3.heap.size, 0, none⟩ = some (.float .f64 x.e.t) ∧ W.cell? ⟨W3.heap.size, 1, none⟩ = some (.int .i64 x.e.src) ∧ W.cell? ⟨W3.heap.size, 2, none⟩ = some (.int .i64 x.e.n) ∧ W.cell? ⟨W3.heap.size, 3, none⟩ = some (.int .i64 x.e.dst) ∧ W.cell? ⟨W3.heap.size, 4, none⟩ = some (.int .i64 x.e.pay))) (by kernel_rfl) (by rw [← HW5.out]; exact HS0.out) (fun hHeld => ?_)
  rw [← HW5.out] at hHeld
  rw [← HW5.out]
  refine wpAnyH_take (i := 0) (oi := ?oi0_4) (v := ?v0_4) (by (simp only [List.getElem?_toArray, List.getElem?_cons_succ, List.getElem?_cons_zero]; try rfl)) (by kernel_rfl) (by kernel_rfl) (by kernel_rfl) ?hq0_4 (Or.inl ⟨by rfl, ?hy0_4⟩) hHeld ?rest0_4; (case hy0_4 => (intro wz hSw; (try dsimp only at hSw); go_simp; first | done | with_reducible rfl)); (case hq0_4 => exact fun _ _ _ h => h); (try simp only [Act.put, List.setIfInBounds_toArray, List.set_cons_zero, List.set_cons_succ]); refine wpAnyH_take (i := 1) (oi := ?oi1_4) (v := ?v1_4) (by (simp only [List.getElem?_toArray, List.getElem?_cons_succ, List.getElem?_cons_zero]; try rfl)) (by kernel_rfl) (by kernel_rfl) (by kernel_rfl) ?hq1_4 (Or.inl ⟨by rfl, ?hy1_4⟩) hHeld ?rest1_4; (case hy1_4 => (intro wz hSw; (try dsimp only at hSw); go_simp; first | done | with_reducible rfl)); (case hq1_4 => exact fun _ _ _ h => h); (try simp only [Act.put, List.setIfInBounds_toArray, List.set_cons_zero, List.set_cons_succ]); refine wpAnyH_take (i := 2) (oi := ?oi2_4) (v := ?v2_4) (by (simp only [List.getElem?_toArray, List.getElem?_cons_succ, List.getElem?_cons_zero]; try rfl)) (by kernel_rfl) (by kernel_rfl) (by kernel_rfl) ?hq2_4 (Or.inl ⟨by rfl, ?hy2_4⟩) hHeld ?rest2_4; (case hy2_4 => (intro wz hSw; (try dsimp only at hSw); go_simp; first | done | with_reducible rfl)); (case hq2_4 => exact fun _ _ _ h => h); (try simp only [Act.put, List.setIfInBounds_toArray, List.set_cons_zero, List.set_cons_succ]); refine wpAnyH_take (i := 3) (oi := ?oi3_4) (v := ?v3_4) (by (simp only [List.getElem?_toArray, List.getElem?_cons_succ, List.getElem?_cons_zero]; try rfl)) (by kernel_rfl) (by kernel_rfl) (by kernel_rfl) ?hq3_4 (Or.inl ⟨by rfl, ?hy3_4⟩) hHeld ?rest3_4; (case hy3_4 => (intro wz hSw; (try dsimp only at hSw); go_simp; first | done | with_reducible rfl)); (case hq3_4 => exact fun _ _ _ h => h); (try simp only [Act.put, List.setIfInBounds_toArray, List.set_cons_zero, List.set_cons_succ]); refine wpAnyH_take (i := 4) (oi := ?oi4_4) (v := ?v4_4) (by (simp only [List.getElem?_toArray, List.getElem?_cons_succ, List.getElem?_cons_zero]; try rfl)) (by kernel_rfl) (by kernel_rfl) (by kernel_rfl) ?hq4_4 (Or.inl ⟨by rfl, ?hy4_4⟩) hHeld ?rest4_4; (case hy4_4 => (intro wz hSw; (try dsimp only at hSw); go_simp; first | done | with_reducible rfl)); (case hq4_4 => exact fun _ _ _ h => h); (try simp only [Act.put, List.setIfInBounds_toArray, List.set_cons_zero, List.set_cons_succ]); refine wpAnyH_take (i := 5) (oi := ?oi5_4) (v := ?v5_4) (by (simp only [List.getElem?_toArray, List.getElem?_cons_succ, List.getElem?_cons_zero]; try rfl)) (by kernel_rfl) (by kernel_rfl) (by kernel_rfl) ?hq5_4 (Or.inl ⟨by rfl, ?hy5_4⟩) hHeld ?rest5_4; (case hy5_4 => (intro wz hSw; (try dsimp only at hSw); go_simp; first | done | with_reducible rfl)); (case hq5_4 => exact fun _ _ _ h => h); (try simp only [Act.put, List.setIfInBounds_toArray, List.set_cons_zero, List.set_cons_succ]); refine wpAnyH_take (i := 6) (oi := ?oi6_4) (v := ?v6_4) (by (simp only [List.getElem?_toArray, List.getElem?_cons_succ, List.getElem?_cons_zero]; try rfl)) (by kernel_rfl) (by kernel_rfl) (by kernel_rfl) ?hq6_4 (Or.inl ⟨by rfl, ?hy6_4⟩) hHeld ?rest6_4; (case hy6_4 => (intro wz hSw; (try dsimp only at hSw); go_simp; first | done | with_reducible rfl)); (case hq6_4 => exact fun _ _ _ h => h); (try simp only [Act.put, List.setIfInBounds_toArray, List.set_cons_zero, List.set_cons_succ]); refine wpAnyH_take (i := 7) (oi := ?oi7_4) (v := ?v7_4) (by (simp only [List.getElem?_toArray, List.getElem?_cons_succ, List.getElem?_cons_zero]; try rfl)) (by kernel_rfl) (by kernel_rfl) (by kernel_rfl) ?hq7_4 (Or.inl ⟨by rfl, ?hy7_4⟩) hHeld ?rest7_4; (case hy7_4 => (intro wz hSw; (try dsimp only at hSw); go_simp; first | done | with_reducible rfl)); (case hq7_4 => exact fun _ _ _ h => h); (try simp only [Act.put, List.setIfInBounds_toArray, List.set_cons_zero, List.set_cons_succ]); refine wpAnyH_take (i := 8) (oi := ?oi8_4) (v := ?v8_4) (by (simp only [List.getElem?_toArray, List.getElem?_cons_succ, List.getElem?_cons_zero]; try rfl)) (by kernel_rfl) (by kernel_rfl) (by kernel_rfl) ?hq8_4 (Or.inl ⟨by rfl, ?hy8_4⟩) hHeld ?rest8_4; (case hy8_4 => (intro wz hSw; (try dsimp only at hSw); go_simp; first | done | with_reducible rfl)); (case hq8_4 => exact fun _ _ _ h => h); (try simp only [Act.put, List.setIfInBounds_toArray, List.set_cons_zero, List.set_cons_succ])
  clear a0
  have b0 : W5.cell? ⟨w.heap.size + 1, 0, none⟩ = some (.string ⟨#[]⟩) := hB5.cell 0
  have b1 : W5.cell? ⟨w.heap.size + 1, 1, none⟩ = some (.int .i64 0) := hB5.cell 1
  have b2 : W5.cell? ⟨w.heap.size + 1, 2, none⟩ = some (.float .f64 0) := hB5.cell 2
  have b3 : W5.cell? ⟨w.heap.size + 1, 3, none⟩ = some (.int .i64 0) := hB5.cell 3
  have b4 : W5.cell? ⟨w.heap.size + 1, 4, none⟩ = some (.int .i64 0) := hB5.cell 4
  have b5 : W5.cell? ⟨w.heap.size + 1, 5, none⟩ = some (.int .i64 0) := hB5.cell 5
  have b6 : W5.cell? ⟨w.heap.size + 1, 6, none⟩ = some (.int .i64 0) := hB5.cell 6
  have bf0 := hB5.frozen 0
  have bf1 := hB5.frozen 1
  have bf2 := hB5.frozen 2
  have bf3 := hB5.frozen 3
  have bf4 := hB5.frozen 4
  have bf5 := hB5.frozen 5
  have bf6 := hB5.frozen 6
  have bl := hB5.lt
  clear hB5
  refine wpAnyH_ready (rs := [9]) (by kernel_rfl) (by simp) ?_; refine AllReadyH.cons (o := ?o9_5) (by (simp only [List.getElem?_toArray, List.getElem?_cons_succ, List.getElem?_cons_zero]; try rfl)) (fun K hK => ?_) AllReadyH.nil; go_simp; refine hK.out _ _ (by exact HK9.out _ _ _ _ _ _ _) (fun hHeld => ?_); clear hK K; (try simp only [Act.put, List.setIfInBounds_toArray, List.set_cons_zero, List.set_cons_succ])
  refine wpAnyH_take (i := 10) (oi := ?oi10_6) (v := ?v10_6) (by (simp only [List.getElem?_toArray, List.getElem?_cons_succ, List.getElem?_cons_zero]; try rfl)) (by kernel_rfl) (by kernel_rfl) (by kernel_rfl) ?hq10_6 (Or.inl ⟨by rfl, ?hy10_6⟩) hHeld ?rest10_6; (case hy10_6 => (intro wz hSw; (try dsimp only at hSw); go_simp; first | done | with_reducible rfl)); (case hq10_6 => exact fun _ _ _ h => h); (try simp only [Act.put, List.setIfInBounds_toArray, List.set_cons_zero, List.set_cons_succ])
  refine wpAnyH_done (by kernel_rfl) ?_ _
  go_wp2
  have hr8 := (((((((H5.out.2.set_ 0 (.string (S x.c))).set_ 1 (.int .i64 x.k)).set_ 2 (.float .f64 x.e.t)).set_ 3 (.int .i64 x.e.src)).set_ 4 (.int .i64 x.e.n)).set_ 5 (.int .i64 x.e.dst)).set_ 6 (.int .i64 x.e.pay))
  have v0 := hr8.cell 0
  have v1 := hr8.cell 1
  have v2 := hr8.cell 2
  have v3 := hr8.cell 3
  have v4 := hr8.cell 4
  have v5 := hr8.cell 5
  have v6 := hr8.cell 6
  simp only [List.setIfInBounds_toArray, List.set_cons_zero, List.set_cons_succ, List.getElem?_toArray, List.getElem?_cons_zero, List.getElem?_cons_succ] at v0 v1 v2 v3 v4 v5 v6
  refine bodyPost_ret (v := .tuple #[.agg #[.string (S x.c), .int .i64 x.k, .float .f64 x.e.t, .int .i64 x.e.src, .int .i64 x.e.n, .int .i64 x.e.dst, .int .i64 x.e.pay], .int .i64 0]) (by simp [results, Tryz.results100, go_sem, v0, v1, v2, v3, v4, v5, v6]) rfl ?_
  exact ⟨rfl, ((((((H5.out.1.setCell (Nat.le_succ _) _).setCell (Nat.le_succ _) _).setCell (Nat.le_succ _) _).setCell (Nat.le_succ _) _).setCell (Nat.le_succ _) _).setCell (Nat.le_succ _) _).setCell (Nat.le_succ _) _⟩
section
variable {w w' : World} {xb yb : Nat} {s : SL} {sp sq lp : Int} {O : List Nat} {N L : Nat} {l m : List It}
theorem OxI.keep (h : OxI w xb yb s sp sq lp O N L l m) (hk : Kp O w w') {M : List KV} (hs : StI w' s O N M) (h1 : OxM M sp lp l) (h2 : OxM M sq lp m) (h3 : longs M = 0) (h4 : M.length ≤ L) : OxI w' xb yb s sp sq lp O N L l m := h.turn hk (Gr.refl _ _) hs h1 h2 h3 h4
theorem olist_no (h : OxI w xb yb s sp sq lp O N L l m) (fr to : Bs) (hf : ¬ (fr.length ≤ 30 ∧ to.length ≤ 30)) :
    Calls Tryz.prog 38 #[.pointer (some ⟨xb, 0, none⟩), .string (S fr), .string (S to)] w fun r w' => r = .returned (.tuple #[.slice none 0 0, .int .i64 2]) ∧ Below w.heap.size w w' := by
  have HS := hid (sscan_no (some ⟨s.sb, 0, none⟩) sp lp fr to 1099511627776 (c := 2) (mayE_long h.okp.not (by
    by_cases h1 : fr.length ≤ 30
    · exact ⟨to, by simp, by omega⟩
    · exact ⟨fr, by simp, by omega⟩)) (by decide) w.drew)
  have c0 : w.cell? ⟨xb, 0, none⟩ = some (.pointer (some ⟨s.sb, 0, none⟩)) := Blk.cell h.x 0
  have c1 : w.cell? ⟨xb, 1, none⟩ = some (.int .i64 sp) := Blk.cell h.x 1
  have c2 : w.cell? ⟨xb, 2, none⟩ = some (.int .i64 lp) := Blk.cell h.x 2
  have HCK : Hid (∀ W', Below w.drew.heap.size w.drew W' → W'.cell? ⟨xb, 0, none⟩ = some (.pointer (some ⟨s.sb, 0, none⟩)) ∧ W'.cell? ⟨xb, 1, none⟩ = some (.int .i64 sp) ∧ W'.cell? ⟨xb, 2, none⟩ = some (.int .i64 lp)) := hid fun W' hk => by
    have := (Blk.drew h.x).below hk (Blk.drew h.x).lt
    exact ⟨this.cell 0, this.cell 1, this.cell 2⟩
  clear h hf
  go_enter Tryz.func38, Tryz.ntmps38
  go_wp2
  go_region_held3 (fun W => W.cell? ⟨xb, 0, none⟩ = some (.pointer (some ⟨s.sb, 0, none⟩)) ∧ W.cell? ⟨xb, 1, none⟩ = some (.int .i64 sp) ∧ W.cell? ⟨xb, 2, none⟩ = some (.int .i64 lp)) (first | exact hck5 | exact ⟨c0, c1, c2⟩)
    (first
      | (go_at_call 84; refine HS.out.mono ?_; rintro r W5 ⟨rfl, hb5⟩; have hck5 := HCK.out W5 hb5))
  all_goals
    have HF := hid ((below_drewN (Below.refl w.heap.size w) 1).trans hb5)
    clear hb5 hck5
    go_wp2
    go_ret2
    exact ⟨rfl, HF.out⟩
set_option maxHeartbeats 8000000 in
theorem olist_any (h : OxI w xb yb s sp sq lp O N L l m) (hl : l.length ≤ 1000) (fr to : Bs) (hf : fr.length ≤ 30) (ht : to.length ≤ 30) :
    Calls Tryz.prog 38 #[.pointer (some ⟨xb, 0, none⟩), .string (S fr), .string (S to)] w fun r w' => ∃ v, r = .returned (.tuple #[v, .int .i64 0]) ∧ OxI w' xb yb s sp sq lp O N L l m ∧ Kp O w w' ∧ w'.ownsRow w.heap.size 69 7 v (insideO l fr to).length (rowV itC (insideO l fr to)) := by
  obtain ⟨M, h1, h2, h3, h4, h5⟩ := h.m
  have HS := hid (sscan_any (sp := sp) (lp := lp) (fr := fr) (to := to) (h1.below (below_drewN (Below.refl w.heap.size w) 1)) h.okp hf ht 1099511627776)
  rw [h2.scan fr to hl, show (itP (insideO l fr to)).length = (insideO l fr to).length by simp [itP]] at HS
  have c0 : w.cell? ⟨xb, 0, none⟩ = some (.pointer (some ⟨s.sb, 0, none⟩)) := Blk.cell h.x 0
  have c1 : w.cell? ⟨xb, 1, none⟩ = some (.int .i64 sp) := Blk.cell h.x 1
  have c2 : w.cell? ⟨xb, 2, none⟩ = some (.int .i64 lp) := Blk.cell h.x 2
  have HCK : Hid (∀ W', Kp O w.drew W' → W'.cell? ⟨xb, 0, none⟩ = some (.pointer (some ⟨s.sb, 0, none⟩)) ∧ W'.cell? ⟨xb, 1, none⟩ = some (.int .i64 sp) ∧ W'.cell? ⟨xb, 2, none⟩ = some (.int .i64 lp)) := hid fun W' hk => by
    have := (Blk.drew h.x).kp hk h.nxO
    exact ⟨this.cell 0, this.cell 1, this.cell 2⟩
  have HST : Hid (∀ W', StI W' s O N M → Kp O w W' → OxI W' xb yb s sp sq lp O N L l m) := hid fun W' hs hk => h.keep hk hs h2 h3 h4 h5
  have hlts := hid h.lts
  have HOK : Hid (∀ x ∈ insideO l fr to, x.right ∧ x.e.ok ∧ x.e.nrm = x.e) := hid fun x hx => h.ok x (List.mem_filter.1 hx).1
  have hle : (insideO l fr to).length ≤ 1000 := Nat.le_trans (List.length_filter_le _ _) hl
  generalize insideO l fr to = ls at HS HOK hle ⊢
  obtain ⟨nl, hnl⟩ : ∃ nl, nl = ls.length := ⟨_, rfl⟩
  have HNL := hid hnl
  rw [← hnl] at HS hle ⊢
  have hli : (nl : Int) ≤ 1000 := by omega
  have HL := hid hle
  clear h hl hf ht h1 h2 h3 h4 h5 hle hnl
  go_enter Tryz.func38, Tryz.ntmps38
  go_wp2
  go_region_held3 (fun W => W.cell? ⟨xb, 0, none⟩ = some (.pointer (some ⟨s.sb, 0, none⟩)) ∧ W.cell? ⟨xb, 1, none⟩ = some (.int .i64 sp) ∧ W.cell? ⟨xb, 2, none⟩ = some (.int .i64 lp)) (first | exact hck5 | exact ⟨c0, c1, c2⟩)
    (first
      | (go_at_call 84; refine HS.out.mono ?_; rintro r W1 ⟨v1, rfl, hS1, hk1, hO1⟩; have hck5 := HCK.out W1 hk1; obtain ⟨pa, pc, rfl⟩ := own_slice2 hO1))
  all_goals
    have hk01 : Kp O w W1 := (Kp.refl O w).drew.trans hk1
    have HI0 : Hid (OxI W1 xb yb s sp sq lp O N L l m ∧ Kp O w W1 ∧ W1.ownsRow w.heap.size 168 2 (.slice pa nl pc) nl (rowV pairC (itP ls)) ∧ W1.ownsRow W1.heap.size 69 7 (.slice none 0 0) 0 (rowV itC (ls.take 0)) ∧ W1.heap.size ≤ W1.heap.size) := hid ⟨HST.out W1 hS1 hk01, hk01, hO1, ⟨rfl, .inl ⟨rfl, rfl⟩⟩, Nat.le_refl _⟩
    have HB := hid (⟨fun b hb => hO1.lt b hb, hk01.size⟩ : (∀ b, (Value.slice pa nl pc).ownBlock = some b → w.heap.size ≤ b ∧ b < W1.heap.size) ∧ w.heap.size ≤ W1.heap.size)
    clear hS1 hk1 hO1 hck5 hk01
    go_wp2
    go_loopg [10, 39] nl (fun gg s10 s39 wr => ∃ (j : Nat) (v : Value), j ≤ nl ∧ nl - j ≤ gg ∧ s39 = .int .i64 j ∧ s10 = v ∧ Hid (OxI wr xb yb s sp sq lp O N L l m ∧ Kp O w wr ∧ wr.ownsRow w.heap.size 168 2 (.slice pa nl pc) nl (rowV pairC (itP ls)) ∧ wr.ownsRow W1.heap.size 69 7 v j (rowV itC (ls.take j)) ∧ W1.heap.size ≤ wr.heap.size))
    case atStart => exact ⟨0, _, by omega, by omega, rfl, rfl, HI0⟩
    case round =>
      obtain ⟨j, v, hj, hgg, rfl, rfl, HI⟩ := hrel
      by_cases hje : j < nl
      · obtain ⟨x, hx⟩ : ∃ x, ls[j]? = some x := ⟨_, List.getElem?_eq_getElem (by rw [← HNL.out]; exact hje)⟩
        have hxm : x ∈ ls := List.mem_of_getElem? hx
        obtain ⟨hxr, hxo, hxn⟩ := HOK.out x hxm
        obtain ⟨hF, hk, hOp, hOo, hsz⟩ := HI.out
        obtain ⟨g, c, e1, hg1, hg2, hg3⟩ := own_form hOp (by omega)
        injection e1 with e1 elen e3
        clear elen
        subst e1 e3
        have hxp : (itP ls)[j]? = some (x.key, evB x.e) := by simp [itP, hx]
        have m0 : wr.cell? ⟨g, j * 2, none⟩ = some (.string (S x.key)) := own_at hOp rfl (j := j * 2) (by
          have := rowV_get pairC_len _ j _ hxp 0 (by omega)
          rw [Nat.add_zero] at this
          rw [this]; rfl)
        have m1 : wr.cell? ⟨g, j * 2 + 1, none⟩ = some (.string (S (evB x.e))) := own_at hOp rfl (j := j * 2 + 1) (by
          rw [rowV_get pairC_len _ j _ hxp 1 (by omega)]; rfl)
        have hji : (j : Int) < (nl : Int) := by omega
        obtain ⟨wo, hwo⟩ : ∃ wo, wo = wr := ⟨_, rfl⟩
        subst hwo
        have HM := hid (fun W => oitem_any x hxr hxo hxn W)
        unfold itV at HM
        have htk : ls.take (j + 1) = ls.take j ++ [x] := by rw [List.take_add_one, hx]; rfl
        have HTK := hid htk
        clear hx hxm hxr hxo hxn hF hk hOp hOo hsz hxp htk
        go_wp2_with fail
        (with_reducible refine (HM.out _).mono ?_)
        rintro r W4 ⟨rfl, hb4⟩
        obtain ⟨hF, hk, hOp, hOo, hsz⟩ := HI.out
        have hb04 : Below wo.heap.size wo W4 := hb4
        have hO4 := row_of hOo (fun b hb => hb04.block b (hOo.lt b hb).2)
        have hOp4 := row_of hOp (fun b hb => hb04.block b (hOp.lt b hb).2)
        obtain ⟨av, cv, rfl⟩ := own_slice2 hO4
        have H4 := hid (⟨hF.below hb04, hk.trans (Kp.of_below hb04), hOp4, hO4, Nat.le_trans hsz hb04.size⟩ : _ ∧ _ ∧ _ ∧ _ ∧ _)
        clear hb4 hb04 hF hk hOp hOo hsz hO4 hOp4
        go_wp2_with (with_reducible refine stopAt .append rfl ?_)
        with_reducible refine goOn ?_
        obtain ⟨W5, hW5⟩ : ∃ W5, W5 = W4.alloc (.cells #[.string (S x.c), .int .i64 x.k, .float .f64 x.e.t, .int .i64 x.e.src, .int .i64 x.e.n, .int .i64 x.e.dst, .int .i64 x.e.pay] 69) := ⟨_, rfl⟩
        have hs5 : W5.heap.size = W4.heap.size + 1 := by rw [hW5]; simp
        have hb5 : Below W4.heap.size W4 W5 := by rw [hW5]; exact (Below.refl _ W4).alloc (Nat.le_refl _) _
        rw [← hW5, ← hs5]
        clear hW5
        obtain ⟨hF, hk, hOp, hOo, hsz⟩ := H4.out
        have hO5 := row_of hOo (fun b hb => hb5.block b (hOo.lt b hb).2)
        have hOp5 := row_of hOp (fun b hb => hb5.block b (hOp.lt b hb).2)
        refine app_one rfl _ _ 75 rfl itC infItem Tryz.underlying75 rfl (by decide) (by decide) itC_len itC_one x hO5 (by have := HL.out; omega) (Nat.le_trans hsz hb5.size) rfl rfl ?_
        intro v' W6 hO6 hk6 _
        rw [← HTK.out] at hO6
        have hno6 : ∀ b, b < W1.heap.size → b ∉ (Value.slice av j cv).ownBlock.toList := fun b hb hm => by
          have := (hO5.lt b (Option.mem_toList.1 hm)).1
          omega
        have hF5 := hF.below hb5
        have hlt0 : ∀ b ∈ xb :: yb :: s.sb :: s.tb :: O, b < W1.heap.size := fun b hb => Nat.lt_of_lt_of_le (hlts.out b hb) HB.out.2
        have hF6 : OxI W6 xb yb s sp sq lp O N L l m := hF5.of_blocks (fun b hb => hk6.block b (hF5.lts b hb) (hno6 b (hlt0 b hb)))
        have hOp6 := row_of hOp5 (fun b hb => hk6.block b (hOp5.lt b hb).2 (hno6 b (HB.out.1 b hb).2))
        have hk06 : Kp O w W6 := (hk.trans (Kp.of_below hb5)).trans_gr (O' := (Value.slice av j cv).ownBlock.toList ++ O) (fun b hb => by
          rcases List.mem_append.1 hb with hb | hb
          · have := (hO5.lt b (Option.mem_toList.1 hb)).1
            have := HB.out.2
            exact .inr (by omega)
          · exact .inl hb) (hk6.mono (fun b hb => .inl (by simp [hb])))
        have HI6 := hid (⟨hF6, hk06, hOp6, hO6, Nat.le_trans (Nat.le_trans hsz hb5.size) hk6.size⟩ : _ ∧ _ ∧ _ ∧ _ ∧ _)
        clear hF hk hOp hOo hsz hO5 hOp5 hO6 hk6 hno6 hF5 hlt0 hF6 hOp6 hk06 hb5 hs5
        go_wp2
        go_roundg (nl - (j + 1))
        case measure => omega
        case rel => exact ⟨j + 1, v', by omega, by omega, by go_num, rfl, HI6⟩
      · have hjl : j = nl := by omega
        have HJ := hid hjl
        have hji : ¬ ((j : Int) < (nl : Int)) := by omega
        clear hjl
        go_wp2
        go_ret2
        obtain ⟨hF, hk, hOp, hOo, hsz⟩ := HI.out
        rw [HJ.out, HNL.out, List.take_length, ← HNL.out] at hOo
        exact ⟨_, rfl, hF, hk, own_base hOo HB.out.2⟩
theorem oclear_no (h : OxI w xb yb s sp sq lp O N L l m) (fr to : Bs) (hf : ¬ (fr.length ≤ 30 ∧ to.length ≤ 30)) :
    Calls Tryz.prog 44 #[.pointer (some ⟨xb, 0, none⟩), .string (S fr), .string (S to)] w fun r w' => r = .returned (.tuple #[.int .i64 0, .int .i64 2]) ∧ Below w.heap.size w w' := by
  have HS := hid (sclear_no (some ⟨s.sb, 0, none⟩) sp lp fr to (c := 2) (mayE_long h.okp.not (by
    by_cases h1 : fr.length ≤ 30
    · exact ⟨to, by simp, by omega⟩
    · exact ⟨fr, by simp, by omega⟩)) (by decide) w.drew)
  have c0 : w.cell? ⟨xb, 0, none⟩ = some (.pointer (some ⟨s.sb, 0, none⟩)) := Blk.cell h.x 0
  have c1 : w.cell? ⟨xb, 1, none⟩ = some (.int .i64 sp) := Blk.cell h.x 1
  have c2 : w.cell? ⟨xb, 2, none⟩ = some (.int .i64 lp) := Blk.cell h.x 2
  have HCK : Hid (∀ W', Below w.drew.heap.size w.drew W' → W'.cell? ⟨xb, 0, none⟩ = some (.pointer (some ⟨s.sb, 0, none⟩)) ∧ W'.cell? ⟨xb, 1, none⟩ = some (.int .i64 sp) ∧ W'.cell? ⟨xb, 2, none⟩ = some (.int .i64 lp)) := hid fun W' hk => by
    have := (Blk.drew h.x).below hk (Blk.drew h.x).lt
    exact ⟨this.cell 0, this.cell 1, this.cell 2⟩
  clear h hf
  go_enter Tryz.func44, Tryz.ntmps44
  go_wp2
  go_region_held3 (fun W => W.cell? ⟨xb, 0, none⟩ = some (.pointer (some ⟨s.sb, 0, none⟩)) ∧ W.cell? ⟨xb, 1, none⟩ = some (.int .i64 sp) ∧ W.cell? ⟨xb, 2, none⟩ = some (.int .i64 lp)) (first | exact hck5 | exact ⟨c0, c1, c2⟩)
    (first
      | (go_at_call 93; refine HS.out.mono ?_; rintro r W5 ⟨rfl, hb5⟩; have hck5 := HCK.out W5 hb5))
  all_goals
    have HF := hid ((below_drewN (Below.refl w.heap.size w) 1).trans hb5)
    clear hb5 hck5
    go_wp2
    go_ret2
    exact ⟨rfl, HF.out⟩
set_option maxHeartbeats 4000000 in
theorem oclear_any (h : OxI w xb yb s sp sq lp O N L l m) (fr to : Bs) (hf : fr.length ≤ 30) (ht : to.length ≤ 30) :
    Calls Tryz.prog 44 #[.pointer (some ⟨xb, 0, none⟩), .string (S fr), .string (S to)] w fun r w' => r = .returned (.tuple #[.int .i64 (insideO l fr to).length, .int .i64 0]) ∧ OxI w' xb yb s sp sq lp O N L (outO l fr to) m ∧ Kp O w w' := by
  obtain ⟨M, h1, h2, h3, h4, h5⟩ := h.m
  have HS := hid (sclear_any (sp := sp) (lp := lp) (fr := fr) (to := to) (h1.below (below_drewN (Below.refl w.heap.size w) 1)) h.okp hf ht)
  rw [h2.count fr to] at HS
  have c0 : w.cell? ⟨xb, 0, none⟩ = some (.pointer (some ⟨s.sb, 0, none⟩)) := Blk.cell h.x 0
  have c1 : w.cell? ⟨xb, 1, none⟩ = some (.int .i64 sp) := Blk.cell h.x 1
  have c2 : w.cell? ⟨xb, 2, none⟩ = some (.int .i64 lp) := Blk.cell h.x 2
  have HCK : Hid (∀ W', Kp O w.drew W' → W'.cell? ⟨xb, 0, none⟩ = some (.pointer (some ⟨s.sb, 0, none⟩)) ∧ W'.cell? ⟨xb, 1, none⟩ = some (.int .i64 sp) ∧ W'.cell? ⟨xb, 2, none⟩ = some (.int .i64 lp)) := hid fun W' hk => by
    have := (Blk.drew h.x).kp hk h.nxO
    exact ⟨this.cell 0, this.cell 1, this.cell 2⟩
  have HST : Hid (∀ W', StI W' s O N (M.filter fun a => !inR (hdP sp lp ++ fr) (toK (hdP sp lp) to) a.1) → Kp O w W' → OxI W' xb yb s sp sq lp O N L (outO l fr to) m) := hid fun W' hs hk => by
    have hsub := List.filter_sublist (l := M) (p := fun a => !inR (hdP sp lp ++ fr) (toK (hdP sp lp) to) a.1)
    have h6 := longs_sub hsub
    exact h.turn hk (Gr.refl _ _) hs (h2.clear h.hlp fr to) (h3.clear_other h.hlp (hdO_ne h.sps lp) fr to) (by omega) (Nat.le_trans hsub.length_le h5)
  obtain ⟨nl, hnl⟩ : ∃ nl, nl = (insideO l fr to).length := ⟨_, rfl⟩
  rw [← hnl] at HS ⊢
  clear h hf ht h1 h2 h3 h4 h5 hnl
  go_enter Tryz.func44, Tryz.ntmps44
  go_wp2
  go_region_held3 (fun W => W.cell? ⟨xb, 0, none⟩ = some (.pointer (some ⟨s.sb, 0, none⟩)) ∧ W.cell? ⟨xb, 1, none⟩ = some (.int .i64 sp) ∧ W.cell? ⟨xb, 2, none⟩ = some (.int .i64 lp)) (first | exact hck5 | exact ⟨c0, c1, c2⟩)
    (first
      | (go_at_call 93; refine HS.out.mono ?_; rintro r W5 ⟨rfl, hS5, hk5⟩; have hck5 := HCK.out W5 hk5))
  all_goals
    have hk05 : Kp O w W5 := (Kp.refl O w).drew.trans hk5
    have HF := hid (⟨HST.out W5 hS5 hk05, hk05⟩ : _ ∧ _)
    clear hS5 hk5 hck5 hk05
    go_wp2
    go_ret2
    exact ⟨rfl, HF.out⟩
end
end Go.Proofs.YtnnghcooidjlhaaGreat
end
section
set_option linter.unusedSimpArgs false
set_option linter.unusedVariables false
set_option maxRecDepth 100000
namespace Go.Proofs.YtnnghcooidjlhaaGreat
open Go.RowKit Go.Lib
def takeO (ls l : List It) : List It := ls.foldl (fun l x => delO l x.key) l
theorem mem_takeO {y : It} : ∀ {ls l : List It}, y ∈ takeO ls l ↔ y ∈ l ∧ ∀ x ∈ ls, y.key ≠ x.key
  | [], l => by simp [takeO]
  | x :: t, l => by
    unfold takeO
    rw [List.foldl_cons]
    have ih := mem_takeO (y := y) (ls := t) (l := delO l x.key)
    unfold takeO at ih
    rw [ih]
    unfold delO
    rw [List.mem_filter]
    simp only [decide_eq_true_eq, List.mem_cons, forall_eq_or_imp, ne_eq, and_assoc]
theorem takeO_filter : ∀ (ls l : List It), takeO ls l = l.filter fun y => decide (∀ x ∈ ls, y.key ≠ x.key)
  | [], l => by
    simp [takeO]
    exact (List.filter_eq_self.2 (by simp)).symm
  | x :: t, l => by
    unfold takeO
    rw [List.foldl_cons]
    have ih := takeO_filter t (delO l x.key)
    unfold takeO at ih
    rw [ih]
    unfold delO
    rw [List.filter_filter]
    refine List.filter_congr fun y hy => ?_
    rw [← Bool.decide_and]
    exact decide_eq_decide.2 (by simp [and_comm])
theorem takeO_out (l : List It) (fr to : Bs) : takeO (insideO l fr to) l = outO l fr to := by
  rw [takeO_filter]
  refine List.filter_congr fun y hy => ?_
  cases e : inR fr to y.key
  · refine decide_eq_true fun x hx he => ?_
    have := (List.mem_filter.1 hx).2
    simp only [← he, e] at this
    exact absurd this (by simp)
  · refine decide_eq_false fun h => h y (List.mem_filter.2 ⟨hy, e⟩) rfl
theorem takeO_next {ls : List It} {j : Nat} {x : It} (h : ls[j]? = some x) (l : List It) : takeO (ls.take (j + 1)) l = delO (takeO (ls.take j) l) x.key := by
  rw [List.take_add_one, h]
  unfold takeO
  rw [Option.toList_some, List.foldl_append]
  rfl
theorem putO_next {ls : List It} {j : Nat} {x : It} (h : ls[j]? = some x) (l : List It) : (ls.take (j + 1)).foldl setO l = setO ((ls.take j).foldl setO l) x := by
  rw [List.take_add_one, h, Option.toList_some, List.foldl_append]
  rfl
theorem omove_nil (k : ByteArray) (w : World) : Calls Tryz.prog 37 #[.pointer none, .pointer none, .string k] w fun e w' => e = .returned (.tuple #[.int .i64 0, .int .i64 1]) ∧ Below w.heap.size w w' := by
  have HB := hid (((Below.refl _ w).alloc (Nat.le_refl _) (.cells #[.pointer none] 59)).alloc (by simp) (.cells #[.pointer none] 59))
  go_enter Tryz.func37, Tryz.ntmps37
  go_wp2
  go_ret2
  exact ⟨rfl, HB.out⟩
section
variable {w w' : World} {xb yb : Nat} {s : SL} {sp sq lp : Int} {O : List Nat} {N L : Nat} {l m : List It}
set_option maxHeartbeats 8000000 in
theorem move1_any (h : OxI w xb yb s sp sq lp O N L l m) (x : It) (hx : x ∈ l) (hN : roomO N L) {b3 b4 : Nat} (k3 : Blk w b3 59 #[.pointer (some ⟨xb, 0, none⟩)]) (k4 : Blk w b4 59 #[.pointer (some ⟨yb, 0, none⟩)]) (n3 : b3 ∉ O) (n4 : b4 ∉ O) :
    Calls Tryz.prog 99 #[itV x, .pointer (some ⟨b4, 0, none⟩), .pointer (some ⟨b3, 0, none⟩)] w fun r w' => ∃ O', r = .returned (.int .i64 0) ∧ OxI w' xb yb s sp sq lp O' (N + 1) L (delO l x.key) (setO m x) ∧ Kp O w w' ∧ Gr O w.heap.size O' := by
  obtain ⟨hr, ho, hn⟩ := h.ok x hx
  have hnx : x.nrm = x := by
    obtain ⟨c, k, e⟩ := x
    unfold It.nrm
    simp only at hn ⊢
    rw [hn]
  obtain ⟨W1, hW1⟩ : ∃ W1, W1 = w.alloc (.cells #[.string (S x.c), .int .i64 x.k, .float .f64 x.e.t, .int .i64 x.e.src, .int .i64 x.e.n, .int .i64 x.e.dst, .int .i64 x.e.pay] 69) := ⟨_, rfl⟩
  have hb1 : Below w.heap.size w W1 := by rw [hW1]; exact (Below.refl _ w).alloc (Nat.le_refl _) _
  have hX1 := it_box w x
  rw [← hW1] at hX1
  have hP := oput_any (h.swap.below hb1) x hr ho hN
  rw [hnx] at hP
  have HD := hid (fun W O' (hI : OxI W xb yb s sp sq lp O' (N + 1) (L + 1) l (setO m x)) => odel_any hI x hr.1)
  have c4 : W1.cell? ⟨b4, 0, none⟩ = some (.pointer (some ⟨yb, 0, none⟩)) := (k4.below hb1 k4.lt).cell 0
  have hnO : w.heap.size ∉ O := fun hm => by have := h.lts w.heap.size (by simp [hm]); omega
  have HCK : Hid (∀ W', Kp O W1 W' → W'.cell? ⟨b3, 0, none⟩ = some (.pointer (some ⟨xb, 0, none⟩)) ∧ W'.cell? ⟨w.heap.size, 0, none⟩ = some (.string (S x.c)) ∧ W'.cell? ⟨w.heap.size, 1, none⟩ = some (.int .i64 x.k) ∧ W'.cell? ⟨w.heap.size, 2, none⟩ = some (.float .f64 x.e.t) ∧ W'.cell? ⟨w.heap.size, 3, none⟩ = some (.int .i64 x.e.src) ∧ W'.cell? ⟨w.heap.size, 4, none⟩ = some (.int .i64 x.e.n) ∧ W'.cell? ⟨w.heap.size, 5, none⟩ = some (.int .i64 x.e.dst) ∧ W'.cell? ⟨w.heap.size, 6, none⟩ = some (.int .i64 x.e.pay)) := hid fun W' hk => by
    have q3 := (k3.below hb1 k3.lt).kp hk n3
    have qx := hX1.kp hk hnO
    exact ⟨q3.cell 0, qx.cell 0, qx.cell 1, qx.cell 2, qx.cell 3, qx.cell 4, qx.cell 5, qx.cell 6⟩
  have HP := hid hP
  unfold itV at HP HD ⊢
  rw [hW1] at HP c4
  have HX := hid (⟨hx, hb1, h.lts⟩ : _ ∧ _ ∧ _)
  have HW1 := hid hW1
  clear h hx hN k3 k4 n3 n4 hr ho hn hnx hW1 hb1 hX1 hP hnO
  go_enter Tryz.func99, Tryz.ntmps99
  go_wp2_with fail
  (with_reducible refine HP.out.mono ?_)
  rintro r W2 ⟨O2, rfl, hI2, hk2, hg2⟩
  rw [← HW1.out] at hk2 hg2
  obtain ⟨m3, m0, m1, m2, m3', m4, m5, m6⟩ := HCK.out W2 hk2
  have HD2 := hid (HD.out W2 O2 hI2.swap)
  have H2 := hid (⟨(Kp.of_below HX.out.2.1).trans hk2, hg2.mono HX.out.2.1.size⟩ : Kp O w W2 ∧ Gr O w.heap.size O2)
  clear hI2 hk2 hg2
  go_wp2_with fail
  (with_reducible refine HD2.out.mono ?_)
  rintro r W3 ⟨er, rfl, hcs, hk3⟩
  have hI3 : er = 0 ∧ OxI W3 xb yb s sp sq lp O2 (N + 1) L (delO l x.key) (setO m x) := by
    rcases hcs with ⟨h1, _, h3⟩ | ⟨_, h2, _⟩
    · exact ⟨h1, h3⟩
    · exact absurd ⟨x, HX.out.1, rfl⟩ h2
  obtain ⟨rfl, hI3⟩ := hI3
  have HF := hid (⟨hI3, H2.out.1.trans_gr H2.out.2 hk3, H2.out.2⟩ : _ ∧ _ ∧ _)
  clear hcs hk3 hI3 m3 m0 m1 m2 m3' m4 m5 m6
  go_wp2
  go_ret
  exact ⟨O2, rfl, HF.out⟩
def MvI (w : World) (xb yb : Nat) (s : SL) (sp sq lp : Int) (O : List Nat) (N L : Nat) (l m ls : List It) (B : Nat) (v : Value) (j : Nat) (W : World) : Prop :=
  ∃ O', OxI W xb yb s sp sq lp O' (N + j) L (takeO (ls.take j) l) ((ls.take j).foldl setO m) ∧ Kp O w W ∧ Gr O B O' ∧ W.ownsRow (w.heap.size + 2) 69 7 v ls.length (rowV itC ls) ∧ Blk W w.heap.size 59 #[.pointer (some ⟨xb, 0, none⟩)] ∧ Blk W (w.heap.size + 1) 59 #[.pointer (some ⟨yb, 0, none⟩)] ∧ B ≤ W.heap.size ∧ (∀ b, v.ownBlock = some b → b < B)
set_option maxHeartbeats 16000000 in
theorem omove_any (h : OxI w xb yb s sp sq lp O N L l m) (hl : l.length ≤ 1000) (fr : Bs) (hf : fr.length ≤ 30) (hN : ∀ j, j < (insideO l fr []).length → roomO (N + j) L) :
    Calls Tryz.prog 37 #[.pointer (some ⟨xb, 0, none⟩), .pointer (some ⟨yb, 0, none⟩), .string (S fr)] w fun r w' => ∃ O', r = .returned (.tuple #[.int .i64 (insideO l fr []).length, .int .i64 0]) ∧ OxI w' xb yb s sp sq lp O' (N + (insideO l fr []).length) L (outO l fr []) ((insideO l fr []).foldl setO m) ∧ Kp O w w' ∧ Gr O w.heap.size O' := by
  obtain ⟨W2, hW2⟩ : ∃ W2, W2 = (w.alloc (.cells #[.pointer (some ⟨xb, 0, none⟩)] 59)).alloc (.cells #[.pointer (some ⟨yb, 0, none⟩)] 59) := ⟨_, rfl⟩
  have hb2 : Below w.heap.size w W2 := by rw [hW2]; exact ((Below.refl _ w).alloc (Nat.le_refl _) _).alloc (by simp) _
  have hs2 : W2.heap.size = w.heap.size + 2 := by rw [hW2]; simp
  have k3 : Blk W2 w.heap.size 59 #[.pointer (some ⟨xb, 0, none⟩)] := by rw [hW2]; exact (Blk.new w _ _).alloc _
  have k4 : Blk W2 (w.heap.size + 1) 59 #[.pointer (some ⟨yb, 0, none⟩)] := by
    rw [hW2]
    have := Blk.new (w.alloc (.cells #[.pointer (some ⟨xb, 0, none⟩)] 59)) 59 #[.pointer (some ⟨yb, 0, none⟩)]
    simpa using this
  have hLI := olist_any (h.below hb2) hl fr [] hf (by simp)
  rw [show S [] = { data := #[] } from rfl] at hLI
  have hlts := h.lts
  have hno3 : w.heap.size ∉ O := fun hm => by have := hlts w.heap.size (by simp [hm]); omega
  have hno4 : w.heap.size + 1 ∉ O := fun hm => by have := hlts (w.heap.size + 1) (by simp [hm]); omega
  rw [← takeO_out l fr []]
  obtain ⟨ls, hls⟩ : ∃ ls, ls = insideO l fr [] := ⟨_, rfl⟩
  have hin : ∀ x ∈ ls, x ∈ l := fun x hx => by rw [hls] at hx; exact (List.mem_filter.1 hx).1
  have hne : ls.Pairwise fun a b => a.key ≠ b.key := by rw [hls]; exact AscO.ne (h.asc.filter _)
  have hle : ls.length ≤ 1000 := by rw [hls]; exact Nat.le_trans (List.length_filter_le _ _) hl
  rw [← hls] at hN hLI ⊢
  obtain ⟨n, hn⟩ : ∃ n, n = ls.length := ⟨_, rfl⟩
  have HX := hid (⟨hin, hne, hle, hN, hn, hlts, hb2, hs2, hno3, hno4⟩ : _ ∧ _ ∧ _ ∧ _ ∧ _ ∧ _ ∧ _ ∧ _ ∧ _ ∧ _)
  have HK := hid (⟨k3, k4⟩ : _ ∧ _)
  have hli : (n : Int) ≤ 1000 := by omega
  rw [← hn] at hLI ⊢
  rw [hW2] at hLI
  have HLI := hid hLI
  have HW2 := hid hW2
  clear h hl hf hN hls hin hne hle hlts hLI hb2 hs2 k3 k4 hno3 hno4 hW2 hn
  go_enter Tryz.func37, Tryz.ntmps37
  go_wp2_with fail
  (with_reducible refine HLI.out.mono ?_)
  rintro r W3 ⟨v3, rfl, hI3, hk3, hO3⟩
  rw [← HW2.out] at hk3 hO3
  obtain ⟨pa, pc, rfl⟩ := own_slice2 hO3
  have HI0 : Hid (MvI w xb yb s sp sq lp O N L l m ls W3.heap.size (.slice pa n pc) 0 W3) := hid (by
    obtain ⟨hin, hne, hle, hN, hn, hlts, hb2, hs2, hno3, hno4⟩ := HX.out
    exact ⟨O, hI3, (Kp.of_below hb2).trans hk3, Gr.refl _ _, by rw [← hs2, ← hn]; exact hO3, HK.out.1.kp hk3 hno3, HK.out.2.kp hk3 hno4, Nat.le_refl _, fun b hb => (hO3.lt b hb).2⟩)
  have HS3 : Hid (w.heap.size + 2 ≤ W3.heap.size) := hid (by rw [← HX.out.2.2.2.2.2.2.2.1]; exact hk3.size)
  clear hI3 hk3 hO3
  go_wp2
  go_loopg [32] n (fun gg s32 wr => ∃ (j : Nat), j ≤ n ∧ n - j ≤ gg ∧ s32 = .int .i64 j ∧ Hid (MvI w xb yb s sp sq lp O N L l m ls W3.heap.size (.slice pa n pc) j wr))
  case atStart => exact ⟨0, by omega, by omega, rfl, HI0⟩
  case round =>
    obtain ⟨j, hj, hgg, rfl, HI⟩ := hrel
    by_cases hje : j < n
    · obtain ⟨x, hx⟩ : ∃ x, ls[j]? = some x := ⟨_, List.getElem?_eq_getElem (by rw [← HX.out.2.2.2.2.1]; exact hje)⟩
      obtain ⟨Oj, g1, g2, g3, g4, g5, g6, g7, g8⟩ := HI.out
      rw [← HX.out.2.2.2.2.1] at g4
      obtain ⟨g, c, e1, hg1, hg2, hg3⟩ := own_form g4 (by omega)
      injection e1 with e1 elen e3
      clear elen
      subst e1 e3
      have hcell : ∀ q (hq : q < 7) u, (itC x)[q]? = some u → wr.cell? ⟨g, j * 7 + q, none⟩ = some u := fun q hq u hu => own_at g4 rfl (j := j * 7 + q) (by
        rw [rowV_get itC_len _ j _ hx q hq, hu])
      have m0 : wr.cell? ⟨g, j * 7, none⟩ = some (.string (S x.c)) := hcell 0 (by omega) _ rfl
      have m1 := hcell 1 (by omega) (.int .i64 x.k) rfl
      have m2 := hcell 2 (by omega) (.float .f64 x.e.t) rfl
      have m3 := hcell 3 (by omega) (.int .i64 x.e.src) rfl
      have m4 := hcell 4 (by omega) (.int .i64 x.e.n) rfl
      have m5 := hcell 5 (by omega) (.int .i64 x.e.dst) rfl
      have m6 := hcell 6 (by omega) (.int .i64 x.e.pay) rfl
      obtain ⟨W4, hW4⟩ : ∃ W4, W4 = wr.alloc (.cells #[.string (S x.c), .int .i64 x.k, .float .f64 x.e.t, .int .i64 x.e.src, .int .i64 x.e.n, .int .i64 x.e.dst, .int .i64 x.e.pay] 69) := ⟨_, rfl⟩
      have hb4 : Below wr.heap.size wr W4 := by rw [hW4]; exact (Below.refl _ wr).alloc (Nat.le_refl _) _
      have hC : Calls Tryz.prog 99 #[itV x, .pointer (some ⟨w.heap.size + 1, 0, none⟩), .pointer (some ⟨w.heap.size, 0, none⟩)] W4 fun r w' => r = .returned (.int .i64 0) ∧ MvI w xb yb s sp sq lp O N L l m ls W3.heap.size (.slice (some ⟨g, 0, none⟩) n pc) (j + 1) w' := by
        obtain ⟨hin, hne, hle, hN, hn, hlts, hb2, hs2, hno3, hno4⟩ := HX.out
        have hS3 := HS3.out
        have hxl : x ∈ takeO (ls.take j) l := mem_takeO.2 ⟨hin x (List.mem_of_getElem? hx), fun y hy e => by
          obtain ⟨i, hi⟩ := List.mem_iff_getElem?.1 hy
          rw [List.getElem?_take] at hi
          split at hi
          · rename_i hij
            have := List.pairwise_iff_getElem.1 hne i j (by omega) (by omega) hij
            rw [(List.getElem?_eq_some_iff.1 hi).2, (List.getElem?_eq_some_iff.1 hx).2] at this
            exact this e.symm
          · exact absurd hi (by simp)⟩
        have hn3 : w.heap.size ∉ Oj := g3.out (by omega) hno3
        have hn4 : w.heap.size + 1 ∉ Oj := g3.out (by omega) hno4
        refine (move1_any (g1.below hb4) x hxl (hN j (by omega)) (g5.below hb4 g5.lt) (g6.below hb4 g6.lt) hn3 hn4).mono ?_
        rintro r w' ⟨O', rfl, f1, f2, f3⟩
        have hk := (Kp.of_below hb4 : Kp Oj wr W4).trans f2
        refine ⟨rfl, O', ?_, g2.trans_gr (g3.mono (by omega)) hk, g3.trans f3 (Nat.le_trans g7 hb4.size), ?_, g5.kp hk hn3, g6.kp hk hn4, Nat.le_trans g7 hk.size, g8⟩
        · rw [takeO_next hx, putO_next hx]
          exact f1
        · rw [← hn]
          refine row_of g4 fun b hb => hk.block b (g4.lt b hb).2 fun hm => ?_
          have h1 := (g4.lt b hb).1
          have h2 := g8 b hb
          rcases g3 b hm with h | h
          · have := hlts b (by simp [h]); omega
          · omega
      unfold itV at hC
      rw [hW4] at hC
      have HC := hid hC
      have hji : (j : Int) < (n : Int) := by omega
      clear hx g1 g2 g3 g4 g5 g6 g7 g8 hcell hW4 hb4 hC
      obtain ⟨wo, hwo⟩ : ∃ wo, wo = wr := ⟨_, rfl⟩
      subst hwo
      go_wp2_with fail
      (with_reducible refine HC.out.mono ?_)
      rintro r W5 ⟨rfl, hI5⟩
      have HI5 := hid hI5
      clear hI5 m0 m1 m2 m3 m4 m5 m6
      go_wp2
      go_roundg (n - (j + 1))
      case measure => omega
      case rel => exact ⟨j + 1, by omega, by omega, by go_num, HI5⟩
    · have hjl : j = n := by omega
      have HJ := hid hjl
      have hji : ¬ ((j : Int) < (n : Int)) := by omega
      clear hjl
      go_wp2
      go_ret2
      obtain ⟨Oj, g1, g2, g3, _⟩ := HI.out
      rw [HJ.out, HX.out.2.2.2.2.1, List.take_length, ← HX.out.2.2.2.2.1] at g1
      exact ⟨rfl, Oj, g1, g2, g3.mono (by have := HS3.out; omega)⟩
theorem omove_no (h : OxI w xb yb s sp sq lp O N L l m) (fr : Bs) (hf : ¬ fr.length ≤ 30) :
    Calls Tryz.prog 37 #[.pointer (some ⟨xb, 0, none⟩), .pointer (some ⟨yb, 0, none⟩), .string (S fr)] w fun r w' => r = .returned (.tuple #[.int .i64 0, .int .i64 2]) ∧ Below w.heap.size w w' := by
  obtain ⟨W2, hW2⟩ : ∃ W2, W2 = (w.alloc (.cells #[.pointer (some ⟨xb, 0, none⟩)] 59)).alloc (.cells #[.pointer (some ⟨yb, 0, none⟩)] 59) := ⟨_, rfl⟩
  have hb2 : Below w.heap.size w W2 := by rw [hW2]; exact ((Below.refl _ w).alloc (Nat.le_refl _) _).alloc (by simp) _
  have hLI := olist_no (h.below hb2) fr [] (fun e => hf e.1)
  rw [show S [] = { data := #[] } from rfl, hW2] at hLI
  have HLI := hid hLI
  have HW2 := hid (⟨hW2, hb2⟩ : _ ∧ _)
  clear h hf hLI hb2 hW2
  go_enter Tryz.func37, Tryz.ntmps37
  go_wp2_with fail
  (with_reducible refine HLI.out.mono ?_)
  rintro r W3 ⟨rfl, hb3⟩
  rw [← HW2.out.1] at hb3
  have HF := hid (HW2.out.2.trans (hb3.mono HW2.out.2.size))
  clear hb3
  go_wp2
  go_ret2
  exact ⟨rfl, HF.out⟩
end
end Go.Proofs.YtnnghcooidjlhaaGreat
end
section
set_option linter.unusedSimpArgs false
set_option linter.unusedVariables false
set_option maxRecDepth 100000
namespace Go.Proofs.YtnnghcooidjlhaaGreat
open Go.RowKit Go.Lib
structure Tb (w W : World) (tb xb yb : Nat) (s : SL) (O : List Nat) (N L : Nat) (l m : List It) (v1 v2 : Value) : Prop where
  i : OxI W xb yb s 1 2 2 O N L l m
  t : Blk W tb 61 #[.pointer (some ⟨xb, 0, none⟩), .pointer (some ⟨yb, 0, none⟩), v1, v2]
  nt : tb ∉ xb :: yb :: s.sb :: s.tb :: O
  b : Below w.heap.size w W
  o : ∀ b ∈ tb :: xb :: yb :: s.sb :: s.tb :: O, w.heap.size ≤ b
section
variable {w W W' : World} {tb xb yb : Nat} {s : SL} {O O' : List Nat} {N L N' L' : Nat} {l m l' m' : List It} {v1 v2 : Value}
theorem Tb.below (h : Tb w W tb xb yb s O N L l m v1 v2) (hb : Below W.heap.size W W') : Tb w W' tb xb yb s O N L l m v1 v2 :=
  ⟨h.i.below hb, h.t.below hb h.t.lt, h.nt, h.b.trans (hb.mono h.b.size), h.o⟩
theorem Tb.ntO (h : Tb w W tb xb yb s O N L l m v1 v2) : tb ∉ O := fun hm => h.nt (by simp [hm])
theorem Tb.to (h : Tb w W tb xb yb s O N L l m v1 v2) (hk : Kp O W W') : Below w.heap.size w W' := h.b.trans (hk.to_below h.b.size (fun x hx => h.o x (by simp [hx])))
theorem Tb.turn (h : Tb w W tb xb yb s O N L l m v1 v2) (hk : Kp O W W') (hg : Gr O W.heap.size O') (hi : OxI W' xb yb s 1 2 2 O' N' L' l' m') : Tb w W' tb xb yb s O' N' L' l' m' v1 v2 := by
  have hnt := h.nt
  simp only [List.mem_cons, not_or] at hnt
  refine ⟨hi, h.t.kp hk hnt.2.2.2.2, ?_, h.to hk, fun b hm => ?_⟩
  · simp only [List.mem_cons, not_or]
    exact ⟨hnt.1, hnt.2.1, hnt.2.2.1, hnt.2.2.2.1, hg.out h.t.lt hnt.2.2.2.2⟩
  · have ho := h.o
    have hz := h.b.size
    simp only [List.mem_cons] at hm ho
    rcases hm with e | e | e | e | e | e
    · exact ho b (.inl e)
    · exact ho b (.inr (.inl e))
    · exact ho b (.inr (.inr (.inl e)))
    · exact ho b (.inr (.inr (.inr (.inl e))))
    · exact ho b (.inr (.inr (.inr (.inr (.inl e)))))
    · rcases hg b e with e | e
      · exact ho b (.inr (.inr (.inr (.inr (.inr e)))))
      · omega
theorem Tb.c (h : Tb w W tb xb yb s O N L l m v1 v2) : W.cell? ⟨tb, 0, none⟩ = some (.pointer (some ⟨xb, 0, none⟩)) ∧ W.cell? ⟨tb, 1, none⟩ = some (.pointer (some ⟨yb, 0, none⟩)) ∧ W.cell? ⟨tb, 2, none⟩ = some v1 ∧ W.cell? ⟨tb, 3, none⟩ = some v2 := ⟨h.t.cell 0, h.t.cell 1, h.t.cell 2, h.t.cell 3⟩
end
set_option maxHeartbeats 4000000 in
theorem begun24_any (w : World) :
    Calls Tryz.prog 32 #[] w fun e w' => ∃ tb xb yb s O, e = .returned (.pointer (some ⟨tb, 0, none⟩)) ∧ Tb w w' tb xb yb s O 0 0 [] [] (.slice none 0 0) (.slice none 0 0) := by
  have HB := hid (begun_any w)
  have HOa := hid (fun s W => oof_a s 2 (by omega) W)
  have HOb := hid (fun s W => oof_b s 2 (by omega) W)
  go_enter Tryz.func32, Tryz.ntmps32
  go_wp2_with fail
  (with_reducible refine HB.out.mono ?_)
  rintro r W1 ⟨s, O, rfl, hS, hb, ho⟩
  have H1 := hid (⟨hS, hb, ho⟩ : _ ∧ _ ∧ _)
  clear hS hb ho
  go_wp2_with fail
  (with_reducible refine (HOa.out _ _).mono ?_)
  rintro r W2 ⟨rfl, hw2⟩
  have HW2 := hid hw2
  clear hw2
  go_wp2_with fail
  (with_reducible refine (HOb.out _ _).mono ?_)
  rintro r W3 ⟨rfl, hw3⟩
  have HW3 := hid hw3
  clear hw3
  go_wp2
  go_ret
  obtain ⟨hS, hb, ho⟩ := H1.out
  have hw2 := HW2.out
  have hw3 := HW3.out
  have hb2 : Below W1.heap.size W1 W2 := by rw [← hw2]; exact (Below.refl _ W1).alloc (Nat.le_refl _) _
  have hX2 : OxX W2 W1.heap.size s 1 2 := by rw [← hw2]; exact Blk.new W1 _ _
  have hb3 : Below W2.heap.size W2 W3 := by rw [← hw3]; exact (Below.refl _ W2).alloc (Nat.le_refl _) _
  have hX3 : OxX W3 W2.heap.size s 2 2 := by rw [← hw3]; exact Blk.new W2 _ _
  have hlt := hS.lts
  have hs12 : W1.heap.size < W2.heap.size := Blk.lt hX2
  have hs23 : W2.heap.size < W3.heap.size := Blk.lt hX3
  have hs01 := hb.size
  have hI3 : OxI W3 W1.heap.size W2.heap.size s 1 2 2 O 0 0 [] [] := ⟨Blk.below hX2 hb3 hs12, hX3, fun hm => by have := hlt _ hm; omega, fun hm => by have := hlt _ hm; omega, by omega, by omega, [], (hS.below hb2).below hb3, OxM.nil _ _, OxM.nil _ _, by simp [longs], by simp⟩
  refine ⟨W3.heap.size, W1.heap.size, W2.heap.size, s, O, rfl, hI3.below ((Below.refl _ W3).alloc (Nat.le_refl _) _), Blk.new W3 _ _, fun hm => ?_, ((hb.trans (hb2.mono hb.size)).trans (hb3.mono (by omega))).trans (((Below.refl _ W3).alloc (Nat.le_refl _) _).mono (by omega)), fun b hm => ?_⟩
  · rcases List.mem_cons.1 hm with e | hm
    · omega
    rcases List.mem_cons.1 hm with e | hm
    · omega
    have := hlt _ hm; omega
  · rcases List.mem_cons.1 hm with rfl | hm
    · omega
    rcases List.mem_cons.1 hm with rfl | hm
    · omega
    rcases List.mem_cons.1 hm with rfl | hm
    · omega
    exact ho b hm
set_option maxHeartbeats 2000000 in
theorem item24_any (x : It) (w : World) : Calls Tryz.prog 35 #[itV x] w fun e w' => e = .returned (itV x) ∧ Below w.heap.size w w' := by
  unfold itV
  have HB := hid (fun o1 o2 => ((Below.refl _ w).alloc (Nat.le_refl _) o1).alloc (by simp) o2)
  go_enter Tryz.func35, Tryz.ntmps35
  go_wp2
  refine bodyPost_ret (v := .agg #[.string (S x.c), .int .i64 x.k, .float .f64 x.e.t, .int .i64 x.e.src, .int .i64 x.e.n, .int .i64 x.e.dst, .int .i64 x.e.pay]) (by simp [results, Tryz.results35, go_sem]) rfl ?_
  exact ⟨rfl, HB.out _ _⟩
def c24 : Bs := [48, 49, 50, 51, 52, 53, 54, 55, 56, 57, 48, 49, 50, 51, 52, 53, 54, 55, 56, 57, 48, 49, 50, 51, 52]
def aw1 : It := ⟨c24, 1, ⟨0, 0, 0, 0, 7⟩⟩
def aw2 : It := ⟨c24, 0, ⟨0, 0, 0, 0, 6⟩⟩
theorem aw1_ok : aw1.right ∧ aw1.e.ok := ⟨⟨by decide, by decide⟩, by unfold Ev.ok; decide⟩
theorem aw2_ok : aw2.right ∧ aw2.e.ok := ⟨⟨by decide, by decide⟩, by unfold Ev.ok; decide⟩
theorem aw_in : insideO (setO (setO [] aw1.nrm) aw2.nrm) c24 [] = [aw2, aw1] := by rfl
theorem aw_fold : [aw2, aw1].foldl setO [] = [aw2, aw1] := by rfl
theorem aw_all : insideO [aw2, aw1] [] [] = [aw2, aw1] := by rfl
set_option maxHeartbeats 8000000 in
theorem awake24_any (w : World) :
    Calls Tryz.prog 33 #[] w fun e w' => e = .returned (.bool true) ∧ Below w.heap.size w w' := by
  have HB := hid (begun24_any w)
  go_enter Tryz.func33, Tryz.ntmps33
  go_wp2_with fail
  (with_reducible refine HB.out.mono ?_)
  rintro r W1 ⟨tb, xb, yb, s, O, rfl, hT⟩
  have HT1 := hid hT
  have HP := hid (oput_any hT.i aw1 aw1_ok.1 aw1_ok.2 (.inl (by omega)))
  obtain ⟨t0, t1, _, _⟩ := hT.c
  clear hT
  rw [show itV aw1 = .agg #[.string { data := #[48, 49, 50, 51, 52, 53, 54, 55, 56, 57, 48, 49, 50, 51, 52, 53, 54, 55, 56, 57, 48, 49, 50, 51, 52] }, .int .i64 1, .float .f64 0, .int .i64 0, .int .i64 0, .int .i64 0, .int .i64 7] from rfl] at HP
  go_wp2_with fail
  (with_reducible refine HP.out.mono ?_)
  rintro r W2 ⟨O2, rfl, hI2, hk2, hg2⟩
  have HT2 := hid (HT1.out.turn hk2 hg2 hI2)
  have HP2 := hid (oput_any hI2 aw2 aw2_ok.1 aw2_ok.2 (.inl (by omega)))
  rw [show itV aw2 = .agg #[.string { data := #[48, 49, 50, 51, 52, 53, 54, 55, 56, 57, 48, 49, 50, 51, 52, 53, 54, 55, 56, 57, 48, 49, 50, 51, 52] }, .int .i64 0, .float .f64 0, .int .i64 0, .int .i64 0, .int .i64 0, .int .i64 6] from rfl] at HP2
  clear hI2 hk2 hg2 HT1 t0 t1
  obtain ⟨t0, t1, _, _⟩ := HT2.out.c
  go_wp2_with fail
  (with_reducible refine HP2.out.mono ?_)
  rintro r W3 ⟨O3, rfl, hI3, hk3, hg3⟩
  have HT3 := hid ((HT2.out.turn hk3 hg3 hI3).below (below_drewN (Below.refl W3.heap.size W3) 1))
  have HM := hid (omove_any HT3.out.i (Nat.le_trans HT3.out.i.len (by omega)) c24 (by decide) (fun j hj => by rw [aw_in] at hj; exact .inl (by simp at hj; omega)))
  rw [aw_in, aw_fold, show S c24 = { data := #[48, 49, 50, 51, 52, 53, 54, 55, 56, 57, 48, 49, 50, 51, 52, 53, 54, 55, 56, 57, 48, 49, 50, 51, 52] } from rfl] at HM
  obtain ⟨u0, u1, _, _⟩ := (HT2.out.turn hk3 hg3 hI3).c
  have HCK : Hid (∀ W', Kp O3 W3.drew W' → W'.cell? ⟨tb, 0, none⟩ = some (.pointer (some ⟨xb, 0, none⟩)) ∧ W'.cell? ⟨tb, 1, none⟩ = some (.pointer (some ⟨yb, 0, none⟩))) := hid fun W' hk => by
    have := HT3.out.t.kp hk HT3.out.ntO
    exact ⟨this.cell 0, this.cell 1⟩
  clear hI3 hk3 hg3 HT2 t0 t1
  go_wp2
  go_region_held3 (fun W => W.cell? ⟨tb, 0, none⟩ = some (.pointer (some ⟨xb, 0, none⟩)) ∧ W.cell? ⟨tb, 1, none⟩ = some (.pointer (some ⟨yb, 0, none⟩))) (first | exact hck5 | exact ⟨u0, u1⟩)
    (first
      | (go_at_call 37; refine HM.out.mono ?_; rintro r W4 ⟨O4, rfl, hI4, hk4, hg4⟩; have hck5 := HCK.out W4 hk4))
  all_goals
    have HT4 := hid (HT3.out.turn hk4 hg4 hI4)
    have HL := hid (olist_any hI4.swap (by simp) [] [] (by simp) (by simp))
    rw [aw_all, show S [] = { data := #[] } from rfl] at HL
    obtain ⟨t0, t1⟩ := hck5
    clear hI4 hk4 hg4 u0 u1
    go_wp2_with fail
    (with_reducible refine HL.out.mono ?_)
    rintro r W5 ⟨v5, rfl, hI5, hk5, hO5⟩
    have HF := hid (HT4.out.to hk5)
    obtain ⟨g, c5, rfl, hg1, hg2, hg3⟩ := own_form hO5 (by simp)
    have q0 : W5.cell? ⟨g, 6, none⟩ = some (.int .i64 6) := own_at hO5 rfl (j := 6) rfl
    have q1 : W5.cell? ⟨g, 8, none⟩ = some (.int .i64 1) := own_at hO5 rfl (j := 8) rfl
    clear hI5 hk5 hO5 t0 t1
    go_wp2
    go_ret
    exact ⟨rfl, HF.out⟩
end Go.Proofs.YtnnghcooidjlhaaGreat
end
