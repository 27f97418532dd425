/- Parts of the proof: Xk Xi. -/
import Derived.Test.YtnnghcooidjlhaaGreatD33
set_option linter.all false
set_option maxRecDepth 100000
namespace Go.Proofs.YtnnghcooidjlhaaGreat
section
open Go.RowKit Go.Lib
section
variable {w w' W : World} {ib : Nat} {s : SL} {lp : Int} {O : List Nat} {N c : Nat} {l : List Ix}
theorem IbI.sets5 (h : IbI W ib s lp O N c l) {g : Nat} (hg : g ∉ ib :: s.sb :: s.tb :: O) (u0 u1 u2 u3 u4 : Value) : IbI (((((W.setCell ⟨g, 0, none⟩ u0).setCell ⟨g, 1, none⟩ u1).setCell ⟨g, 2, none⟩ u2).setCell ⟨g, 3, none⟩ u3).setCell ⟨g, 4, none⟩ u4) ib s lp O N c l :=
 h.of_blocks fun b hb => by
  have hn : b ≠ g := fun e => hg (e ▸ hb)
  exact ((((Below.heap_setCell _ _ _ _ hn).trans (Below.heap_setCell _ _ _ _ hn)).trans (Below.heap_setCell _ _ _ _ hn)).trans (Below.heap_setCell _ _ _ _ hn)).trans (Below.heap_setCell _ _ _ _ hn)
theorem Kp.sets5 (h : Kp O w W) {g : Nat} (hg : w.heap.size ≤ g) (u0 u1 u2 u3 u4 : Value) : Kp O w (((((W.setCell ⟨g, 0, none⟩ u0).setCell ⟨g, 1, none⟩ u1).setCell ⟨g, 2, none⟩ u2).setCell ⟨g, 3, none⟩ u3).setCell ⟨g, 4, none⟩ u4) :=
 ((((h.setCell (.inr hg) _).setCell (.inr hg) _).setCell (.inr hg) _).setCell (.inr hg) _).setCell (.inr hg) _
theorem Blk.sets5 {b g : Nat} {T : TypeId} {cs : Array Value} (h : Blk W b T cs) (hn : b ≠ g) (u0 u1 u2 u3 u4 : Value) : Blk (((((W.setCell ⟨g, 0, none⟩ u0).setCell ⟨g, 1, none⟩ u1).setCell ⟨g, 2, none⟩ u2).setCell ⟨g, 3, none⟩ u3).setCell ⟨g, 4, none⟩ u4) b T cs :=
 ((((h.far hn u0).far hn u1).far hn u2).far hn u3).far hn u4
set_option maxHeartbeats 8000000 in
theorem inext_any (h : IbI w ib s lp O N c l) (hl : l.length ≤ 1000) (hcc : c ≤ 2000) (a : Bs) (ha : a.length ≤ 29) :
  Calls Tryz.prog 51 #[.pointer (some ⟨ib, 0, none⟩), .string (S a)] w fun r w' => r = .returned (nextV (nextI l a)) ∧ IbI w' ib s lp O N c l ∧ Kp O w w' := by
 obtain ⟨W1, hW1⟩ : ∃ W1, W1 = (w.alloc (.cells #[.float .f64 0, .int .i64 0, .int .i64 0, .int .i64 0, .int .i64 0] 67)).alloc (.cells #[.string ⟨#[]⟩] 9) := ⟨_, rfl⟩
 have hb1 : Below w.heap.size w W1 := by rw [hW1]; exact ((Below.refl _ w).alloc (Nat.le_refl _) _).alloc (by simp) _
 have hE1 : Blk W1 w.heap.size 67 #[.float .f64 0, .int .i64 0, .int .i64 0, .int .i64 0, .int .i64 0] := by rw [hW1]; exact (Blk.new w _ _).alloc _
 have hK1 : Blk W1 (w.heap.size + 1) 9 #[.string ⟨#[]⟩] := by
  rw [hW1]
  have := Blk.new (w.alloc (.cells #[.float .f64 0, .int .i64 0, .int .i64 0, .int .i64 0, .int .i64 0] 67)) 9 #[.string ⟨#[]⟩]
  simpa using this
 have hlts := h.lts
 have HE := hid (ieach_any (next_do (w.heap.size + 1)) (h.below hb1) hl hcc a [] ha (by simp) (Z := [w.heap.size + 1]) ⟨hK1, rfl⟩ (fun z hz hm => by
  have := hlts z hm
  simp only [List.mem_cons, List.not_mem_nil, or_false] at hz
  omega))
 rw [show S [] = { data := #[] } from rfl, hW1] at HE
 have hno : w.heap.size ∉ [w.heap.size + 1] ++ O := fun hm => by
  rcases List.mem_append.1 hm with h1 | h1
  ·simp at h1
  ·have := hlts w.heap.size (by simp [h1]); omega
 have hng : w.heap.size ∉ ib :: s.sb :: s.tb :: O := fun hm => by
  have := hlts _ hm
  omega
 have HX := hid (⟨hW1, hb1, hE1, hno, hng⟩ : _ ∧ _ ∧ _ ∧ _ ∧ _)
 have hlg := lastI_go (rngI l a [])
 rw [nextI_eq]
 have HFIT : Hid (∀ x, (rngI l a []).find? (fun x => decide (0 < x.n)) = some x → x.fit lp) := hid fun x hx => h.ok x (List.mem_filter.1 (List.mem_of_find?_eq_some hx)).1
 have hlp : 0 ≤ lp ∧ lp < 6 := by have := h.hlp; omega
 cases hf : (rngI l a []).find? fun x => decide (0 < x.n) with
 | none =>
  rw [hf] at hlg
  have HLG := hid hlg
  clear h hl hcc ha hW1 hb1 hE1 hK1 hlts hlg hf HFIT hlp hno hng
  go_enter Tryz.func51, Tryz.ntmps51
  go_wp2_with fail
  (with_reducible refine HE.out.mono ?_)
  rintro r W2 ⟨Z2, rfl, ⟨hK2, rfl⟩, hI2, hk2, _⟩
  rw [← HX.out.1] at hk2
  rw [HLG.out] at hK2
  have m0 : W2.cell? ⟨w.heap.size + 1, 0, none⟩ = some (.string ⟨#[]⟩) := hK2.cell 0
  have hE2 := HX.out.2.2.1.kp hk2 HX.out.2.2.2.1
  have g0 : W2.cell? ⟨w.heap.size, 0, none⟩ = some (.float .f64 0) := hE2.cell 0
  have g1 : W2.cell? ⟨w.heap.size, 1, none⟩ = some (.int .i64 0) := hE2.cell 1
  have g2 : W2.cell? ⟨w.heap.size, 2, none⟩ = some (.int .i64 0) := hE2.cell 2
  have g3 : W2.cell? ⟨w.heap.size, 3, none⟩ = some (.int .i64 0) := hE2.cell 3
  have g4 : W2.cell? ⟨w.heap.size, 4, none⟩ = some (.int .i64 0) := hE2.cell 4
  have f0 := hE2.frozen 0
  have f1 := hE2.frozen 1
  have f2 := hE2.frozen 2
  have f3 := hE2.frozen 3
  have f4 := hE2.frozen 4
  have el := hE2.lt
  have HF := hid (⟨hI2, Kp.fresh HX.out.2.1 (by simp) hk2, hE2⟩ : _ ∧ _ ∧ _)
  clear hK2 hI2 hk2 hE2
  go_wp2
  have hr8 := ((((HF.out.2.2.set_ 0 (.float .f64 0)).set_ 1 (.int .i64 0)).set_ 2 (.int .i64 0)).set_ 3 (.int .i64 0)).set_ 4 (.int .i64 0)
  have v0 := hr8.cell 0
  have v1 := hr8.cell 1
  have v2 := hr8.cell 2
  have v3 := hr8.cell 3
  have v4 := hr8.cell 4
  simp only [List.setIfInBounds_toArray, List.set_cons_zero, List.set_cons_succ, List.getElem?_toArray, List.getElem?_cons_zero, List.getElem?_cons_succ] at v0 v1 v2 v3 v4
  refine bodyPost_ret (v := .tuple #[.agg #[.float .f64 0, .int .i64 0, .int .i64 0, .int .i64 0, .int .i64 0], .bool false, .int .i64 0]) (by simp [results, Tryz.results51, go_sem, v0, v1, v2, v3, v4]) rfl ?_
  exact ⟨rfl, HF.out.1.sets5 HX.out.2.2.2.2 _ _ _ _ _, HF.out.2.1.sets5 (Nat.le_refl _) _ _ _ _ _⟩
 | some x =>
  rw [hf] at hlg
  have hfit := HFIT.out x hf
  have hex : ({ x.e.nrm with dst := lp } : Ev) = x.e := by
   rw [hfit.2.2.1, ← hfit.2.2.2.1]
  have HRO := hid (fun W => recof_any x.e hfit.1 hfit.2.1 lp hlp W)
  rw [hex] at HRO
  have HLG := hid hlg
  obtain ⟨k, hk⟩ : ∃ k, k = keyB x.e := ⟨_, rfl⟩
  have hkl : k.length = 25 := by rw [hk]; simp
  rw [← hk] at HRO
  have HKK := hid (show k = x.key from hk)
  have hke : k.isEmpty = false := by cases k with
   | nil => simp at hkl
   | cons y t => rfl
  have hkn : (k == []) = false := by cases k with
   | nil => simp at hkl
   | cons y t => rfl
  clear h hl hcc ha hW1 hb1 hE1 hK1 hlts hlg hf HFIT hfit hex hk hlp hno hng
  unfold evV at HRO
  rw [show nextV (Option.map Ix.e (some x)) = .tuple #[.agg #[.float .f64 x.e.t, .int .i64 x.e.src, .int .i64 x.e.n, .int .i64 x.e.dst, .int .i64 x.e.pay], .bool true, .int .i64 0] from rfl]
  go_enter Tryz.func51, Tryz.ntmps51
  go_wp2_with fail
  (with_reducible refine HE.out.mono ?_)
  rintro r W2 ⟨Z2, rfl, ⟨hK2, rfl⟩, hI2, hk2, _⟩
  rw [← HX.out.1] at hk2
  rw [HLG.out] at hK2
  rw [← HKK.out] at hK2
  have m0 : W2.cell? ⟨w.heap.size + 1, 0, none⟩ = some (.string (S k)) := hK2.cell 0
  have c1 : W2.cell? ⟨ib, 1, none⟩ = some (.int .i64 lp) := Blk.cell hI2.x 1
  have hE2 := HX.out.2.2.1.kp hk2 HX.out.2.2.2.1
  have HF := hid (⟨hI2, Kp.fresh HX.out.2.1 (by simp) hk2, hK2, hE2⟩ : _ ∧ _ ∧ _ ∧ _)
  clear hK2 hI2 hk2 hE2
  have HKP : Hid (∀ W', Below W2.drew.heap.size W2.drew W' → W'.cell? ⟨w.heap.size + 1, 0, none⟩ = some (.string (S k)) ∧ W'.cell? ⟨ib, 1, none⟩ = some (.int .i64 lp)) := hid fun W' hb => by
   have hb' := (below_drewN (Below.refl W2.heap.size W2) 1).trans hb
   exact ⟨(HF.out.2.2.1.below hb' HF.out.2.2.1.lt).cell 0, Blk.cell (HF.out.1.below hb').x 1⟩
  go_wp2
  refine wp_region_held_drew (S := fun W' => W'.cell? ⟨w.heap.size + 1, 0, none⟩ = some (.string (S k)) ∧ W'.cell? ⟨ib, 1, none⟩ = some (.int .i64 lp)) (by kernel_rfl) (by exact ⟨m0, c1⟩) (fun hHeld => ?_)
  refine hTk (i := 0) (oi := ?a0_3) (v := ?v0_3) (by (simp only [gEa, gEb, gEc]; try rfl)) (by kernel_rfl) ?b0_3 (Or.inl ⟨by rfl, ?c0_3⟩) hHeld ?d0_3; (case c0_3 => (intro wz hSw; (try dsimp only at hSw); go_simp; first | done | with_reducible rfl)); (case b0_3 => exact fun _ _ _ h => h); (try simp only [Act.put, sEa, sEb, sEc]); refine hTk (i := 1) (oi := ?a1_3) (v := ?v1_3) (by (simp only [gEa, gEb, gEc]; try rfl)) (by kernel_rfl) ?b1_3 (Or.inl ⟨by rfl, ?c1_3⟩) hHeld ?d1_3; (case c1_3 => (intro wz hSw; (try dsimp only at hSw); go_simp; first | done | with_reducible rfl)); (case b1_3 => exact fun _ _ _ h => h); (try simp only [Act.put, sEa, sEb, sEc]); refine hTk (i := 2) (oi := ?a2_3) (v := ?v2_3) (by (simp only [gEa, gEb, gEc]; try rfl)) (by kernel_rfl) ?b2_3 (Or.inl ⟨by rfl, ?c2_3⟩) hHeld ?d2_3; (case c2_3 => (intro wz hSw; (try dsimp only at hSw); go_simp; first | done | with_reducible rfl)); (case b2_3 => exact fun _ _ _ h => h); (try simp only [Act.put, sEa, sEb, sEc]); refine hTk (i := 3) (oi := ?a3_3) (v := ?v3_3) (by (simp only [gEa, gEb, gEc]; try rfl)) (by kernel_rfl) ?b3_3 (Or.inl ⟨by rfl, ?c3_3⟩) hHeld ?d3_3; (case c3_3 => (intro wz hSw; (try dsimp only at hSw); go_simp; first | done | with_reducible rfl)); (case b3_3 => exact fun _ _ _ h => h); (try simp only [Act.put, sEa, sEb, sEc]); refine hTk (i := 4) (oi := ?a4_3) (v := ?v4_3) (by (simp only [gEa, gEb, gEc]; try rfl)) (by kernel_rfl) ?b4_3 (Or.inl ⟨by rfl, ?c4_3⟩) hHeld ?d4_3; (case c4_3 => (intro wz hSw; (try dsimp only at hSw); go_simp; first | done | with_reducible rfl)); (case b4_3 => exact fun _ _ _ h => h); (try simp only [Act.put, sEa, sEb, sEc])
  refine wpAnyH_ready (rs := [5, 9]) (by kernel_rfl) (by simp) ?_
  refine AllReadyH.cons (by (simp only [gEa, gEb, gEc]; try rfl)) (fun K hK => ?_) (AllReadyH.cons (by (simp only [gEa, gEb, gEc]; try rfl)) (fun K hK => ?_) AllReadyH.nil)
  ·go_simp
   go_at_call 113
   refine (HRO.out _).mono ?_
   rintro r W6 ⟨rfl, hb6⟩
   refine hK.out _ _ (by exact HKP.out _ hb6) (fun hHeld => ?_)
   clear hK K
   (try simp only [Act.put, sEa, sEb, sEc])
   refine hTk (i := 6) (oi := ?a6_4) (v := ?v6_4) (by (simp only [gEa, gEb, gEc]; try rfl)) (by kernel_rfl) ?b6_4 (Or.inl ⟨by rfl, ?c6_4⟩) hHeld ?d6_4; (case c6_4 => (intro wz hSw; (try dsimp only at hSw); go_simp; first | done | with_reducible rfl)); (case b6_4 => exact fun _ _ _ h => h); (try simp only [Act.put, sEa, sEb, sEc]); refine hTk (i := 7) (oi := ?a7_4) (v := ?v7_4) (by (simp only [gEa, gEb, gEc]; try rfl)) (by kernel_rfl) ?b7_4 (Or.inl ⟨by rfl, ?c7_4⟩) hHeld ?d7_4; (case c7_4 => (intro wz hSw; (try dsimp only at hSw); go_simp; first | done | with_reducible rfl)); (case b7_4 => exact fun _ _ _ h => h); (try simp only [Act.put, sEa, sEb, sEc]); refine hTk (i := 8) (oi := ?a8_4) (v := ?v8_4) (by (simp only [gEa, gEb, gEc]; try rfl)) (by kernel_rfl) ?b8_4 (Or.inl ⟨by rfl, ?c8_4⟩) hHeld ?d8_4; (case c8_4 => (intro wz hSw; (try dsimp only at hSw); go_simp; first | done | with_reducible rfl)); (case b8_4 => exact fun _ _ _ h => h); (try simp only [Act.put, sEa, sEb, sEc]); refine wpAnyH_ready (rs := [9]) (by kernel_rfl) (by simp) ?_; refine AllReadyH.cons (o := ?o9_4) (by (simp only [gEa, gEb, gEc]; try rfl)) (fun K hK => ?_) AllReadyH.nil; go_simp; refine hK.out _ _ (by exact HKP.out _ (hb6.alloc hb6.size _)) (fun hHeld => ?_); clear hK K; (try simp only [Act.put, sEa, sEb, sEc])
   refine wpAnyH_ready (rs := [10]) (by kernel_rfl) (by simp) ?_; refine AllReadyH.cons (o := ?o10_5) (by (simp only [gEa, gEb, gEc]; try rfl)) (fun K hK => ?_) AllReadyH.nil; go_simp; refine hK.out _ _ (by exact HKP.out _ (hb6.alloc hb6.size _)) (fun hHeld => ?_); clear hK K; (try simp only [Act.put, sEa, sEb, sEc])
   refine hTk (i := 11) (oi := ?a11_6) (v := ?v11_6) (by (simp only [gEa, gEb, gEc]; try rfl)) (by kernel_rfl) ?b11_6 (Or.inl ⟨by rfl, ?c11_6⟩) hHeld ?d11_6; (case c11_6 => (intro wz hSw; (try dsimp only at hSw); go_simp; first | done | with_reducible rfl)); (case b11_6 => exact fun _ _ _ h => h); (try simp only [Act.put, sEa, sEb, sEc])
   refine wpAnyH_done (by kernel_rfl) ?_ _
   obtain ⟨W8, hW8⟩ : ∃ W8, W8 = W6.alloc (.cells #[.float .f64 x.e.t, .int .i64 x.e.src, .int .i64 x.e.n, .int .i64 x.e.dst, .int .i64 x.e.pay] 67) := ⟨_, rfl⟩
   have hb8 : Below W2.heap.size W2 W8 := by rw [hW8]; exact ((below_drewN (Below.refl W2.heap.size W2) 1).trans hb6).alloc hb6.size _
   have hG8 : Blk W8 W6.heap.size 67 #[.float .f64 x.e.t, .int .i64 x.e.src, .int .i64 x.e.n, .int .i64 x.e.dst, .int .i64 x.e.pay] := by rw [hW8]; exact Blk.new W6 _ _
   rw [← hW8]
   have hE8 := HF.out.2.2.2.below hb8 HF.out.2.2.2.lt
   have g0 : W8.cell? ⟨w.heap.size, 0, none⟩ = some (.float .f64 0) := hE8.cell 0
   have g1 : W8.cell? ⟨w.heap.size, 1, none⟩ = some (.int .i64 0) := hE8.cell 1
   have g2 : W8.cell? ⟨w.heap.size, 2, none⟩ = some (.int .i64 0) := hE8.cell 2
   have g3 : W8.cell? ⟨w.heap.size, 3, none⟩ = some (.int .i64 0) := hE8.cell 3
   have g4 : W8.cell? ⟨w.heap.size, 4, none⟩ = some (.int .i64 0) := hE8.cell 4
   have f0 := hE8.frozen 0
   have f1 := hE8.frozen 1
   have f2 := hE8.frozen 2
   have f3 := hE8.frozen 3
   have f4 := hE8.frozen 4
   have el := hE8.lt
   have x0 : W8.cell? ⟨W6.heap.size, 0, none⟩ = some (.float .f64 x.e.t) := hG8.cell 0
   have x1 : W8.cell? ⟨W6.heap.size, 1, none⟩ = some (.int .i64 x.e.src) := hG8.cell 1
   have x2 : W8.cell? ⟨W6.heap.size, 2, none⟩ = some (.int .i64 x.e.n) := hG8.cell 2
   have x3 : W8.cell? ⟨W6.heap.size, 3, none⟩ = some (.int .i64 x.e.dst) := hG8.cell 3
   have x4 : W8.cell? ⟨W6.heap.size, 4, none⟩ = some (.int .i64 x.e.pay) := hG8.cell 4
   have H8 := hid (⟨HF.out.1.below hb8, HF.out.2.1.trans (Kp.of_below hb8), hE8⟩ : _ ∧ _ ∧ _)
   clear hW8 hb8 hG8 hE8 hb6 hHeld m0 c1
   go_wp2
   have hr8 := ((((H8.out.2.2.set_ 0 (.float .f64 x.e.t)).set_ 1 (.int .i64 x.e.src)).set_ 2 (.int .i64 x.e.n)).set_ 3 (.int .i64 x.e.dst)).set_ 4 (.int .i64 x.e.pay)
   have v0 := hr8.cell 0
   have v1 := hr8.cell 1
   have v2 := hr8.cell 2
   have v3 := hr8.cell 3
   have v4 := hr8.cell 4
   simp only [List.setIfInBounds_toArray, List.set_cons_zero, List.set_cons_succ, List.getElem?_toArray, List.getElem?_cons_zero, List.getElem?_cons_succ] at v0 v1 v2 v3 v4
   refine bodyPost_ret (v := .tuple #[.agg #[.float .f64 x.e.t, .int .i64 x.e.src, .int .i64 x.e.n, .int .i64 x.e.dst, .int .i64 x.e.pay], .bool true, .int .i64 0]) (by simp [results, Tryz.results51, go_sem, v0, v1, v2, v3, v4]) rfl ?_
   exact ⟨rfl, H8.out.1.sets5 HX.out.2.2.2.2 _ _ _ _ _, H8.out.2.1.sets5 (Nat.le_refl _) _ _ _ _ _⟩
  ·go_simp
   obtain ⟨W3, hW3⟩ : ∃ W3, W3 = (W2.alloc (.cells #[.float .f64 0, .int .i64 0, .int .i64 0, .int .i64 0, .int .i64 0] 67)).drew := ⟨_, rfl⟩
   have hb3 : Below W2.heap.size W2 W3 := by rw [hW3]; exact below_drewN ((Below.refl _ W2).alloc (Nat.le_refl _) _) 1
   have hB3 : Blk W3 W2.heap.size 67 #[.float .f64 0, .int .i64 0, .int .i64 0, .int .i64 0, .int .i64 0] := by rw [hW3]; exact (Blk.new W2 _ _).drew
   have HKQ : Hid (∀ W', Below W3.heap.size W3 W' → W'.cell? ⟨w.heap.size + 1, 0, none⟩ = some (.string (S k)) ∧ W'.cell? ⟨ib, 1, none⟩ = some (.int .i64 lp)) := hid fun W' hb => by
    have hb' := hb3.trans (hb.mono hb3.size)
    exact ⟨(HF.out.2.2.1.below hb' HF.out.2.2.1.lt).cell 0, Blk.cell (HF.out.1.below hb').x 1⟩
   refine hK.out _ _ (by exact HKP.out _ ((Below.refl _ _).alloc (Nat.le_refl _) _)) (fun hHeld => ?_)
   clear hK K
   (try simp only [Act.put, sEa, sEb, sEc])
   rw [← hW3] at hHeld
   rw [← hW3]
   have HB3 := hid (⟨hb3, hB3⟩ : _ ∧ _)
   clear hW3 hb3 hB3 m0 c1
   refine wpAnyH_ready (rs := [5]) (by kernel_rfl) (by simp) ?_; refine AllReadyH.cons (by (simp only [gEa, gEb, gEc]; try rfl)) (fun K hK => ?_) AllReadyH.nil; go_simp; (go_at_call 113; refine (HRO.out _).mono ?_; rintro r W6 ⟨rfl, hb6⟩); refine hK.out _ _ (by exact HKQ.out _ hb6) (fun hHeld => ?_); clear hK K; (try simp only [Act.put, sEa, sEb, sEc])
   refine hTk (i := 6) (oi := ?a6_7) (v := ?v6_7) (by (simp only [gEa, gEb, gEc]; try rfl)) (by kernel_rfl) ?b6_7 (Or.inl ⟨by rfl, ?c6_7⟩) hHeld ?d6_7; (case c6_7 => (intro wz hSw; (try dsimp only at hSw); go_simp; first | done | with_reducible rfl)); (case b6_7 => exact fun _ _ _ h => h); (try simp only [Act.put, sEa, sEb, sEc]); refine hTk (i := 7) (oi := ?a7_7) (v := ?v7_7) (by (simp only [gEa, gEb, gEc]; try rfl)) (by kernel_rfl) ?b7_7 (Or.inl ⟨by rfl, ?c7_7⟩) hHeld ?d7_7; (case c7_7 => (intro wz hSw; (try dsimp only at hSw); go_simp; first | done | with_reducible rfl)); (case b7_7 => exact fun _ _ _ h => h); (try simp only [Act.put, sEa, sEb, sEc]); refine hTk (i := 8) (oi := ?a8_7) (v := ?v8_7) (by (simp only [gEa, gEb, gEc]; try rfl)) (by kernel_rfl) ?b8_7 (Or.inl ⟨by rfl, ?c8_7⟩) hHeld ?d8_7; (case c8_7 => (intro wz hSw; (try dsimp only at hSw); go_simp; first | done | with_reducible rfl)); (case b8_7 => exact fun _ _ _ h => h); (try simp only [Act.put, sEa, sEb, sEc])
   have hY6 := HB3.out.2.below hb6 HB3.out.2.lt
   have y0 : W6.cell? ⟨W2.heap.size, 0, none⟩ = some (.float .f64 0) := hY6.cell 0
   have y1 : W6.cell? ⟨W2.heap.size, 1, none⟩ = some (.int .i64 0) := hY6.cell 1
   have y2 : W6.cell? ⟨W2.heap.size, 2, none⟩ = some (.int .i64 0) := hY6.cell 2
   have y3 : W6.cell? ⟨W2.heap.size, 3, none⟩ = some (.int .i64 0) := hY6.cell 3
   have y4 : W6.cell? ⟨W2.heap.size, 4, none⟩ = some (.int .i64 0) := hY6.cell 4
   have yf0 := hY6.frozen 0
   have yf1 := hY6.frozen 1
   have yf2 := hY6.frozen 2
   have yf3 := hY6.frozen 3
   have yf4 := hY6.frozen 4
   have yl := hY6.lt
   have hne1 : w.heap.size + 1 ≠ W2.heap.size := by have := HF.out.2.2.1.lt; omega
   have hne2 : ib ≠ W2.heap.size := by have := HF.out.1.lts ib (by simp); omega
   have hb26 := HB3.out.1.trans (hb6.mono HB3.out.1.size)
   have HK9 : Hid (∀ u0 u1 u2 u3 u4 : Value, (fun W' : World => W'.cell? ⟨w.heap.size + 1, 0, none⟩ = some (.string (S k)) ∧ W'.cell? ⟨ib, 1, none⟩ = some (.int .i64 lp)) (((((W6.setCell ⟨W2.heap.size, 0, none⟩ u0).setCell ⟨W2.heap.size, 1, none⟩ u1).setCell ⟨W2.heap.size, 2, none⟩ u2).setCell ⟨W2.heap.size, 3, none⟩ u3).setCell ⟨W2.heap.size, 4, none⟩ u4)) := hid fun u0 u1 u2 u3 u4 => ⟨((HF.out.2.2.1.below hb26 HF.out.2.2.1.lt).sets5 hne1 u0 u1 u2 u3 u4).cell 0, Blk.cell (Blk.sets5 (HF.out.1.below hb26).x hne2 u0 u1 u2 u3 u4) 1⟩
   have HY6 := hid (⟨hY6, hb26⟩ : _ ∧ _)
   clear hY6 hb26 hne1 hne2
   refine wpAnyH_ready (rs := [10]) (by kernel_rfl) (by simp) ?_; refine AllReadyH.cons (o := ?o10_8) (by (simp only [gEa, gEb, gEc]; try rfl)) (fun K hK => ?_) AllReadyH.nil; go_simp; refine hK.out _ _ (by exact HK9.out _ _ _ _ _) (fun hHeld => ?_); clear hK K; (try simp only [Act.put, sEa, sEb, sEc])
   refine hTk (i := 11) (oi := ?a11_9) (v := ?v11_9) (by (simp only [gEa, gEb, gEc]; try rfl)) (by kernel_rfl) ?b11_9 (Or.inl ⟨by rfl, ?c11_9⟩) hHeld ?d11_9; (case c11_9 => (intro wz hSw; (try dsimp only at hSw); go_simp; first | done | with_reducible rfl)); (case b11_9 => exact fun _ _ _ h => h); (try simp only [Act.put, sEa, sEb, sEc])
   refine wpAnyH_done (by kernel_rfl) ?_ _
   obtain ⟨W8, hW8⟩ : ∃ W8, W8 = ((((W6.setCell ⟨W2.heap.size, 0, none⟩ (.float .f64 x.e.t)).setCell ⟨W2.heap.size, 1, none⟩ (.int .i64 x.e.src)).setCell ⟨W2.heap.size, 2, none⟩ (.int .i64 x.e.n)).setCell ⟨W2.heap.size, 3, none⟩ (.int .i64 x.e.dst)).setCell ⟨W2.heap.size, 4, none⟩ (.int .i64 x.e.pay) := ⟨_, rfl⟩
   have hb8 : Below W2.heap.size W2 W8 := by
    rw [hW8]
    exact ((((HY6.out.2.setCell (Nat.le_refl _) _).setCell (Nat.le_refl _) _).setCell (Nat.le_refl _) _).setCell (Nat.le_refl _) _).setCell (Nat.le_refl _) _
   have hG8 : Blk W8 W2.heap.size 67 #[.float .f64 x.e.t, .int .i64 x.e.src, .int .i64 x.e.n, .int .i64 x.e.dst, .int .i64 x.e.pay] := by
    rw [hW8]
    simpa using ((((HY6.out.1.set_ 0 (.float .f64 x.e.t)).set_ 1 (.int .i64 x.e.src)).set_ 2 (.int .i64 x.e.n)).set_ 3 (.int .i64 x.e.dst)).set_ 4 (.int .i64 x.e.pay)
   rw [← hW8]
   have hE8 := HF.out.2.2.2.below hb8 HF.out.2.2.2.lt
   have g0 : W8.cell? ⟨w.heap.size, 0, none⟩ = some (.float .f64 0) := hE8.cell 0
   have g1 : W8.cell? ⟨w.heap.size, 1, none⟩ = some (.int .i64 0) := hE8.cell 1
   have g2 : W8.cell? ⟨w.heap.size, 2, none⟩ = some (.int .i64 0) := hE8.cell 2
   have g3 : W8.cell? ⟨w.heap.size, 3, none⟩ = some (.int .i64 0) := hE8.cell 3
   have g4 : W8.cell? ⟨w.heap.size, 4, none⟩ = some (.int .i64 0) := hE8.cell 4
   have f0 := hE8.frozen 0
   have f1 := hE8.frozen 1
   have f2 := hE8.frozen 2
   have f3 := hE8.frozen 3
   have f4 := hE8.frozen 4
   have el := hE8.lt
   have x0 : W8.cell? ⟨W2.heap.size, 0, none⟩ = some (.float .f64 x.e.t) := hG8.cell 0
   have x1 : W8.cell? ⟨W2.heap.size, 1, none⟩ = some (.int .i64 x.e.src) := hG8.cell 1
   have x2 : W8.cell? ⟨W2.heap.size, 2, none⟩ = some (.int .i64 x.e.n) := hG8.cell 2
   have x3 : W8.cell? ⟨W2.heap.size, 3, none⟩ = some (.int .i64 x.e.dst) := hG8.cell 3
   have x4 : W8.cell? ⟨W2.heap.size, 4, none⟩ = some (.int .i64 x.e.pay) := hG8.cell 4
   have H8 := hid (⟨HF.out.1.below hb8, HF.out.2.1.trans (Kp.of_below hb8), hE8⟩ : _ ∧ _ ∧ _)
   clear hW8 hb8 hG8 hE8 hb6 hHeld y0 y1 y2 y3 y4 yf0 yf1 yf2 yf3 yf4 yl
   go_wp2
   have hr8 := ((((H8.out.2.2.set_ 0 (.float .f64 x.e.t)).set_ 1 (.int .i64 x.e.src)).set_ 2 (.int .i64 x.e.n)).set_ 3 (.int .i64 x.e.dst)).set_ 4 (.int .i64 x.e.pay)
   have v0 := hr8.cell 0
   have v1 := hr8.cell 1
   have v2 := hr8.cell 2
   have v3 := hr8.cell 3
   have v4 := hr8.cell 4
   simp only [List.setIfInBounds_toArray, List.set_cons_zero, List.set_cons_succ, List.getElem?_toArray, List.getElem?_cons_zero, List.getElem?_cons_succ] at v0 v1 v2 v3 v4
   refine bodyPost_ret (v := .tuple #[.agg #[.float .f64 x.e.t, .int .i64 x.e.src, .int .i64 x.e.n, .int .i64 x.e.dst, .int .i64 x.e.pay], .bool true, .int .i64 0]) (by simp [results, Tryz.results51, go_sem, v0, v1, v2, v3, v4]) rfl ?_
   exact ⟨rfl, H8.out.1.sets5 HX.out.2.2.2.2 _ _ _ _ _, H8.out.2.1.sets5 (Nat.le_refl _) _ _ _ _ _⟩
end
end
section
open Go.RowKit Go.Lib
def rC (x : Ix) : List Value := [.string (S x.key), .float .f64 x.e.t, .int .i64 x.e.src, .int .i64 x.e.n, .int .i64 x.e.dst, .int .i64 x.e.pay, .int .i64 x.n]
theorem rC_len (x : Ix) : (rC x).length = 7 := rfl
theorem Vw.kpI {α : Type} {k : Nat} {enc : α → List Value} {w w' : World} {v : Value} {l : List α} {O : List Nat} (h : Vw k enc w v l) (hk : Kp O w w') (ho : ∀ b, v.ownBlock = some b → b ∉ O) : Vw k enc w' v l := h.of_block (fun b hlt e => hk.block b hlt (ho b e)) hk.size
def Ib (w W : World) (ib : Nat) (s : SL) (lp : Int) (j : Nat) (kb : List (Nat × TypeId × Array Value)) (ex : List (Value × List Ix)) (l : List Ix) : Prop :=
 ∃ O N c, IbI W ib s lp O N c l ∧ N ≤ j ∧ c ≤ j ∧ l.length ≤ j ∧ Below w.heap.size w W ∧ (∀ b ∈ ib :: s.sb :: s.tb :: O, w.heap.size ≤ b) ∧ (∀ z ∈ kb, Blk W z.1 z.2.1 z.2.2 ∧ z.1 ∉ ib :: s.sb :: s.tb :: O ∧ w.heap.size ≤ z.1) ∧ ∀ z ∈ ex, Vw 7 rC W z.1 z.2 ∧ ∀ b, z.1.ownBlock = some b → b ∉ ib :: s.sb :: s.tb :: O ∧ b < W.heap.size
section
variable {w W W' : World} {ib : Nat} {s : SL} {lp : Int} {j : Nat} {kb : List (Nat × TypeId × Array Value)} {ex : List (Value × List Ix)} {l : List Ix}
theorem Ib.below (h : Ib w W ib s lp j kb ex l) (hb : Below W.heap.size W W') : Ib w W' ib s lp j kb ex l := by
 obtain ⟨O, N, c, h1, h2, h3, h4, h5, h6, h7, h8⟩ := h
 exact ⟨O, N, c, h1.below hb, h2, h3, h4, h5.trans (hb.mono h5.size), h6, fun z hz => ⟨(h7 z hz).1.below hb (h7 z hz).1.lt, (h7 z hz).2⟩, fun z hz => ⟨(h8 z hz).1.below hb, fun b e => ⟨((h8 z hz).2 b e).1, Nat.lt_of_lt_of_le ((h8 z hz).2 b e).2 hb.size⟩⟩⟩
theorem Ib.fr (h : Ib w W ib s lp j kb ex l) : Below w.heap.size w W := by
 obtain ⟨O, N, c, h1, h2, h3, h4, h5, h6, h7, h8⟩ := h
 exact h5
theorem Ib.up (h : Ib w W ib s lp j kb ex l) {i : Nat} (hi : j ≤ i) : Ib w W ib s lp i kb ex l := by
 obtain ⟨O, N, c, h1, h2, h3, h4, h5, h6⟩ := h
 exact ⟨O, N, c, h1, by omega, by omega, by omega, h5, h6⟩
theorem Ib.sub (h : Ib w W ib s lp j kb ex l) {kb' : List (Nat × TypeId × Array Value)} {ex' : List (Value × List Ix)} (hk : ∀ z ∈ kb', z ∈ kb) (he : ∀ z ∈ ex', z ∈ ex) : Ib w W ib s lp j kb' ex' l := by
 obtain ⟨O, N, c, h1, h2, h3, h4, h5, h6, h7, h8⟩ := h
 exact ⟨O, N, c, h1, h2, h3, h4, h5, h6, fun z hz => h7 z (hk z hz), fun z hz => h8 z (he z hz)⟩
theorem Ib.blk (h : Ib w W ib s lp j kb ex l) {z : Nat × TypeId × Array Value} (hz : z ∈ kb) : Blk W z.1 z.2.1 z.2.2 := by
 obtain ⟨O, N, c, h1, h2, h3, h4, h5, h6, h7, h8⟩ := h
 exact (h7 z hz).1
theorem Ib.vw (h : Ib w W ib s lp j kb ex l) {z : Value × List Ix} (hz : z ∈ ex) : Vw 7 rC W z.1 z.2 := by
 obtain ⟨O, N, c, h1, h2, h3, h4, h5, h6, h7, h8⟩ := h
 exact (h8 z hz).1
theorem Ib.ok (h : Ib w W ib s lp j kb ex l) : (∀ x ∈ l, x.fit lp) ∧ AscI l ∧ l.length ≤ j ∧ ∀ x ∈ l, x.n.natAbs ≤ j := by
 obtain ⟨O, N, c, h1, h2, h3, h4, h5, h6⟩ := h
 exact ⟨h1.ok, h1.asc, h4, fun x hx => Nat.le_trans (h1.le x hx) h3⟩
theorem Ib.box (h : Ib w W ib s lp j kb ex l) (T : TypeId) (cs : Array Value) : Ib w (W.alloc (.cells cs T)) ib s lp j ((W.heap.size, T, cs) :: kb) ex l := by
 have hb : Below W.heap.size W (W.alloc (.cells cs T)) := (Below.refl _ W).alloc (Nat.le_refl _) _
 obtain ⟨O, N, c, h1, h2, h3, h4, h5, h6, h7, h8⟩ := h
 refine ⟨O, N, c, h1.below hb, h2, h3, h4, h5.trans (hb.mono h5.size), h6, fun z hz => ?_, fun z hz => ⟨(h8 z hz).1.below hb, fun b e => ⟨((h8 z hz).2 b e).1, Nat.lt_of_lt_of_le ((h8 z hz).2 b e).2 hb.size⟩⟩⟩
 rcases List.mem_cons.1 hz with rfl | hz
 ·exact ⟨Blk.new W T cs, fun hm => by have h9 := h1.lts _ hm; exact Nat.lt_irrefl _ h9, h5.size⟩
 ·exact ⟨(h7 z hz).1.below hb (h7 z hz).1.lt, (h7 z hz).2⟩
theorem Ib.set {g : Nat} {T : TypeId} {cs : Array Value} (h : Ib w W ib s lp j [(g, T, cs)] ex l) (hx : ∀ z ∈ ex, z.1.ownBlock ≠ some g) (i : Nat) (u : Value) : Ib w (W.setCell ⟨g, i, none⟩ u) ib s lp j [(g, T, cs.setIfInBounds i u)] ex l := by
 obtain ⟨O, N, c, h1, h2, h3, h4, h5, h6, h7, h8⟩ := h
 obtain ⟨k1, k2, k3⟩ := h7 _ (List.mem_singleton.2 rfl)
 refine ⟨O, N, c, h1.of_blocks (fun b hb => Below.heap_setCell _ _ _ _ (fun e => k2 (by rw [show (g, T, cs).1 = b from e.symm]; exact hb))), h2, h3, h4, h5.setCell k3 _, h6, fun z hz => ?_, fun z hz => ⟨(h8 z hz).1.of_block (fun b hlt e => Below.heap_setCell _ _ _ _ (fun e2 => hx z hz (by rw [← show b = g from e2]; exact e))) (by simp [World.setCell]), fun b e => ⟨((h8 z hz).2 b e).1, by simpa [World.setCell] using ((h8 z hz).2 b e).2⟩⟩⟩
 rw [List.mem_singleton.1 hz]
 exact ⟨k1.set_ i u, k2, k3⟩
theorem Ib.turn {O O' : List Nat} {N' c' i : Nat} {l' : List Ix} (h' : IbI W' ib s lp O' N' c' l') (h5 : Below w.heap.size w W) (h6 : ∀ b ∈ ib :: s.sb :: s.tb :: O, w.heap.size ≤ b) (h7 : ∀ z ∈ kb, Blk W z.1 z.2.1 z.2.2 ∧ z.1 ∉ ib :: s.sb :: s.tb :: O ∧ w.heap.size ≤ z.1) (h8 : ∀ z ∈ ex, Vw 7 rC W z.1 z.2 ∧ ∀ b, z.1.ownBlock = some b → b ∉ ib :: s.sb :: s.tb :: O ∧ b < W.heap.size) (hN : N' ≤ i) (hc : c' ≤ i) (hl : l'.length ≤ i) (hk : Kp O W W') (hg : Gr O W.heap.size O') : Ib w W' ib s lp i kb ex l' := by
 have out : ∀ b, b < W.heap.size → b ∉ ib :: s.sb :: s.tb :: O → b ∉ ib :: s.sb :: s.tb :: O' := fun b hb hm => by
  simp only [List.mem_cons, not_or] at hm ⊢
  exact ⟨hm.1, hm.2.1, hm.2.2.1, hg.out hb hm.2.2.2⟩
 have no : ∀ b, b ∉ ib :: s.sb :: s.tb :: O → b ∉ O := fun b hm hO => hm (by simp [hO])
 refine ⟨O', N', c', h', hN, hc, hl, h5.trans (hk.to_below h5.size (fun x hx => h6 x (by simp [hx]))), fun b hm => ?_, fun z hz => ⟨(h7 z hz).1.kp hk (no _ (h7 z hz).2.1), out _ (h7 z hz).1.lt (h7 z hz).2.1, (h7 z hz).2.2⟩, fun z hz => ⟨(h8 z hz).1.kpI hk fun b e => no b ((h8 z hz).2 b e).1, fun b e => ⟨out b ((h8 z hz).2 b e).2 ((h8 z hz).2 b e).1, Nat.lt_of_lt_of_le ((h8 z hz).2 b e).2 hk.size⟩⟩⟩
 rcases List.mem_cons.1 hm with rfl | hm
 ·exact h6 b (by simp)
 rcases List.mem_cons.1 hm with rfl | hm
 ·exact h6 s.sb (by simp)
 rcases List.mem_cons.1 hm with rfl | hm
 ·exact h6 s.tb (by simp)
 rcases hg b hm with h | h
 ·exact h6 b (by simp [h])
 ·exact Nat.le_trans h5.size h
theorem ib_add (h : Ib w W ib s lp j kb ex l) (hj : j ≤ 100) (e : Ev) (a : Bool) (hr : e.right) (ho : e.ok) (hd : e.dst = lp) :
  Calls Tryz.prog 49 #[.pointer (some ⟨ib, 0, none⟩), msgV e a] W fun r w' => r = .returned (.tuple #[.int .i64 (cntI l (keyB e)), .int .i64 (cntI l (keyB e) + sgI a), .int .i64 0]) ∧ Ib w w' ib s lp (j + 1) kb ex (addI l e (sgI a)) := by
 obtain ⟨O, N, c, h1, h2, h3, h4, h5, h6, h7, h8⟩ := h
 refine (iadd_any h1 e a hr ho hd (by omega) (by omega)).mono ?_
 rintro r w' ⟨O', N', rfl, g1, g2, g3, g4⟩
 have hlen := addI_length l e (sgI a)
 exact ⟨rfl, Ib.turn g2 h5 h6 h7 h8 (by omega) (by omega) (by omega) g3 g4⟩
theorem ib_add_no (h : Ib w W ib s lp j kb ex l) (e : Ev) (a : Bool) (ho : e.ok) (hn : ¬ (e.right ∧ e.dst = lp)) :
  Calls Tryz.prog 49 #[.pointer (some ⟨ib, 0, none⟩), msgV e a] W fun r w' => r = .returned (.tuple #[.int .i64 0, .int .i64 0, .int .i64 2]) ∧ Ib w w' ib s lp j kb ex l := by
 have h0 := h
 obtain ⟨O, N, c, h1, _⟩ := h
 refine (iadd_no h1 e a ho hn).mono ?_
 rintro r w' ⟨rfl, hb⟩
 exact ⟨rfl, h0.below hb⟩
theorem ib_step (h : Ib w W ib s lp j kb ex l) (hj : j ≤ 100) (e : Ev) (a : Bool) (ho : e.ok) :
  Calls Tryz.prog 49 #[.pointer (some ⟨ib, 0, none⟩), msgV e a] W fun r w' => ∃ x y z, r = .returned (.tuple #[.int .i64 x, .int .i64 y, .int .i64 z]) ∧ Ib w w' ib s lp (j + 1) kb ex (stepI lp l (e, a)) := by
 by_cases hr : e.right ∧ e.dst = lp
 ·refine (ib_add h hj e a hr.1 ho hr.2).mono ?_
  rintro r w' ⟨rfl, g⟩
  refine ⟨_, _, _, rfl, ?_⟩
  unfold stepI
  rw [if_pos hr]
  exact g
 ·refine (ib_add_no h e a ho hr).mono ?_
  rintro r w' ⟨rfl, g⟩
  refine ⟨_, _, _, rfl, ?_⟩
  unfold stepI
  rw [if_neg hr]
  exact g.up (Nat.le_succ j)
theorem ib_next (h : Ib w W ib s lp j kb ex l) (hj : j ≤ 1000) (a : Bs) (ha : a.length ≤ 29) :
  Calls Tryz.prog 51 #[.pointer (some ⟨ib, 0, none⟩), .string (S a)] W fun r w' => r = .returned (nextV (nextI l a)) ∧ Ib w w' ib s lp j kb ex l := by
 obtain ⟨O, N, c, h1, h2, h3, h4, h5, h6, h7, h8⟩ := h
 refine (inext_any h1 (by omega) (by omega) a ha).mono ?_
 rintro r w' ⟨rfl, g1, g2⟩
 exact ⟨rfl, Ib.turn g1 h5 h6 h7 h8 h2 h3 h4 g2 (Gr.refl _ _)⟩
theorem ib_counts (h : Ib w W ib s lp j kb ex l) (hj : j ≤ 1000) :
  Calls Tryz.prog 50 #[.pointer (some ⟨ib, 0, none⟩)] W fun r w' => r = .returned (.tuple #[.int .i64 (moreI l), .int .i64 (l.length - moreI l : Nat), .int .i64 0]) ∧ Ib w w' ib s lp j kb ex l := by
 obtain ⟨O, N, c, h1, h2, h3, h4, h5, h6, h7, h8⟩ := h
 refine (icounts_any h1 (by omega) (by omega)).mono ?_
 rintro r w' ⟨rfl, g1, g2⟩
 exact ⟨rfl, Ib.turn g1 h5 h6 h7 h8 h2 h3 h4 g2 (Gr.refl _ _)⟩
end
set_option maxHeartbeats 4000000 in
theorem begun23_any (lp : Int) (h : 0 ≤ lp ∧ lp < 6) (w : World) :
  Calls Tryz.prog 47 #[.int .i64 lp] w fun e w' => ∃ ib s, e = .returned (.pointer (some ⟨ib, 0, none⟩)) ∧ Ib w w' ib s lp 0 [] [] [] := by
 have HB := hid (begun_any w)
 have HO := hid (fun s W => iof_any s lp h W)
 have HLP := hid h
 clear h
 go_enter Tryz.func47, Tryz.ntmps47
 go_wp2_with fail
 (with_reducible refine HB.out.mono ?_)
 rintro r W1 ⟨s, O, rfl, hS, hb, ho⟩
 have HX := hid (⟨hS, hb, ho⟩ : _ ∧ _ ∧ _)
 clear hS hb ho
 go_wp2_with fail
 (with_reducible refine (HO.out _ _).mono ?_)
 rintro r W2 ⟨rfl, hw2⟩
 obtain ⟨hS, hb, ho⟩ := HX.out
 have hb2 : Below W1.heap.size W1 W2 := by rw [← hw2]; exact (Below.refl _ W1).alloc (Nat.le_refl _) _
 have hB2 : IbX W2 W1.heap.size s lp := by rw [← hw2]; exact Blk.new W1 _ _
 have HF : Hid (Ib w W2 W1.heap.size s lp 0 [] [] []) := hid ⟨O, 0, 0, ⟨hB2, fun hm => by have := hS.lts _ hm; omega, by have := HLP.out; omega, [], hS.below hb2, IxM.nil lp 0, by simp [longs]⟩, Nat.le_refl _, Nat.le_refl _, Nat.le_refl _, hb.trans (hb2.mono hb.size), fun b hm => by
  rcases List.mem_cons.1 hm with rfl | hm
  ·exact hb.size
  ·exact ho b hm, by simp, by simp⟩
 clear hS hb ho hb2 hB2 hw2
 go_wp2
 go_ret
 exact ⟨_, s, rfl, HF.out⟩
def aw23 : Ev := ⟨4611686018427387904, 0, 0, 1, 0⟩
theorem aw23_ok : aw23.right ∧ aw23.ok := ⟨by decide, by unfold Ev.ok; decide⟩
theorem aw23_a1 : addI [] aw23 (sgI true) = [⟨aw23, -1⟩] := by kernel_rfl
theorem aw23_c1 : cntI [⟨aw23, -1⟩] (keyB aw23) = -1 := by kernel_rfl
theorem aw23_a2 : addI [⟨aw23, -1⟩] aw23 (sgI false) = [] := by kernel_rfl
theorem aw23_a3 : addI [] aw23 (sgI false) = [⟨aw23, 1⟩] := by kernel_rfl
theorem aw23_n : nextI [⟨aw23, 1⟩] [] = some aw23 := by kernel_rfl
set_option maxHeartbeats 16000000 in
theorem awake23_any (w : World) :
  Calls Tryz.prog 48 #[] w fun e w' => e = .returned (.bool true) ∧ Below w.heap.size w w' := by
 have HB := hid (begun23_any 1 (by omega) w)
 go_enter Tryz.func48, Tryz.ntmps48
 go_wp2_with fail
 (with_reducible refine HB.out.mono ?_)
 rintro r W1 ⟨ib, s, rfl, hI⟩
 obtain ⟨W2, hW2⟩ : ∃ W2, W2 = W1.alloc (.cells #[.float .f64 4611686018427387904, .int .i64 0, .int .i64 0, .int .i64 1, .int .i64 0, .bool true] 99) := ⟨_, rfl⟩
 have hI2 := hI.box 99 #[.float .f64 4611686018427387904, .int .i64 0, .int .i64 0, .int .i64 1, .int .i64 0, .bool true]
 rw [← hW2] at hI2
 have HA1 := hid (ib_add hI2 (by omega) aw23 true aw23_ok.1 aw23_ok.2 rfl)
 rw [aw23_a1, show cntI [] (keyB aw23) = 0 from rfl, show (0 : Int) + sgI true = -1 from rfl, show msgV aw23 true = .agg #[.float .f64 4611686018427387904, .int .i64 0, .int .i64 0, .int .i64 1, .int .i64 0, .bool true] from rfl, hW2] at HA1
 clear hI hI2 hW2
 go_wp2_with fail
 (with_reducible refine HA1.out.mono ?_)
 rintro r W3 ⟨rfl, hI3⟩
 have hB3 := hI3.blk (List.mem_singleton.2 rfl)
 have b0 : W3.cell? ⟨W1.heap.size, 0, none⟩ = some (.float .f64 4611686018427387904) := hB3.cell 0
 have b1 : W3.cell? ⟨W1.heap.size, 1, none⟩ = some (.int .i64 0) := hB3.cell 1
 have b2 : W3.cell? ⟨W1.heap.size, 2, none⟩ = some (.int .i64 0) := hB3.cell 2
 have b3 : W3.cell? ⟨W1.heap.size, 3, none⟩ = some (.int .i64 1) := hB3.cell 3
 have b4 : W3.cell? ⟨W1.heap.size, 4, none⟩ = some (.int .i64 0) := hB3.cell 4
 have b5 : W3.cell? ⟨W1.heap.size, 5, none⟩ = some (.bool true) := hB3.cell 5
 have bf := hB3.frozen 5
 have bl := hB3.lt
 obtain ⟨W4, hW4⟩ : ∃ W4, W4 = W3.setCell ⟨W1.heap.size, 5, none⟩ (.bool false) := ⟨_, rfl⟩
 have hI4 := hI3.set (by simp) 5 (.bool false)
 rw [← hW4] at hI4
 have hB4 := hI4.blk (List.mem_singleton.2 rfl)
 have d0 : W4.cell? ⟨W1.heap.size, 0, none⟩ = some (.float .f64 4611686018427387904) := hB4.cell 0
 have d1 : W4.cell? ⟨W1.heap.size, 1, none⟩ = some (.int .i64 0) := hB4.cell 1
 have d2 : W4.cell? ⟨W1.heap.size, 2, none⟩ = some (.int .i64 0) := hB4.cell 2
 have d3 : W4.cell? ⟨W1.heap.size, 3, none⟩ = some (.int .i64 1) := hB4.cell 3
 have d4 : W4.cell? ⟨W1.heap.size, 4, none⟩ = some (.int .i64 0) := hB4.cell 4
 have d5 : W4.cell? ⟨W1.heap.size, 5, none⟩ = some (.bool false) := hB4.cell 5
 have HA2 := hid (ib_add hI4 (by omega) aw23 false aw23_ok.1 aw23_ok.2 rfl)
 rw [aw23_a2, aw23_c1, show (-1 : Int) + sgI false = 0 from rfl, show msgV aw23 false = .agg #[.float .f64 4611686018427387904, .int .i64 0, .int .i64 0, .int .i64 1, .int .i64 0, .bool false] from rfl, hW4] at HA2
 rw [hW4] at d0 d1 d2 d3 d4 d5
 clear hI3 hB3 hI4 hB4 hW4
 go_wp2_with fail
 (with_reducible refine HA2.out.mono ?_)
 rintro r W5 ⟨rfl, hI5⟩
 clear b0 b1 b2 b3 b4 b5 bf bl d0 d1 d2 d3 d4 d5
 have hB5 := hI5.blk (List.mem_singleton.2 rfl)
 have b0 : W5.cell? ⟨W1.heap.size, 0, none⟩ = some (.float .f64 4611686018427387904) := hB5.cell 0
 have b1 : W5.cell? ⟨W1.heap.size, 1, none⟩ = some (.int .i64 0) := hB5.cell 1
 have b2 : W5.cell? ⟨W1.heap.size, 2, none⟩ = some (.int .i64 0) := hB5.cell 2
 have b3 : W5.cell? ⟨W1.heap.size, 3, none⟩ = some (.int .i64 1) := hB5.cell 3
 have b4 : W5.cell? ⟨W1.heap.size, 4, none⟩ = some (.int .i64 0) := hB5.cell 4
 have b5 : W5.cell? ⟨W1.heap.size, 5, none⟩ = some (.bool false) := hB5.cell 5
 have HA3 := hid (ib_add hI5 (by omega) aw23 false aw23_ok.1 aw23_ok.2 rfl)
 rw [aw23_a3, show msgV aw23 false = .agg #[.float .f64 4611686018427387904, .int .i64 0, .int .i64 0, .int .i64 1, .int .i64 0, .bool false] from rfl] at HA3
 clear hI5 hB5
 go_wp2_with fail
 (with_reducible refine HA3.out.mono ?_)
 rintro r W6 ⟨rfl, hI6⟩
 have HN := hid (ib_next hI6 (by omega) [] (by simp))
 rw [aw23_n, show S [] = { data := #[] } from rfl, show nextV (some aw23) = .tuple #[.agg #[.float .f64 4611686018427387904, .int .i64 0, .int .i64 0, .int .i64 1, .int .i64 0], .bool true, .int .i64 0] from rfl] at HN
 clear hI6 b0 b1 b2 b3 b4 b5
 go_wp2_with fail
 (with_reducible refine HN.out.mono ?_)
 rintro r W7 ⟨rfl, hI7⟩
 have HF := hid (hI7.fr.alloc hI7.fr.size (.cells #[.float .f64 4611686018427387904, .int .i64 0, .int .i64 0, .int .i64 1, .int .i64 0] 67))
 clear hI7
 go_wp2
 go_ret
 exact ⟨rfl, HF.out⟩
end
end Go.Proofs.YtnnghcooidjlhaaGreat
