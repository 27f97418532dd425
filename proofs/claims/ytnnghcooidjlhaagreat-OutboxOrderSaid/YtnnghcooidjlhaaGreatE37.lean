/- Parts of the proof: Zm Zr Zv. -/
import Derived.Test.YtnnghcooidjlhaaGreatE34
import Derived.Test.YtnnghcooidjlhaaGreatE35
import Derived.Test.YtnnghcooidjlhaaGreatE36
set_option linter.all false
set_option maxRecDepth 100000
namespace Go.Proofs.YtnnghcooidjlhaaGreat
section
open Go.RowKit Go.Lib
set_option maxHeartbeats 8000000 in
theorem same24_any {w : World} {p1 p2 : Option Addr} {n c1 c2 : Nat} {l : List It} (h1 : Vw 7 itC w (.slice p1 n c1) l) (h2 : Vw 7 itC w (.slice p2 n c2) l) (hn : n = l.length) (hl : n ≤ 1000) :
  Calls Tryz.prog 43 #[.slice p1 n c1, .slice p2 n c2] w fun r w' => r = .returned (.bool true) ∧ Below w.heap.size w w' := by
 have hli : (n : Int) ≤ 1000 := by omega
 have HG := hid (⟨h1, h2, hn⟩ : _ ∧ _ ∧ _)
 clear h1 h2 hn hl
 go_enter Tryz.func43, Tryz.ntmps43
 go_wp2
 go_loopg [5] n (fun gg s5 wr => ∃ j : Nat, j ≤ n ∧ n - j ≤ gg ∧ s5 = .int .i64 j ∧ Hid (Below w.heap.size w wr))
 case atStart => exact ⟨0, by omega, by omega, rfl, hid (Below.refl _ _)⟩
 case round =>
  obtain ⟨j, hj, hgg, rfl, HI⟩ := hrel
  by_cases hje : j < n
  ·obtain ⟨x, hx⟩ : ∃ x, l[j]? = some x := ⟨_, List.getElem?_eq_getElem (by rw [← HG.out.2.2]; exact hje)⟩
   have hne : l ≠ [] := by rintro rfl; simp at hx
   obtain ⟨b1, o1, _, e1, _, hb1, k1⟩ := HG.out.1.ex hne
   obtain ⟨b2, o2, _, e2, _, hb2, k2⟩ := HG.out.2.1.ex hne
   injection e1 with e1 e3 e4
   injection e2 with e2 e5 e6
   subst e1 e2
   clear e3 e4 e5 e6
   have HC : Hid (∀ W, BelC wr W → (W.cell? ⟨b1, o1 + j * 7, none⟩ = some (.string (S x.c)) ∧ W.cell? ⟨b1, o1 + j * 7 + 1, none⟩ = some (.int .i64 x.k) ∧ W.cell? ⟨b1, o1 + j * 7 + 2, none⟩ = some (.float .f64 x.e.t) ∧ W.cell? ⟨b1, o1 + j * 7 + 3, none⟩ = some (.int .i64 x.e.src) ∧ W.cell? ⟨b1, o1 + j * 7 + 4, none⟩ = some (.int .i64 x.e.n) ∧ W.cell? ⟨b1, o1 + j * 7 + 5, none⟩ = some (.int .i64 x.e.dst) ∧ W.cell? ⟨b1, o1 + j * 7 + 6, none⟩ = some (.int .i64 x.e.pay)) ∧ W.cell? ⟨b2, o2 + j * 7, none⟩ = some (.string (S x.c)) ∧ W.cell? ⟨b2, o2 + j * 7 + 1, none⟩ = some (.int .i64 x.k) ∧ W.cell? ⟨b2, o2 + j * 7 + 2, none⟩ = some (.float .f64 x.e.t) ∧ W.cell? ⟨b2, o2 + j * 7 + 3, none⟩ = some (.int .i64 x.e.src) ∧ W.cell? ⟨b2, o2 + j * 7 + 4, none⟩ = some (.int .i64 x.e.n) ∧ W.cell? ⟨b2, o2 + j * 7 + 5, none⟩ = some (.int .i64 x.e.dst) ∧ W.cell? ⟨b2, o2 + j * 7 + 6, none⟩ = some (.int .i64 x.e.pay)) := hid fun W hW => by
    have hb := HI.out.trans (hW.out.mono HI.out.size)
    have f1 : ∀ q u, (itC x)[q]? = some u → W.cell? ⟨b1, o1 + j * 7 + q, none⟩ = some u := fun q u hu => (World.cell?_of_block (hb.block b1 hb1)).trans (k1 j x hx q u hu)
    have f2 : ∀ q u, (itC x)[q]? = some u → W.cell? ⟨b2, o2 + j * 7 + q, none⟩ = some u := fun q u hu => (World.cell?_of_block (hb.block b2 hb2)).trans (k2 j x hx q u hu)
    exact ⟨⟨f1 0 _ rfl, f1 1 _ rfl, f1 2 _ rfl, f1 3 _ rfl, f1 4 _ rfl, f1 5 _ rfl, f1 6 _ rfl⟩, f2 0 _ rfl, f2 1 _ rfl, f2 2 _ rfl, f2 3 _ rfl, f2 4 _ rfl, f2 5 _ rfl, f2 6 _ rfl⟩
   have hji : (j : Int) < (n : Int) := by omega
   have HDR := hid (BelC.drew wr)
   have H1 := hid (BelC.call (W1 := wr) (same20_any x.e))
   unfold evV at H1
   clear hx hne k1 k2 hb1 hb2
   obtain ⟨wo, hwo⟩ : ∃ wo, wo = wr := ⟨_, rfl⟩
   subst hwo
   go_wp2
   refine qC_region (by kernel_rfl) (by kernel_rfl) (BelC wo) HDR.out ?_
   repeat (first | (refine qC_none rfl (fun K hK => ?_); apply Exists.intro; refine ⟨fun w0 hw0 => ?_, ?_⟩; (focus (obtain ⟨⟨q0, q1, q2, q3, q4, q5, q6⟩, r0, r1, r2, r3, r4, r5, r6⟩ := HC.out w0 hw0; go_simp; first | exact rfl | exact ⟨rfl, rfl⟩ | (exact H1.out w0 hw0))); go_simp; refine hK _ ?_; clear hK K) | (refine qC_yes _ _ _ rfl rfl (by rfl) (fun K hK => ?_); apply Exists.intro; refine ⟨fun w0 hw0 => ?_, ?_⟩; (focus (obtain ⟨⟨q0, q1, q2, q3, q4, q5, q6⟩, r0, r1, r2, r3, r4, r5, r6⟩ := HC.out w0 hw0; go_simp; first | exact rfl | exact ⟨rfl, rfl⟩ | (exact H1.out w0 hw0))); go_simp; refine hK _ ?_; clear hK K) | (refine qC_no _ _ _ rfl rfl (by rfl) (fun K hK => ?_); go_simp; refine hK _ ?_; clear hK K) | (refine qC_undef _ _ _ rfl rfl (by rfl) (fun K hK => ?_); go_simp; refine hK _ ?_; clear hK K))
   refine qC_nil ?_
   intro w5 hw5
   have HI5 := hid (HI.out.trans (hw5.out.mono HI.out.size))
   clear hw5
   go_wp2
   go_roundg (n - (j + 1))
   case measure => omega
   case rel => exact ⟨j + 1, by omega, by omega, by go_num, HI5⟩
  ·have hji : ¬ ((j : Int) < (n : Int)) := by omega
   go_wp2
   go_ret
   exact ⟨rfl, HI.out⟩
end
section
open Go.RowKit Go.Lib
theorem inside_take {l : List It} {j : Nat} {y : It} (h : l[j]? = some y) (fr to : Bs) : insideO (l.take (j + 1)) fr to = insideO (l.take j) fr to ++ if inR fr to y.key = true then [y] else [] := by
 unfold insideO
 rw [List.take_add_one, h, Option.toList_some, List.filter_append]
 cases h1 : inR fr to y.key <;> simp [h1]
theorem out_take {l : List It} {j : Nat} {y : It} (h : l[j]? = some y) (fr to : Bs) : outO (l.take (j + 1)) fr to = outO (l.take j) fr to ++ if inR fr to y.key = true then [] else [y] := by
 unfold outO
 rw [List.take_add_one, h, Option.toList_some, List.filter_append]
 cases h1 : inR fr to y.key <;> simp [h1]
def Two24 (B : Nat) (w W : World) (v1 v2 : Value) (l1 l2 : List It) : Prop :=
 Below B w W ∧ W.ownsRow B 72 7 v1 l1.length (rowV itC l1) ∧ W.ownsRow B 72 7 v2 l2.length (rowV itC l2) ∧ (∀ g, v1.ownBlock = some g → v2.ownBlock = some g → False) ∧ B ≤ W.heap.size
theorem Two24.below {B : Nat} {w W W' : World} {v1 v2 : Value} {l1 l2 : List It} (h : Two24 B w W v1 v2 l1 l2) (hb : Below W.heap.size W W') : Two24 B w W' v1 v2 l1 l2 := by
 obtain ⟨h1, h2, h3, h4, h5⟩ := h
 exact ⟨h1.trans (hb.mono h5), row_of h2 (fun b e => hb.block b (h2.lt b e).2), row_of h3 (fun b e => hb.block b (h3.lt b e).2), h4, Nat.le_trans h5 hb.size⟩
set_option maxHeartbeats 16000000 in
theorem within24_any {w : World} {p : Option Addr} {n c : Nat} {l : List It} (hv : Vw 7 itC w (.slice p n c) l) (hn : n = l.length) (hl : n ≤ 1000) (hf : ∀ y ∈ l, y.fit) (fr to : Bs) :
  Calls Tryz.prog 103 #[.slice p n c, .string (S fr), .string (S to)] w fun r w' => ∃ v1 v2, r = .returned (.tuple #[v1, v2]) ∧ Two24 w.heap.size w w' v1 v2 (insideO l fr to) (outO l fr to) := by
 have hli : (n : Int) ≤ 1000 := by omega
 have HG := hid (⟨hv, hn, hl, hf⟩ : _ ∧ _ ∧ _ ∧ _)
 have HI0 : Hid (Two24 w.heap.size w w (.slice none 0 0) (.slice none 0 0) (insideO (l.take 0) fr to) (outO (l.take 0) fr to)) := hid ⟨Below.refl _ _, ⟨rfl, .inl ⟨rfl, rfl⟩⟩, ⟨rfl, .inl ⟨rfl, rfl⟩⟩, (fun g hg => by cases hg), Nat.le_refl _⟩
 clear hv hn hl hf
 go_enter Tryz.func103, Tryz.ntmps103
 go_wp2
 go_loopg [8, 9, 10] n (fun gg s8 s9 s10 wr => ∃ (j : Nat) (p1 : Option Addr) (n1 c1 : Nat) (p2 : Option Addr) (n2 c2 : Nat), j ≤ n ∧ n - j ≤ gg ∧ s10 = .int .i64 j ∧ s8 = .slice p1 n1 c1 ∧ s9 = .slice p2 n2 c2 ∧ Hid (Two24 w.heap.size w wr (.slice p1 n1 c1) (.slice p2 n2 c2) (insideO (l.take j) fr to) (outO (l.take j) fr to)))
 case atStart => exact ⟨0, _, _, _, _, _, _, by omega, by omega, rfl, rfl, rfl, HI0⟩
 case round =>
  obtain ⟨j, p1, n1, c1, p2, n2, c2, hj, hgg, rfl, rfl, rfl, HI⟩ := hrel
  by_cases hje : j < n
  ·obtain ⟨y, hy⟩ : ∃ y, l[j]? = some y := ⟨_, List.getElem?_eq_getElem (by rw [← HG.out.2.1]; exact hje)⟩
   obtain ⟨b, off, c', e, _, hbl, hcx⟩ := HG.out.1.ex (by rintro rfl; simp at hy)
   injection e with e1 e2 e3
   subst e1
   clear e2 e3
   have HC : Hid (∀ W, Below wr.heap.size wr W → W.cell? ⟨b, off + j * 7, none⟩ = some (.string (S y.c)) ∧ W.cell? ⟨b, off + j * 7 + 1, none⟩ = some (.int .i64 y.k) ∧ W.cell? ⟨b, off + j * 7 + 2, none⟩ = some (.float .f64 y.e.t) ∧ W.cell? ⟨b, off + j * 7 + 3, none⟩ = some (.int .i64 y.e.src) ∧ W.cell? ⟨b, off + j * 7 + 4, none⟩ = some (.int .i64 y.e.n) ∧ W.cell? ⟨b, off + j * 7 + 5, none⟩ = some (.int .i64 y.e.dst) ∧ W.cell? ⟨b, off + j * 7 + 6, none⟩ = some (.int .i64 y.e.pay)) := hid fun W hW => by
    have hb := HI.out.1.trans (hW.mono HI.out.2.2.2.2)
    have hcell : ∀ q u, (itC y)[q]? = some u → W.cell? ⟨b, off + j * 7 + q, none⟩ = some u := fun q u hu => (World.cell?_of_block (hb.block b hbl)).trans (hcx j y hy q u hu)
    exact ⟨hcell 0 _ rfl, hcell 1 _ rfl, hcell 2 _ rfl, hcell 3 _ rfl, hcell 4 _ rfl, hcell 5 _ rfl, hcell 6 _ rfl⟩
   have hyf := HG.out.2.2.2 y (List.mem_of_getElem? hy)
   have hck : y.c ++ oneB y.k = y.key := rfl
   have hwr : IntKind.u8.wrap y.k = y.k := by rw [IntKind.wrap_u8]; have := hyf.2; omega
   have hcat : ¬ 9223372036854775807 < y.c.length + 1 := by have := hyf.1; omega
   have HIN := hid (inside_take hy fr to)
   have HOU := hid (out_take hy fr to)
   have hji : (j : Int) < (n : Int) := by omega
   obtain ⟨wo, hwo⟩ : ∃ wo, wo = wr := ⟨_, rfl⟩
   subst hwo
   have hcv := blk_one (l := oneB y.k) (Blk.new wo 5 #[.int .u8 y.k]).drew (by
    have := hyf.2
    simp [bA, cB, oneB]
    omega) 1 1 rfl
   obtain ⟨m0, m1, _⟩ := HC.out wo (Below.refl _ _)
   have HMA : Hid (∀ o : Obj, (wo.alloc o).drew.cell? ⟨b, off + j * 7, none⟩ = some (.string (S y.c)) ∧ (wo.alloc o).drew.cell? ⟨b, off + j * 7 + 1, none⟩ = some (.int .i64 y.k)) := hid fun o => by
    have h := HC.out (wo.alloc o).drew (below_drewN ((Below.refl _ wo).alloc (Nat.le_refl _) o) 1)
    exact ⟨h.1, h.2.1⟩
   have HBL : Hid (∀ o : Obj, Below wo.heap.size wo (wo.alloc o).drew) := hid fun o => below_drewN ((Below.refl _ wo).alloc (Nat.le_refl _) o) 1
   clear hy hbl hcx hyf
   go_wp2
   refine wp_region_held_drew (S := fun W => W.cell? ⟨b, off + j * 7, none⟩ = some (.string (S y.c)) ∧ W.cell? ⟨b, off + j * 7 + 1, none⟩ = some (.int .i64 y.k)) (by kernel_rfl) (by exact ⟨m0, m1⟩) (fun hHeld => ?_)
   refine hTk (i := 0) (oi := ?a0_6) (v := ?v0_6) (by (simp only [gEa, gEb, gEc]; try rfl)) (by kernel_rfl) ?b0_6 (Or.inl ⟨by rfl, ?c0_6⟩) hHeld ?d0_6; (case c0_6 => (intro wz hSw; (try dsimp only at hSw); go_simp; first | done | with_reducible rfl)); (case b0_6 => exact fun _ _ _ h => h); (try simp only [Act.put, sEa, sEb, sEc]); refine hTk (i := 1) (oi := ?a1_6) (v := ?v1_6) (by (simp only [gEa, gEb, gEc]; try rfl)) (by kernel_rfl) ?b1_6 (Or.inl ⟨by rfl, ?c1_6⟩) hHeld ?d1_6; (case c1_6 => (intro wz hSw; (try dsimp only at hSw); go_simp; first | done | with_reducible rfl)); (case b1_6 => exact fun _ _ _ h => h); (try simp only [Act.put, sEa, sEb, sEc]); refine hTk (i := 2) (oi := ?a2_6) (v := ?v2_6) (by (simp only [gEa, gEb, gEc]; try rfl)) (by kernel_rfl) ?b2_6 (Or.inl ⟨by rfl, ?c2_6⟩) hHeld ?d2_6; (case c2_6 => (intro wz hSw; (try dsimp only at hSw); go_simp; first | done | with_reducible rfl)); (case b2_6 => exact fun _ _ _ h => h); (try simp only [Act.put, sEa, sEb, sEc]); refine hTk (i := 3) (oi := ?a3_6) (v := ?v3_6) (by (simp only [gEa, gEb, gEc]; try rfl)) (by kernel_rfl) ?b3_6 (Or.inl ⟨by rfl, ?c3_6⟩) hHeld ?d3_6; (case c3_6 => (intro wz hSw; (try dsimp only at hSw); go_simp; first | done | with_reducible rfl)); (case b3_6 => exact fun _ _ _ h => h); (try simp only [Act.put, sEa, sEb, sEc]); refine hTk (i := 4) (oi := ?a4_6) (v := ?v4_6) (by (simp only [gEa, gEb, gEc]; try rfl)) (by kernel_rfl) ?b4_6 (Or.inl ⟨by rfl, ?c4_6⟩) hHeld ?d4_6; (case c4_6 => (intro wz hSw; (try dsimp only at hSw); go_simp; first | done | with_reducible rfl)); (case b4_6 => exact fun _ _ _ h => h); (try simp only [Act.put, sEa, sEb, sEc]); refine hTk (i := 5) (oi := ?a5_6) (v := ?v5_6) (by (simp only [gEa, gEb, gEc]; try rfl)) (by kernel_rfl) ?b5_6 (Or.inl ⟨by rfl, ?c5_6⟩) hHeld ?d5_6; (case c5_6 => (intro wz hSw; (try dsimp only at hSw); go_simp; first | done | with_reducible rfl)); (case b5_6 => exact fun _ _ _ h => h); (try simp only [Act.put, sEa, sEb, sEc]); refine hTk (i := 6) (oi := ?a6_6) (v := ?v6_6) (by (simp only [gEa, gEb, gEc]; try rfl)) (by kernel_rfl) ?b6_6 (Or.inl ⟨by rfl, ?c6_6⟩) hHeld ?d6_6; (case c6_6 => (intro wz hSw; (try dsimp only at hSw); go_simp; first | done | with_reducible rfl)); (case b6_6 => exact fun _ _ _ h => h); (try simp only [Act.put, sEa, sEb, sEc]); refine hTk (i := 7) (oi := ?a7_6) (v := ?v7_6) (by (simp only [gEa, gEb, gEc]; try rfl)) (by kernel_rfl) ?b7_6 (Or.inl ⟨by rfl, ?c7_6⟩) hHeld ?d7_6; (case c7_6 => (intro wz hSw; (try dsimp only at hSw); go_simp; first | done | with_reducible rfl)); (case b7_6 => exact fun _ _ _ h => h); (try simp only [Act.put, sEa, sEb, sEc]); refine hTk (i := 8) (oi := ?a8_6) (v := ?v8_6) (by (simp only [gEa, gEb, gEc]; try rfl)) (by kernel_rfl) ?b8_6 (Or.inl ⟨by rfl, ?c8_6⟩) hHeld ?d8_6; (case c8_6 => (intro wz hSw; (try dsimp only at hSw); go_simp; first | done | with_reducible rfl)); (case b8_6 => exact fun _ _ _ h => h); (try simp only [Act.put, sEa, sEb, sEc]); refine hTk (i := 9) (oi := ?a9_6) (v := ?v9_6) (by (simp only [gEa, gEb, gEc]; try rfl)) (by kernel_rfl) ?b9_6 (Or.inl ⟨by rfl, ?c9_6⟩) hHeld ?d9_6; (case c9_6 => (intro wz hSw; (try dsimp only at hSw); go_simp; first | done | with_reducible rfl)); (case b9_6 => exact fun _ _ _ h => h); (try simp only [Act.put, sEa, sEb, sEc]); refine hTk (i := 10) (oi := ?a10_6) (v := ?v10_6) (by (simp only [gEa, gEb, gEc]; try rfl)) (by kernel_rfl) ?b10_6 (Or.inl ⟨by rfl, ?c10_6⟩) hHeld ?d10_6; (case c10_6 => (intro wz hSw; (try dsimp only at hSw); go_simp; first | done | with_reducible rfl)); (case b10_6 => exact fun _ _ _ h => h); (try simp only [Act.put, sEa, sEb, sEc]); refine wpAnyH_ready (rs := [11]) (by kernel_rfl) (by simp) ?_; refine AllReadyH.cons (o := ?o11_6) (by (simp only [gEa, gEb, gEc]; try rfl)) (fun K hK => ?_) AllReadyH.nil; go_simp; refine hK.out _ _ (by exact HMA.out _) (fun hHeld => ?_); clear hK K; (try simp only [Act.put, sEa, sEb, sEc]); refine wpAnyH_ready (rs := [12]) (by kernel_rfl) (by simp) ?_; refine AllReadyH.cons (o := ?o12_6) (by (simp only [gEa, gEb, gEc]; try rfl)) (fun K hK => ?_) AllReadyH.nil; go_simp; refine hK.out _ _ (by exact HMA.out _) (fun hHeld => ?_); clear hK K; (try simp only [Act.put, sEa, sEb, sEc]); refine hTk (i := 13) (oi := ?a13_6) (v := ?v13_6) (by (simp only [gEa, gEb, gEc]; try rfl)) (by kernel_rfl) ?b13_6 (Or.inl ⟨by rfl, ?c13_6⟩) hHeld ?d13_6; (case c13_6 => (intro wz hSw; (try dsimp only at hSw); go_simp; first | done | with_reducible rfl)); (case b13_6 => exact fun _ _ _ h => h); (try simp only [Act.put, sEa, sEb, sEc]); refine hTk (i := 14) (oi := ?a14_6) (v := ?v14_6) (by (simp only [gEa, gEb, gEc]; try rfl)) (by kernel_rfl) ?b14_6 (Or.inl ⟨by rfl, ?c14_6⟩) hHeld ?d14_6; (case c14_6 => (intro wz hSw; (try dsimp only at hSw); go_simp; first | done | with_reducible rfl)); (case b14_6 => exact fun _ _ _ h => h); (try simp only [Act.put, sEa, sEb, sEc])
   refine wpAnyH_done (by kernel_rfl) ?_ _
   obtain ⟨W5, hW5⟩ : ∃ W5, W5 = (wo.alloc (.cells #[.int .u8 y.k] 5)).drew := ⟨_, rfl⟩
   rw [← hW5]
   have hb5 : Below wo.heap.size wo W5 := by rw [hW5]; exact HBL.out _
   have HI5 := hid (HI.out.below hb5)
   obtain ⟨m0, m1, m2, m3, m4, m5, m6⟩ := HC.out W5 hb5
   clear hHeld hcv hcat hck hwr hW5 hb5
   have hcs : (y.key < fr) ∨ (¬ y.key < fr ∧ ¬ to = [] ∧ ¬ y.key < to) ∨ (¬ y.key < fr ∧ to = []) ∨ (¬ y.key < fr ∧ ¬ to = [] ∧ y.key < to) := by
    by_cases h1 : y.key < fr
    ·exact .inl h1
    ·by_cases h2 : to = []
     ·exact .inr (.inr (.inl ⟨h1, h2⟩))
     ·by_cases h3 : y.key < to
      ·exact .inr (.inr (.inr ⟨h1, h2, h3⟩))
      ·exact .inr (.inl ⟨h1, h2, h3⟩)
   have hemp : ¬ to = [] → to.isEmpty = false := fun h => by
    cases to with
    | nil => exact absurd rfl h
    | cons a t => rfl
   rcases hcs with h1 | ⟨h1, h2, h3⟩ | ⟨h1, h2⟩ | ⟨h1, h2, h3⟩
   ·have HR : Hid (inR fr to y.key = false) := hid (by unfold inR; simp [h1])
    have hb1 : Op.bytesLess y.key fr = true := by rw [bl]; exact decide_eq_true h1
    clear h1 hemp
    go_wp2_with (with_reducible refine stopAt .append rfl ?_)
    with_reducible refine goOn ?_
    refine app_one rfl _ _ 56 rfl itC infItem24 Tryz.underlying56 rfl (by decide) (by decide) itC_len itC_one y HI5.out.2.2.1 (by have h1 : (outO (l.take j) fr to).length ≤ (l.take j).length := List.length_filter_le _ _; have h3 : (l.take j).length ≤ j := List.length_take_le ..; have := HG.out.2.2.1; omega) HI5.out.2.2.2.2 rfl rfl ?_
    intro v' W6 hO6 hk6 hg6
    obtain ⟨p6, n6, c6, rfl⟩ : ∃ p n c, v' = Value.slice p n c := by obtain ⟨p, c, h⟩ := own_slice2 hO6; exact ⟨_, _, _, h⟩
    have HI6 : Hid (Two24 w.heap.size w W6 (.slice p1 n1 c1) (.slice p6 n6 c6) (insideO (l.take (j + 1)) fr to) (outO (l.take (j + 1)) fr to)) := hid (by
     obtain ⟨h1, h2, h3, h4, h5⟩ := HI5.out
     rw [HIN.out, HOU.out, HR.out, if_neg (by simp), if_neg (by simp), List.append_nil]
     refine ⟨below_own4 h1 h3 (Nat.le_refl _) hk6, row_of h2 (fun b hb => hk6.block b (h2.lt b hb).2 (fun hm => h4 b hb (Option.mem_toList.1 hm))), by simpa using hO6, fun g hg hg' => ?_, Nat.le_trans h5 hk6.size⟩
     rcases hg6 g hg' with h | h
     ·exact h4 g hg h
     ·have := (h2.lt g hg).2
      omega)
    clear hO6 hk6 hg6
    go_wp2
    go_roundg (n - (j + 1))
    case measure => omega
    case rel => exact ⟨j + 1, _, _, _, _, _, _, by omega, by omega, by go_num, rfl, rfl, HI6⟩
   ·have HR : Hid (inR fr to y.key = false) := hid (by unfold inR; simp [h2, h3])
    have hb1 : Op.bytesLess y.key fr = false := by rw [bl]; exact decide_eq_false h1
    have hb2 : to.isEmpty = false := hemp h2
    have hb3 : Op.bytesLess y.key to = false := by rw [bl]; exact decide_eq_false h3
    clear h1 h2 h3 hemp
    go_wp2_with (with_reducible refine stopAt .append rfl ?_)
    with_reducible refine goOn ?_
    refine app_one rfl _ _ 56 rfl itC infItem24 Tryz.underlying56 rfl (by decide) (by decide) itC_len itC_one y HI5.out.2.2.1 (by have h1 : (outO (l.take j) fr to).length ≤ (l.take j).length := List.length_filter_le _ _; have h3 : (l.take j).length ≤ j := List.length_take_le ..; have := HG.out.2.2.1; omega) HI5.out.2.2.2.2 rfl rfl ?_
    intro v' W6 hO6 hk6 hg6
    obtain ⟨p6, n6, c6, rfl⟩ : ∃ p n c, v' = Value.slice p n c := by obtain ⟨p, c, h⟩ := own_slice2 hO6; exact ⟨_, _, _, h⟩
    have HI6 : Hid (Two24 w.heap.size w W6 (.slice p1 n1 c1) (.slice p6 n6 c6) (insideO (l.take (j + 1)) fr to) (outO (l.take (j + 1)) fr to)) := hid (by
     obtain ⟨h1, h2, h3, h4, h5⟩ := HI5.out
     rw [HIN.out, HOU.out, HR.out, if_neg (by simp), if_neg (by simp), List.append_nil]
     refine ⟨below_own4 h1 h3 (Nat.le_refl _) hk6, row_of h2 (fun b hb => hk6.block b (h2.lt b hb).2 (fun hm => h4 b hb (Option.mem_toList.1 hm))), by simpa using hO6, fun g hg hg' => ?_, Nat.le_trans h5 hk6.size⟩
     rcases hg6 g hg' with h | h
     ·exact h4 g hg h
     ·have := (h2.lt g hg).2
      omega)
    clear hO6 hk6 hg6
    go_wp2
    go_roundg (n - (j + 1))
    case measure => omega
    case rel => exact ⟨j + 1, _, _, _, _, _, _, by omega, by omega, by go_num, rfl, rfl, HI6⟩
   ·have HR : Hid (inR fr to y.key = true) := hid (by unfold inR; simp [h1, h2])
    have hb1 : Op.bytesLess y.key fr = false := by rw [bl]; exact decide_eq_false h1
    have hb2 : to.isEmpty = true := by rw [h2]; rfl
    clear h1 h2 hemp
    go_wp2_with (with_reducible refine stopAt .append rfl ?_)
    with_reducible refine goOn ?_
    refine app_one rfl _ _ 56 rfl itC infItem24 Tryz.underlying56 rfl (by decide) (by decide) itC_len itC_one y HI5.out.2.1 (by have h1 : (insideO (l.take j) fr to).length ≤ (l.take j).length := List.length_filter_le _ _; have h3 : (l.take j).length ≤ j := List.length_take_le ..; have := HG.out.2.2.1; omega) HI5.out.2.2.2.2 rfl rfl ?_
    intro v' W6 hO6 hk6 hg6
    obtain ⟨p6, n6, c6, rfl⟩ : ∃ p n c, v' = Value.slice p n c := by obtain ⟨p, c, h⟩ := own_slice2 hO6; exact ⟨_, _, _, h⟩
    have HI6 : Hid (Two24 w.heap.size w W6 (.slice p6 n6 c6) (.slice p2 n2 c2) (insideO (l.take (j + 1)) fr to) (outO (l.take (j + 1)) fr to)) := hid (by
     obtain ⟨h1, h2, h3, h4, h5⟩ := HI5.out
     rw [HIN.out, HOU.out, HR.out, if_pos rfl, if_pos rfl, List.append_nil]
     refine ⟨below_own4 h1 h2 (Nat.le_refl _) hk6, by simpa using hO6, row_of h3 (fun b hb => hk6.block b (h3.lt b hb).2 (fun hm => h4 b (Option.mem_toList.1 hm) hb)), fun g hg hg' => ?_, Nat.le_trans h5 hk6.size⟩
     rcases hg6 g hg with h | h
     ·exact h4 g h hg'
     ·have := (h3.lt g hg').2
      omega)
    clear hO6 hk6 hg6
    go_wp2
    go_roundg (n - (j + 1))
    case measure => omega
    case rel => exact ⟨j + 1, _, _, _, _, _, _, by omega, by omega, by go_num, rfl, rfl, HI6⟩
   ·have HR : Hid (inR fr to y.key = true) := hid (by unfold inR; simp [h1, h3])
    have hb1 : Op.bytesLess y.key fr = false := by rw [bl]; exact decide_eq_false h1
    have hb2 : to.isEmpty = false := hemp h2
    have hb3 : Op.bytesLess y.key to = true := by rw [bl]; exact decide_eq_true h3
    clear h1 h2 h3 hemp
    go_wp2_with (with_reducible refine stopAt .append rfl ?_)
    with_reducible refine goOn ?_
    refine app_one rfl _ _ 56 rfl itC infItem24 Tryz.underlying56 rfl (by decide) (by decide) itC_len itC_one y HI5.out.2.1 (by have h1 : (insideO (l.take j) fr to).length ≤ (l.take j).length := List.length_filter_le _ _; have h3 : (l.take j).length ≤ j := List.length_take_le ..; have := HG.out.2.2.1; omega) HI5.out.2.2.2.2 rfl rfl ?_
    intro v' W6 hO6 hk6 hg6
    obtain ⟨p6, n6, c6, rfl⟩ : ∃ p n c, v' = Value.slice p n c := by obtain ⟨p, c, h⟩ := own_slice2 hO6; exact ⟨_, _, _, h⟩
    have HI6 : Hid (Two24 w.heap.size w W6 (.slice p6 n6 c6) (.slice p2 n2 c2) (insideO (l.take (j + 1)) fr to) (outO (l.take (j + 1)) fr to)) := hid (by
     obtain ⟨h1, h2, h3, h4, h5⟩ := HI5.out
     rw [HIN.out, HOU.out, HR.out, if_pos rfl, if_pos rfl, List.append_nil]
     refine ⟨below_own4 h1 h2 (Nat.le_refl _) hk6, by simpa using hO6, row_of h3 (fun b hb => hk6.block b (h3.lt b hb).2 (fun hm => h4 b (Option.mem_toList.1 hm) hb)), fun g hg hg' => ?_, Nat.le_trans h5 hk6.size⟩
     rcases hg6 g hg with h | h
     ·exact h4 g h hg'
     ·have := (h3.lt g hg').2
      omega)
    clear hO6 hk6 hg6
    go_wp2
    go_roundg (n - (j + 1))
    case measure => omega
    case rel => exact ⟨j + 1, _, _, _, _, _, _, by omega, by omega, by go_num, rfl, rfl, HI6⟩
  ·have hjn : j = n := by omega
   have HJ : Hid (l.take j = l) := hid (by rw [hjn, HG.out.2.1, List.take_length])
   have hji : ¬ ((j : Int) < (n : Int)) := by omega
   clear hjn
   go_wp2
   go_ret2
   have h := HI.out
   rw [HJ.out] at h
   exact ⟨_, _, rfl, h⟩
end
section
open Go.RowKit Go.Lib
def MvD (w W : World) (tb xb yb : Nat) (s : SL) (n k : Nat) (v1 v2 : Value) (kb : List (Nat × TypeId × Array Value)) (ex : List (Value × List It)) (la lb : List It) : Prop :=
 ∃ O N L, Tb w W tb xb yb s O N L la lb v1 v2 ∧ N ≤ n ∧ L ≤ k ∧ (∀ z ∈ ex, Vw 7 itC W z.1 z.2 ∧ ∀ b, z.1.ownBlock = some b → b ∉ tb :: O ∧ b < W.heap.size) ∧ ∀ z ∈ kb, Blk W z.1 z.2.1 z.2.2 ∧ z.1 ∉ tb :: O
section
variable {w W W' : World} {tb xb yb : Nat} {s : SL} {n k : Nat} {v1 v2 : Value} {kb : List (Nat × TypeId × Array Value)} {ex : List (Value × List It)} {all la lb : List It} {v : Value}
theorem MvD.below (h : MvD w W tb xb yb s n k v1 v2 kb ex la lb) (hb : Below W.heap.size W W') : MvD w W' tb xb yb s n k v1 v2 kb ex la lb := by
 obtain ⟨O, N, L, h1, h2, h3, h4, h5⟩ := h
 exact ⟨O, N, L, h1.below hb, h2, h3, fun z hz => ⟨(h4 z hz).1.below hb, fun b e => ⟨((h4 z hz).2 b e).1, Nat.lt_of_lt_of_le ((h4 z hz).2 b e).2 hb.size⟩⟩, fun z hz => ⟨(h5 z hz).1.below hb (h5 z hz).1.lt, (h5 z hz).2⟩⟩
theorem MvD.fr (h : MvD w W tb xb yb s n k v1 v2 kb ex la lb) : Below w.heap.size w W := by
 obtain ⟨O, N, L, h1, _⟩ := h
 exact h1.b
theorem MvD.t (h : MvD w W tb xb yb s n k v1 v2 kb ex la lb) : Blk W tb 61 #[.pointer (some ⟨xb, 0, none⟩), .pointer (some ⟨yb, 0, none⟩), v1, v2] := by
 obtain ⟨O, N, L, h1, _⟩ := h
 exact h1.t
theorem MvD.up (h : MvD w W tb xb yb s n k v1 v2 kb ex la lb) {n' k' : Nat} (hn : n ≤ n') (hk : k ≤ k') : MvD w W tb xb yb s n' k' v1 v2 kb ex la lb := by
 obtain ⟨O, N, L, h1, h2, h3, h4, h5⟩ := h
 exact ⟨O, N, L, h1, by omega, by omega, h4, h5⟩
theorem MvD.sub (h : MvD w W tb xb yb s n k v1 v2 kb ex la lb) {ex' : List (Value × List It)} (hs : ∀ z ∈ ex', z ∈ ex) : MvD w W tb xb yb s n k v1 v2 kb ex' la lb := by
 obtain ⟨O, N, L, h1, h2, h3, h4, h5⟩ := h
 exact ⟨O, N, L, h1, h2, h3, fun z hz => h4 z (hs z hz), h5⟩
theorem MvD.vw (h : MvD w W tb xb yb s n k v1 v2 kb ex la lb) {z : Value × List It} (hz : z ∈ ex) : Vw 7 itC W z.1 z.2 := by
 obtain ⟨O, N, L, h1, h2, h3, h4, h5⟩ := h
 exact (h4 z hz).1
theorem MvD.ok (h : MvD w W tb xb yb s n k v1 v2 kb ex la lb) : (∀ x ∈ la, x.right ∧ x.e.ok ∧ x.e.nrm = x.e) ∧ (∀ x ∈ lb, x.right ∧ x.e.ok ∧ x.e.nrm = x.e) ∧ la.length ≤ k ∧ lb.length ≤ k ∧ AscO la ∧ AscO lb := by
 obtain ⟨O, N, L, h1, h2, h3, h4, h5⟩ := h
 exact ⟨h1.i.ok, h1.i.swap.ok, Nat.le_trans h1.i.len h3, Nat.le_trans h1.i.swap.len h3, h1.i.asc, h1.i.swap.asc⟩
theorem MvD.turn {O O' : List Nat} {N L N' L' n' k' : Nat} {la' lb' : List It} (h1 : Tb w W tb xb yb s O N L la lb v1 v2) (h4 : ∀ z ∈ ex, Vw 7 itC W z.1 z.2 ∧ ∀ b, z.1.ownBlock = some b → b ∉ tb :: O ∧ b < W.heap.size) (h5 : ∀ z ∈ kb, Blk W z.1 z.2.1 z.2.2 ∧ z.1 ∉ tb :: O) (hk : Kp O W W') (hg : Gr O W.heap.size O') (hi : OxI W' xb yb s 1 2 2 O' N' L' la' lb') (hn : N' ≤ n') (hl : L' ≤ k') : MvD w W' tb xb yb s n' k' v1 v2 kb ex la' lb' :=
 ⟨O', N', L', h1.turn hk hg hi, hn, hl, fun z hz => ⟨(h4 z hz).1.kp4 hk fun b e hm => ((h4 z hz).2 b e).1 (by simp [hm]), fun b e => ⟨fun hm => by
  have h6 := (h4 z hz).2 b e
  simp only [List.mem_cons, not_or] at h6
  rcases List.mem_cons.1 hm with rfl | hm
  ·exact h6.1.1 rfl
  ·exact hg.out h6.2 h6.1.2 hm, Nat.lt_of_lt_of_le ((h4 z hz).2 b e).2 hk.size⟩⟩, fun z hz => by
  have h6 := h5 z hz
  simp only [List.mem_cons, not_or] at h6 ⊢
  exact ⟨h6.1.kp hk h6.2.2, h6.2.1, hg.out h6.1.lt h6.2.2⟩⟩
theorem MvD.add (h : MvD w W tb xb yb s n k v1 v2 kb ex la lb) (hb : Below W.heap.size W W') {T : TypeId} {v : Value} {m : List It} (ho : W'.ownsRow W.heap.size T 7 v m.length (rowV itC m)) : MvD w W' tb xb yb s n k v1 v2 kb ((v, m) :: ex) la lb := by
 obtain ⟨O, N, L, h1, h2, h3, h4, h5⟩ := h
 refine ⟨O, N, L, h1.below hb, h2, h3, fun z hz => ?_, fun z hz => ⟨(h5 z hz).1.below hb (h5 z hz).1.lt, (h5 z hz).2⟩⟩
 rcases List.mem_cons.1 hz with rfl | hz
 ·refine ⟨Vw.of_own itC_len ho rfl, fun b e => ⟨fun hm => ?_, (ho.lt b e).2⟩⟩
  have g1 := (ho.lt b e).1
  rcases List.mem_cons.1 hm with rfl | hm
  ·have := h1.t.lt; omega
  ·have g2 := h1.i.lts b (by simp [hm])
   omega
 ·exact ⟨(h4 z hz).1.below hb, fun b e => ⟨((h4 z hz).2 b e).1, Nat.lt_of_lt_of_le ((h4 z hz).2 b e).2 hb.size⟩⟩
theorem MvD.box (h : MvD w W tb xb yb s n k v1 v2 kb ex la lb) (T : TypeId) (cs : Array Value) : MvD w (W.alloc (.cells cs T)) tb xb yb s n k v1 v2 ((W.heap.size, T, cs) :: kb) ex la lb := by
 have hb : Below W.heap.size W (W.alloc (.cells cs T)) := (Below.refl _ W).alloc (Nat.le_refl _) _
 obtain ⟨O, N, L, h1, h2, h3, h4, h5⟩ := h
 refine ⟨O, N, L, h1.below hb, h2, h3, fun z hz => ⟨(h4 z hz).1.below hb, fun b e => ⟨((h4 z hz).2 b e).1, Nat.lt_of_lt_of_le ((h4 z hz).2 b e).2 hb.size⟩⟩, fun z hz => ?_⟩
 rcases List.mem_cons.1 hz with rfl | hz
 ·refine ⟨Blk.new W T cs, fun hm => ?_⟩
  rcases List.mem_cons.1 hm with e | hm
  ·have h6 := h1.t.lt
   have e : W.heap.size = tb := e
   omega
  ·have h6 := h1.i.lts W.heap.size (by simp [show W.heap.size ∈ O from hm])
   omega
 ·exact ⟨(h5 z hz).1.below hb (h5 z hz).1.lt, (h5 z hz).2⟩
theorem MvD.blk (h : MvD w W tb xb yb s n k v1 v2 kb ex la lb) {z : Nat × TypeId × Array Value} (hz : z ∈ kb) : Blk W z.1 z.2.1 z.2.2 := by
 obtain ⟨O, N, L, h1, h2, h3, h4, h5⟩ := h
 exact (h5 z hz).1
theorem MvD.nobox (h : MvD w W tb xb yb s n k v1 v2 kb ex la lb) : MvD w W tb xb yb s n k v1 v2 [] ex la lb := by
 obtain ⟨O, N, L, h1, h2, h3, h4, h5⟩ := h
 exact ⟨O, N, L, h1, h2, h3, h4, by simp⟩
theorem tb_set (h : MvD w W tb xb yb s n k v1 v2 kb ex la lb) (i : Nat) (u : Value) {u1 u2 : Value} (hB : Blk (W.setCell ⟨tb, i, none⟩ u) tb 61 #[.pointer (some ⟨xb, 0, none⟩), .pointer (some ⟨yb, 0, none⟩), u1, u2]) : MvD w (W.setCell ⟨tb, i, none⟩ u) tb xb yb s n k u1 u2 kb ex la lb := by
 obtain ⟨O, N, L, h1, h2, h3, h4, h5⟩ := h
 have hs : (W.setCell ⟨tb, i, none⟩ u).heap.size = W.heap.size := by simp
 refine ⟨O, N, L, ⟨h1.i.of_blocks (fun b hb => Below.heap_setCell _ _ _ _ (fun e => h1.nt (by rw [← show b = tb from e]; exact hb))), hB, h1.nt, h1.b.setCell (h1.o tb (by simp)) _, h1.o⟩, h2, h3, fun z hz => ⟨(h4 z hz).1.of_block (fun b hb e => Below.heap_setCell _ _ _ _ (fun e2 => ((h4 z hz).2 b e).1 (by rw [show b = tb from e2]; simp))) (by rw [hs]; exact Nat.le_refl _), fun b e => ⟨((h4 z hz).2 b e).1, by rw [hs]; exact ((h4 z hz).2 b e).2⟩⟩, fun z hz => ⟨(h5 z hz).1.far (fun e => (h5 z hz).2 (by rw [show z.1 = tb from e]; simp)) u, (h5 z hz).2⟩⟩
theorem MvD.set2 (h : MvD w W tb xb yb s n k v1 v2 kb ex la lb) (u : Value) : MvD w (W.setCell ⟨tb, 2, none⟩ u) tb xb yb s n k u v2 kb ex la lb := tb_set h 2 u (h.t.set_ 2 u)
theorem MvD.set3 (h : MvD w W tb xb yb s n k v1 v2 kb ex la lb) (u : Value) : MvD w (W.setCell ⟨tb, 3, none⟩ u) tb xb yb s n k v1 u kb ex la lb := tb_set h 3 u (h.t.set_ 3 u)
set_option maxHeartbeats 4000000 in
theorem mvD_moveab (h : MvD w W tb xb yb s n k v1 v2 kb ex la lb) (hk : k ≤ 1000) (hr : ∀ N L j, N ≤ n → L ≤ k → j < k → roomO (N + j) L) (fr : Bs) (hf : fr.length ≤ 30) :
  Calls Tryz.prog 37 #[.pointer (some ⟨xb, 0, none⟩), .pointer (some ⟨yb, 0, none⟩), .string (S fr)] W fun r w' => r = .returned (.tuple #[.int .i64 (insideO la fr []).length, .int .i64 0]) ∧ MvD w w' tb xb yb s (n + k) k v1 v2 kb ex (outO la fr []) ((insideO la fr []).foldl setO lb) := by
 obtain ⟨O, N, L, h1, h2, h3, h4, h5⟩ := h
 have hI := h1.i
 have hll : (insideO la fr []).length ≤ L := Nat.le_trans (List.length_filter_le _ _) hI.len
 refine (omove_any hI (by have := hI.len; omega) fr hf (fun j hj => hr N L j h2 h3 (by omega))).mono ?_
 rintro r w' ⟨O', rfl, g1, g2, g3⟩
 exact ⟨rfl, MvD.turn h1 h4 h5 g2 g3 g1 (by omega) h3⟩
set_option maxHeartbeats 4000000 in
theorem mvD_moveba (h : MvD w W tb xb yb s n k v1 v2 kb ex la lb) (hk : k ≤ 1000) (hr : ∀ N L j, N ≤ n → L ≤ k → j < k → roomO (N + j) L) (fr : Bs) (hf : fr.length ≤ 30) :
  Calls Tryz.prog 37 #[.pointer (some ⟨yb, 0, none⟩), .pointer (some ⟨xb, 0, none⟩), .string (S fr)] W fun r w' => r = .returned (.tuple #[.int .i64 (insideO lb fr []).length, .int .i64 0]) ∧ MvD w w' tb xb yb s (n + k) k v1 v2 kb ex ((insideO lb fr []).foldl setO la) (outO lb fr []) := by
 obtain ⟨O, N, L, h1, h2, h3, h4, h5⟩ := h
 have hI := h1.i.swap
 have hll : (insideO lb fr []).length ≤ L := Nat.le_trans (List.length_filter_le _ _) hI.len
 refine (omove_any hI (by have := hI.len; omega) fr hf (fun j hj => hr N L j h2 h3 (by omega))).mono ?_
 rintro r w' ⟨O', rfl, g1, g2, g3⟩
 exact ⟨rfl, MvD.turn h1 h4 h5 g2 g3 g1.swap (by omega) h3⟩
theorem mvD_noab (h : MvD w W tb xb yb s n k v1 v2 kb ex la lb) (fr : Bs) (hf : ¬ fr.length ≤ 30) :
  Calls Tryz.prog 37 #[.pointer (some ⟨xb, 0, none⟩), .pointer (some ⟨yb, 0, none⟩), .string (S fr)] W fun r w' => r = .returned (.tuple #[.int .i64 0, .int .i64 2]) ∧ Below W.heap.size W w' := by
 obtain ⟨O, N, L, h1, h2, h3, h4, h5⟩ := h
 exact omove_no h1.i fr hf
theorem mvD_noba (h : MvD w W tb xb yb s n k v1 v2 kb ex la lb) (fr : Bs) (hf : ¬ fr.length ≤ 30) :
  Calls Tryz.prog 37 #[.pointer (some ⟨yb, 0, none⟩), .pointer (some ⟨xb, 0, none⟩), .string (S fr)] W fun r w' => r = .returned (.tuple #[.int .i64 0, .int .i64 2]) ∧ Below W.heap.size W w' := by
 obtain ⟨O, N, L, h1, h2, h3, h4, h5⟩ := h
 exact omove_no h1.i.swap fr hf
theorem mvD_put (h : MvD w W tb xb yb s n k v1 v2 kb ex la lb) (hr : ∀ N L, N ≤ n → L ≤ k → roomO N L) (a : It) (hR : a.right) (ho : a.e.ok) :
  Calls Tryz.prog 34 #[.pointer (some ⟨xb, 0, none⟩), itV a] W fun e w' => e = .returned (.int .i64 0) ∧ MvD w w' tb xb yb s (n + 1) (k + 1) v1 v2 kb ex (setO la a.nrm) lb := by
 obtain ⟨O, N, L, h1, h2, h3, h4, h5⟩ := h
 refine (oput_any h1.i a hR ho (hr N L h2 h3)).mono ?_
 rintro e w' ⟨O', rfl, g1, g2, g3⟩
 exact ⟨rfl, MvD.turn h1 h4 h5 g2 g3 g1 (by omega) (by omega)⟩
theorem mvD_putb (h : MvD w W tb xb yb s n k v1 v2 kb ex la lb) (hr : ∀ N L, N ≤ n → L ≤ k → roomO N L) (a : It) (hR : a.right) (ho : a.e.ok) :
  Calls Tryz.prog 34 #[.pointer (some ⟨yb, 0, none⟩), itV a] W fun e w' => e = .returned (.int .i64 0) ∧ MvD w w' tb xb yb s (n + 1) (k + 1) v1 v2 kb ex la (setO lb a.nrm) := by
 obtain ⟨O, N, L, h1, h2, h3, h4, h5⟩ := h
 refine (oput_any h1.i.swap a hR ho (hr N L h2 h3)).mono ?_
 rintro e w' ⟨O', rfl, g1, g2, g3⟩
 exact ⟨rfl, MvD.turn h1 h4 h5 g2 g3 g1.swap (by omega) (by omega)⟩
theorem mvD_del (h : MvD w W tb xb yb s n k v1 v2 kb ex la lb) (a : It) (hR : a.fit) :
  Calls Tryz.prog 46 #[.pointer (some ⟨xb, 0, none⟩), itV a] W fun e w' => ∃ er, e = .returned (.int .i64 er) ∧ ((er = 0 ∧ ∃ y ∈ la, y.key = a.key) ∨ (er = 9 ∧ ¬ ∃ y ∈ la, y.key = a.key)) ∧ MvD w w' tb xb yb s n k v1 v2 kb ex (delO la a.key) lb := by
 obtain ⟨O, N, L, h1, h2, h3, h4, h5⟩ := h
 refine (odel_any h1.i a hR).mono ?_
 rintro e w' ⟨er, rfl, hc, hk⟩
 rcases hc with ⟨e5, h6, h7⟩ | ⟨e5, h6, h7⟩
 ·exact ⟨er, rfl, .inl ⟨e5, h6⟩, MvD.turn h1 h4 h5 hk (Gr.refl _ _) h7 h2 (by omega)⟩
 ·exact ⟨er, rfl, .inr ⟨e5, h6⟩, MvD.turn h1 h4 h5 hk (Gr.refl _ _) h7 h2 h3⟩
theorem mvD_delb (h : MvD w W tb xb yb s n k v1 v2 kb ex la lb) (a : It) (hR : a.fit) :
  Calls Tryz.prog 46 #[.pointer (some ⟨yb, 0, none⟩), itV a] W fun e w' => ∃ er, e = .returned (.int .i64 er) ∧ ((er = 0 ∧ ∃ y ∈ lb, y.key = a.key) ∨ (er = 9 ∧ ¬ ∃ y ∈ lb, y.key = a.key)) ∧ MvD w w' tb xb yb s n k v1 v2 kb ex la (delO lb a.key) := by
 obtain ⟨O, N, L, h1, h2, h3, h4, h5⟩ := h
 refine (odel_any h1.i.swap a hR).mono ?_
 rintro e w' ⟨er, rfl, hc, hk⟩
 rcases hc with ⟨e5, h6, h7⟩ | ⟨e5, h6, h7⟩
 ·exact ⟨er, rfl, .inl ⟨e5, h6⟩, MvD.turn h1 h4 h5 hk (Gr.refl _ _) h7.swap h2 (by omega)⟩
 ·exact ⟨er, rfl, .inr ⟨e5, h6⟩, MvD.turn h1 h4 h5 hk (Gr.refl _ _) h7.swap h2 h3⟩
theorem mvD_clear (h : MvD w W tb xb yb s n k v1 v2 kb ex la lb) (fr to : Bs) (hf : fr.length ≤ 30) (ht : to.length ≤ 30) :
  Calls Tryz.prog 44 #[.pointer (some ⟨xb, 0, none⟩), .string (S fr), .string (S to)] W fun r w' => r = .returned (.tuple #[.int .i64 (insideO la fr to).length, .int .i64 0]) ∧ MvD w w' tb xb yb s n k v1 v2 kb ex (outO la fr to) lb := by
 obtain ⟨O, N, L, h1, h2, h3, h4, h5⟩ := h
 refine (oclear_any h1.i fr to hf ht).mono ?_
 rintro r w' ⟨rfl, g1, g2⟩
 exact ⟨rfl, MvD.turn h1 h4 h5 g2 (Gr.refl _ _) g1 h2 h3⟩
theorem mvD_clearb (h : MvD w W tb xb yb s n k v1 v2 kb ex la lb) (fr to : Bs) (hf : fr.length ≤ 30) (ht : to.length ≤ 30) :
  Calls Tryz.prog 44 #[.pointer (some ⟨yb, 0, none⟩), .string (S fr), .string (S to)] W fun r w' => r = .returned (.tuple #[.int .i64 (insideO lb fr to).length, .int .i64 0]) ∧ MvD w w' tb xb yb s n k v1 v2 kb ex la (outO lb fr to) := by
 obtain ⟨O, N, L, h1, h2, h3, h4, h5⟩ := h
 refine (oclear_any h1.i.swap fr to hf ht).mono ?_
 rintro r w' ⟨rfl, g1, g2⟩
 exact ⟨rfl, MvD.turn h1 h4 h5 g2 (Gr.refl _ _) g1.swap h2 h3⟩
theorem mvD_list (h : MvD w W tb xb yb s n k v1 v2 kb ex la lb) (hk : k ≤ 1000) (fr to : Bs) (hf : fr.length ≤ 30) (ht : to.length ≤ 30) :
  Calls Tryz.prog 38 #[.pointer (some ⟨xb, 0, none⟩), .string (S fr), .string (S to)] W fun r w' => ∃ p c, r = .returned (.tuple #[.slice p (insideO la fr to).length c, .int .i64 0]) ∧ MvD w w' tb xb yb s n k v1 v2 kb ((.slice p (insideO la fr to).length c, insideO la fr to) :: ex) la lb := by
 obtain ⟨O, N, L, h1, h2, h3, h4, h5⟩ := h
 refine (olist_any h1.i (by have := h1.i.len; omega) fr to hf ht).mono ?_
 rintro r w' ⟨v, rfl, g1, g2, g3⟩
 obtain ⟨p, c, rfl⟩ := own_slice2 g3
 refine ⟨p, c, rfl, O, N, L, h1.turn g2 (Gr.refl _ _) g1, h2, h3, fun z hz => ?_, fun z hz => by
  have h6 := h5 z hz
  exact ⟨h6.1.kp g2 (fun hm => h6.2 (by simp [hm])), h6.2⟩⟩
 rcases List.mem_cons.1 hz with rfl | hz
 ·refine ⟨Vw.of_own itC_len g3 rfl, fun b e => ⟨fun hm => ?_, (g3.lt b e).2⟩⟩
  have q1 := (g3.lt b e).1
  rcases List.mem_cons.1 hm with rfl | hm
  ·have := h1.t.lt; omega
  ·have q2 := h1.i.lts b (by simp [hm])
   omega
 ·exact ⟨(h4 z hz).1.kp4 g2 fun b e hm => ((h4 z hz).2 b e).1 (by simp [hm]), fun b e => ⟨((h4 z hz).2 b e).1, Nat.lt_of_lt_of_le ((h4 z hz).2 b e).2 g2.size⟩⟩
theorem mvD_listb (h : MvD w W tb xb yb s n k v1 v2 kb ex la lb) (hk : k ≤ 1000) (fr to : Bs) (hf : fr.length ≤ 30) (ht : to.length ≤ 30) :
  Calls Tryz.prog 38 #[.pointer (some ⟨yb, 0, none⟩), .string (S fr), .string (S to)] W fun r w' => ∃ p c, r = .returned (.tuple #[.slice p (insideO lb fr to).length c, .int .i64 0]) ∧ MvD w w' tb xb yb s n k v1 v2 kb ((.slice p (insideO lb fr to).length c, insideO lb fr to) :: ex) la lb := by
 obtain ⟨O, N, L, h1, h2, h3, h4, h5⟩ := h
 refine (olist_any h1.i.swap (by have := h1.i.swap.len; omega) fr to hf ht).mono ?_
 rintro r w' ⟨v, rfl, g1, g2, g3⟩
 obtain ⟨p, c, rfl⟩ := own_slice2 g3
 refine ⟨p, c, rfl, O, N, L, h1.turn g2 (Gr.refl _ _) g1.swap, h2, h3, fun z hz => ?_, fun z hz => by
  have h6 := h5 z hz
  exact ⟨h6.1.kp g2 (fun hm => h6.2 (by simp [hm])), h6.2⟩⟩
 rcases List.mem_cons.1 hz with rfl | hz
 ·refine ⟨Vw.of_own itC_len g3 rfl, fun b e => ⟨fun hm => ?_, (g3.lt b e).2⟩⟩
  have q1 := (g3.lt b e).1
  rcases List.mem_cons.1 hm with rfl | hm
  ·have := h1.t.lt; omega
  ·have q2 := h1.i.lts b (by simp [hm])
   omega
 ·exact ⟨(h4 z hz).1.kp4 g2 fun b e hm => ((h4 z hz).2 b e).1 (by simp [hm]), fun b e => ⟨((h4 z hz).2 b e).1, Nat.lt_of_lt_of_le ((h4 z hz).2 b e).2 g2.size⟩⟩
end
end
end Go.Proofs.YtnnghcooidjlhaaGreat
