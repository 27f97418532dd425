/- Parts of the proof: Jg Jh Ji. -/
import Derived.Deep.RegionLaw
import Derived.Laws.Append
import Derived.Test.YtnnghcooidjlhaaGreatD21
import Derived.Test.YtnnghcooidjlhaaGreatD22
set_option linter.all false
set_option maxRecDepth 100000
namespace Go.Proofs.YtnnghcooidjlhaaGreat
section
open Go.RowKit Go.Lib
theorem less_eq (f : Fm) : f.nd.l.eraseIdx f.L.length = f.less.l := by
 simp only [Fm.nd, Fm.less]
 rw [erase_eq, List.take_append_of_le_length (by simp), List.take_of_length_le (by simp), List.drop_append, List.drop_of_length_le (by simp)]
 simp
theorem nd_at (f : Fm) : f.L.length < f.nd.l.length := by simp [Fm.nd]
section
variable {w : World} {P : PL} {O : List Nat} {pgs : List (Option Bs)} {tb : Nat}
set_option maxHeartbeats 8000000 in
theorem shrink_any {B d q at_ : Nat} {n : Nd} {v vl : Value} {sts : List St} {E : List En} {ps : List PN} {up : List Fm} (htB : tb < B) (hlt : ∀ b ∈ O, b < B) (hBw : B ≤ w.heap.size) (ht : TrI w P tb) (hto : tb ∉ O) (hp : PoI w P O pgs)
  (hW : WayI w B v (sts ++ [⟨q, n, vl, at_⟩])) (hF : Fms sts up) (hK : KSt (pg pgs) d q n up E ps) (hul : up.length ≤ 100) :
  Calls Tryz.prog 189 #[.pointer (some ⟨tb, 0, none⟩), v] w fun e w' => ∃ pgs' D ps', e = .returned (.int .i64 0) ∧ PoI w' P O pgs' ∧ KDn (pg pgs) (d + up.length) ps (pg pgs') D E ps' ∧ Kb B O w w' := by
 obtain ⟨g, c, tp, tc, rfl, hvl, hcap, hg1, hg2, _, _⟩ := way_last hW
 have HT := hid ht
 have HX := hid (⟨htB, hlt, hBw, hto, hul, hg1⟩ : _ ∧ _ ∧ _ ∧ _ ∧ _ ∧ _)
 have HI0 : Hid (WayI w B (.slice (some ⟨g, 0, none⟩) (sts.length + 1) c) (sts ++ [⟨q, n, vl, at_⟩]) ∧ Fms sts up ∧ KSt (pg pgs) d q n up E ps ∧ Turn (pg pgs) (pgsOf ps) (pg pgs) (pgsOf ps) ∧ (∀ p : Pot, p.sum ps ≤ p.sum ps) ∧ PoI w P O pgs ∧ Kb B O w w ∧ TrI w P tb ∧ B ≤ w.heap.size) :=
  hid ⟨hW, hF, hK, Turn.refl _ _, fun _ => Nat.le_refl _, hp, Kb.of_kp (Kp.refl _ _) hBw, ht, hBw⟩
 clear htB hlt hBw ht hto hp hW hF hK hvl hcap hg1 hg2
 go_enter Tryz.func189, Tryz.ntmps189
 go_wp2
 go_loopg [1] up.length (fun gg s1 wr => ∃ (d1 q1 at1 : Nat) (n1 : Nd) (v1 : Value) (sts1 : List St) (up1 : List Fm) (pgs1 : List (Option Bs)) (ps1 : List PN), up1.length ≤ gg ∧ up1.length ≤ 100 ∧ d1 + up1.length ≤ d + up.length ∧ s1 = .slice (some ⟨g, 0, none⟩) (sts1.length + 1) c ∧
  Hid (WayI wr B (.slice (some ⟨g, 0, none⟩) (sts1.length + 1) c) (sts1 ++ [⟨q1, n1, v1, at1⟩]) ∧ Fms sts1 up1 ∧ KSt (pg pgs1) d1 q1 n1 up1 E ps1 ∧ Turn (pg pgs) (pgsOf ps) (pg pgs1) (pgsOf ps1) ∧ (∀ p : Pot, p.sum ps1 ≤ p.sum ps) ∧ PoI wr P O pgs1 ∧ Kb B O w wr ∧ TrI wr P tb ∧ B ≤ wr.heap.size))
 case atStart => exact ⟨d, q, at_, n, vl, sts, up, pgs, ps, Nat.le_refl _, hul, Nat.le_refl _, rfl, HI0⟩
 case round =>
  obtain ⟨d1, q1, at1, n1, v1, sts1, up1, pgs1, ps1, hgg, hul1, hdd, rfl, HI⟩ := hrel
  obtain ⟨hW, hF, hK, hT, hpot, hP, hKb, htr, hBr⟩ := HI.out
  obtain ⟨htB, hlt, hBw, hto, hul, hg1⟩ := HX.out
  obtain ⟨g', c', tp, tc, e, hvl, hc, hg2, hg3, cell, hEn⟩ := way_last hW
  injection e with e _ e2
  injection e with e
  injection e with e
  subst e e2
  simp only at hvl hEn
  subst hvl
  have l0 := cell 0 _ rfl
  have l1 := cell 1 _ rfl
  have l2 := cell 2 _ rfl
  have l3 := cell 3 _ rfl
  rw [Nat.add_zero] at l0
  simp only at l0 l1 l2 l3
  have hsl := hF.length
  have hsz : (sts1.length : Int) + 1 < 1000 := by omega
  have w9 : IntKind.i64.wrap ((sts1.length : Int) + 1 - 1) = (sts1.length : Int) := by rw [IntKind.wrap_i64]; omega
  have hll : (n1.l.length : Int) ≤ 40 := by have : n1.l.length ≤ 40 := hK.len; omega
  have c0 := htr.c0
  by_cases hgo : 0 < sts1.length ∧ n1.l = []
  ·-- the last node has nothing any more: it is dropped
   obtain ⟨hpos, hnil⟩ := hgo
   match up1, hF, hK, hgg, hul1, hdd, hsl with
   | [], hF, _, _, _, _, hsl => exact absurd hpos (by rw [hsl]; simp)
   | f :: up2, hF, hK, hgg, hul1, hdd, hsl =>
   obtain ⟨sts2, vf, hse, hF2⟩ := hF.inv
   obtain ⟨b1, hb1⟩ := hK.al
   obtain ⟨hq1, ps2, hK2, hT2, hpot2⟩ := hK.drop_ hnil
   have hnl : f.nd.l.length ≤ 40 := by
    obtain ⟨_, _, _, _, _, hC, _⟩ := hK.x
    exact leaf_len hC.2.1.nd.2.2
   have hnli : (f.nd.l.length : Int) ≤ 40 := by omega
   have HNL := hid hnl
   have hk : sts1.length = sts2.length + 1 := by rw [hse]; simp
   rw [hk] at l0 l1 l2 l3 w9 hsz hc
   have hWi := hW.init rfl
   rw [hk, hse] at hWi
   have HD := hid (fun W (hW : Below wr.heap.size wr W) => pi_drop (hP.below hW) (pg_some.1 hb1))
   have HS := hid (⟨c0, l0⟩ : wr.cell? ⟨tb, 0, none⟩ = some (.pointer (some ⟨P.p, 0, none⟩)) ∧ wr.cell? ⟨g, (sts2.length + 1) * 4, none⟩ = some (.int .i64 q1))
   have HS2 : Hid (∀ W W', Below wr.heap.size wr W → Kp O W W' → W'.cell? ⟨tb, 0, none⟩ = some (.pointer (some ⟨P.p, 0, none⟩)) ∧ W'.cell? ⟨g, (sts2.length + 1) * 4, none⟩ = some (.int .i64 q1)) := hid fun W W' hW hk =>
    ⟨(Blk.kp (htr.below hW (Blk.lt htr)) hk hto).cell 0, (hk.cell (p := ⟨g, _, none⟩) (by have := hW.size; show g < _; omega) (fun h => by have := hlt g h; omega)).trans ((hW.cell (p := ⟨g, _, none⟩) hg3).trans l0)⟩
   have HY := hid (⟨hse, hF2, hK2, hT.trans hT2, (fun p => Nat.le_trans (hpot2 p) (hpot p) : ∀ p : Pot, p.sum ps2 ≤ p.sum ps), hKb, htr, hBr, hg3, hWi, hb1⟩ : _ ∧ _ ∧ _ ∧ _ ∧ _ ∧ _ ∧ _ ∧ _ ∧ _ ∧ _ ∧ _)
   have HG := hid (⟨hgg, hul1, hdd⟩ : _ ∧ _ ∧ _)
   have hlz : n1.l.length = 0 := by rw [hnil]; rfl
   rw [hlz] at l2
   rw [hk]
   have hposi : (0 : Int) < (sts2.length : Int) + 1 := by omega
   have w91 : IntKind.i64.wrap ((sts2.length : Int) + 1 + 1 - 1) = (sts2.length : Int) + 1 := by rw [IntKind.wrap_i64]; omega
   have w95 : IntKind.i64.wrap ((sts2.length : Int) + 1) = (sts2.length : Int) + 1 := by rw [IntKind.wrap_i64]; omega
   have w92 : (0 : Int) ≤ (sts2.length : Int) + 1 := by omega
   have w93 : (sts2.length : Int) + 1 < (sts2.length : Int) + 1 + 1 := by omega
   have w94 : ((sts2.length : Int) + 1).toNat = sts2.length + 1 := by omega
   have hcapi : (sts2.length : Int) + 1 + 1 ≤ (c : Int) := by omega
   have hcapn : sts2.length + 1 ≤ c := by omega
   clear hF hK hgg hsl hul1 hdd hW hT hpot hP hKb htr hBr htB hlt hBw hto hul hg1 hc hg2 hg3 cell hEn hpos hnil hF2 hb1 hq1 hK2 hT2 hpot2 hk hWi hlz hse hll
   go_wp2
   go_region_held3 (fun W => W.cell? ⟨tb, 0, none⟩ = some (.pointer (some ⟨P.p, 0, none⟩)) ∧ W.cell? ⟨g, (sts2.length + 1) * 4, none⟩ = some (.int .i64 q1)) (first | exact HS.out | exact HS3)
    (first
     | (go_at_call 221; refine (HD.out _ (Below.refl _ _).drew).mono ?_; rintro e w1 ⟨rfl, hk1, hp1⟩; have HS3 := HS2.out _ _ (Below.refl _ _).drew hk1; have hb1 := (Below.refl wr.heap.size wr).drew)
     | (go_at_call 221; refine (HD.out _ (Below.refl _ _)).mono ?_; rintro e w1 ⟨rfl, hk1, hp1⟩; have HS3 := HS2.out _ _ (Below.refl _ _) hk1; have hb1 := Below.refl wr.heap.size wr))
   all_goals
    obtain ⟨hse, hF2, hK2, hT2, hpot2, hKb, htr, hBr, hg3, hWi, hb1q⟩ := HY.out
    obtain ⟨htB, hlt, hBw, hto, hul, hg1⟩ := HX.out
    have hkb1 : Kb B O w w1 := hKb.trans_gr (Gr.refl O w.heap.size) hBw (Kb.of_kp ((Kp.of_below hb1).trans hk1) hBr)
    have hWi1 : WayI w1 B (.slice (some ⟨g, 0, none⟩) (sts2.length + 1) c) (sts2 ++ [⟨f.page, f.nd, vf, f.L.length⟩]) := (hWi.of_blocks (fun b _ h => hb1.block b h)).kp hk1 hlt
    have htr1 : TrI w1 P tb := Blk.kp (htr.below hb1 (Blk.lt htr)) hk1 hto
    obtain ⟨g', c', fp, fc, e1, hvf, _, _, hg4, cell4, _⟩ := way_last hWi1
    injection e1 with e1 _ e2
    injection e1 with e1
    injection e1 with e1
    subst e1 e2
    simp only at hvf
    subst hvf
    have A1 : w1.cell? ⟨g, sts2.length * 4 + 1 + 1, none⟩ = some (.slice fp f.nd.l.length fc) := cell4 2 _ rfl
    have A2 : w1.cell? ⟨g, sts2.length * 4 + 1 + 2, none⟩ = some (.int .i64 f.L.length) := cell4 3 _ rfl
    have A2' : w1.cell? ⟨g, sts2.length * 4 + 2, none⟩ = some (.slice fp f.nd.l.length fc) := cell4 2 _ rfl
    have A3 : w1.cell? ⟨g, sts2.length * 4 + 3, none⟩ = some (.int .i64 f.L.length) := cell4 3 _ rfl
    have hrowf : w1.ownsRow B 299 3 (.slice fp f.nd.l.length fc) f.nd.l.length (rowV enC f.nd.l) := hWi1.row ⟨f.page, f.nd, .slice fp f.nd.l.length fc, f.L.length⟩ (by simp)
    obtain ⟨gx, cx, e3, hgx1, hgx2, _⟩ := own_form hrowf (Nat.lt_of_le_of_lt (Nat.zero_le _) (nd_at f))
    injection e3 with e3 _ e4
    subst e3 e4
    have hnl := HNL.out
    have hnd := nd_at f
    have HDL : Hid (∀ W, Below w1.heap.size w1 W → Calls Tryz.prog 168 #[.slice (some ⟨gx, 0, none⟩) f.nd.l.length fc, .int .i64 f.L.length, .int .i64 ((f.L.length : Int) + 1)] W fun e w' => e = .returned (.slice (some ⟨gx, 0, none⟩) (f.nd.l.length - 1) fc) ∧
      w'.ownsRow B 299 3 (.slice (some ⟨gx, 0, none⟩) (f.nd.l.length - 1) fc) (f.nd.l.length - 1) (rowV enC f.less.l) ∧ Kp [gx] W w') := hid fun W hW => by
     have := delete_any (w := W) (i := f.L.length) (row_of hrowf (fun b hb => hW.block b (hrowf.lt b hb).2)) hnd (by omega)
     rw [less_eq] at this
     exact this
    have hgxg : gx ≠ g := fun e => own_apart hrowf hWi1.own (by decide) gx rfl (by rw [e]; rfl)
    have hstay : ∀ {W W' : World} {i : Nat} {u : Value}, Below w1.heap.size w1 W → Kp [gx] W W' → w1.cell? ⟨g, i, none⟩ = some u → W'.cell? ⟨g, i, none⟩ = some u := fun {W W' i u} hW hkk h => by
     have hWs := hW.size
     rw [hkk.cell (p := ⟨g, i, none⟩) (by show g < _; omega) (by simpa using fun e => hgxg e.symm)]
     exact (hW.cell (p := ⟨g, i, none⟩) hg4).trans h
    have HS4 : Hid (∀ W, Below w1.heap.size w1 W → W.cell? ⟨g, sts2.length * 4 + 2, none⟩ = some (.int .i64 f.L.length) ∨ W.cell? ⟨g, sts2.length * 4 + 3, none⟩ = some (.int .i64 f.L.length)) := hid fun W hW => .inr ((hW.cell (p := ⟨g, _, none⟩) hg4).trans A3)
    have HS5 : Hid (∀ W W', Below w1.heap.size w1 W → Kp [gx] W W' → W'.cell? ⟨g, sts2.length * 4 + 3, none⟩ = some (.int .i64 f.L.length)) := hid fun W W' hW hkk => hstay hW hkk A3
    have HA1 : Hid (∀ W W', Below w1.heap.size w1 W → Kp [gx] W W' → W'.cell? ⟨g, sts2.length * 4 + 1 + 1, none⟩ = some (.slice (some ⟨gx, 0, none⟩) f.nd.l.length fc)) := hid fun W W' hW hkk => hstay hW hkk A1
    have HFR : Hid (∀ W W', Below w1.heap.size w1 W → Kp [gx] W W' → W'.frozen? ⟨g, sts2.length * 4 + 1 + 1, none⟩ = false) := hid fun W W' hW hkk => by
     have hWs := hW.size
     rw [hkk.frozen (p := ⟨g, _, none⟩) (by show g < _; omega) (by simpa using fun e => hgxg e.symm)]
     exact (World.frozen?_of_block (hW.block g hg4)).trans (own_frozen hWi1.own _)
    have HS6 : Hid (∀ (W : World) u, W.cell? ⟨g, sts2.length * 4 + 3, none⟩ = some (.int .i64 f.L.length) → (W.setCell ⟨g, sts2.length * 4 + 1 + 1, none⟩ u).cell? ⟨g, sts2.length * 4 + 3, none⟩ = some (.int .i64 f.L.length)) := hid fun W u hs =>
     (World.cell?_setCell_other W (a := ⟨g, sts2.length * 4 + 1 + 1, none⟩) (b := ⟨g, sts2.length * 4 + 3, none⟩) u (by intro e; injection e with _ e _; omega)).trans hs
    have HZ := hid (⟨hkb1, hWi1, htr1, hrowf, hgx1, hgx2, hgxg, hg4, hp1, hk1, hb1⟩ : _ ∧ _ ∧ _ ∧ _ ∧ _ ∧ _ ∧ _ ∧ _ ∧ _ ∧ _ ∧ _)
    have w96 : IntKind.i64.wrap (sts2.length : Int) = (sts2.length : Int) := by rw [IntKind.wrap_i64]; omega
    have hLi : (f.L.length : Int) + 1 ≤ 100 := by omega
    have w97 : IntKind.i64.wrap ((f.L.length : Int) + 1) = (f.L.length : Int) + 1 := by rw [IntKind.wrap_i64]; omega
    clear hse hF2 hK2 hT2 hpot2 hKb htr hBr hg3 hWi hb1q htB hlt hBw hto hul hg1 hkb1 hWi1 htr1 hrowf hgx1 hgx2 hgxg hk1 hp1 hb1 hnd hnl hstay cell4 A2 A2' HS3 l0 l1 l2 l3 c0
    go_wp2
    go_region_law (first
      | (go_simp; refine (HDL.out _ (Below.refl _ _).drew).mono ?_; rintro e w2 ⟨rfl, ho2, hk2⟩; have HS5' := HS5.out _ _ (Below.refl _ _).drew hk2; have hfr := HFR.out _ _ (Below.refl _ _).drew hk2; have q1' := HA1.out _ _ (Below.refl _ _).drew hk2; have hb2 := (Below.refl w1.heap.size w1).drew; have HS6' := HS6.out w2 (.slice (some ⟨gx, 0, none⟩) (f.nd.l.length - 1) fc) HS5'; dsimp only)
      | (go_simp; refine (HDL.out _ (Below.refl _ _)).mono ?_; rintro e w2 ⟨rfl, ho2, hk2⟩; have HS5' := HS5.out _ _ (Below.refl _ _) hk2; have hfr := HFR.out _ _ (Below.refl _ _) hk2; have q1' := HA1.out _ _ (Below.refl _ _) hk2; have hb2 := (Below.refl w1.heap.size w1); have HS6' := HS6.out w2 (.slice (some ⟨gx, 0, none⟩) (f.nd.l.length - 1) fc) HS5'; dsimp only))
    all_goals
     obtain ⟨hse, hF2, hK2, hT2, hpot2, hKb, htr, hBr, hg3, hWi, hb1q⟩ := HY.out
     obtain ⟨htB, hlt, hBw, hto, hul, hg1⟩ := HX.out
     obtain ⟨hkb1, hWi1, htr1, hrowf, hgx1, hgx2, hgxg, hg4, hp1, hk1, hb1⟩ := HZ.out
     obtain ⟨hgg, hul1, hdd⟩ := HG.out
     rw [List.length_cons] at hgg hul1 hdd
     have hlen : f.less.l.length = f.nd.l.length - 1 := by rw [← less_eq, List.length_eraseIdx_of_lt (nd_at f)]
     have hW2 := (hWi1.of_blocks (fun b _ h => hb2.block b h)).setv (w' := w2) (n2 := f.less) (v2 := .slice (some ⟨gx, 0, none⟩) (f.nd.l.length - 1) fc) rfl (by rw [hlen]; exact ho2)
      (fun b _ hlt hne => hk2.block b hlt (fun hm => hne (by rw [List.mem_singleton.1 hm]; rfl))) (fun t ht b hb e => (List.pairwise_append.1 hWi1.nd).2.2 t ht _ (List.mem_singleton_self _) b hb e) (fun e => hgxg (by injection e))
     have h2s := hb2.size
     have hblk : ∀ b, b < B → (w2.setCell ⟨g, sts2.length * 4 + 1 + 1, none⟩ (.slice (some ⟨gx, 0, none⟩) (f.nd.l.length - 1) fc)).heap[b]? = w1.heap[b]? := fun b hb => by
      rw [Below.heap_setCell _ ⟨g, _, none⟩ _ b (by show b ≠ g; omega)]
      exact (hk2.block b (by omega) (by simp; omega)).trans (hb2.block b (by omega))
     have hk2s := hk2.size
     have hsz8 : (w2.setCell ⟨g, sts2.length * 4 + 1 + 1, none⟩ (.slice (some ⟨gx, 0, none⟩) (f.nd.l.length - 1) fc)).heap.size = w2.heap.size := by simp [World.setCell]
     have hkb3 : Kb B O w (w2.setCell ⟨g, sts2.length * 4 + 1 + 1, none⟩ (.slice (some ⟨gx, 0, none⟩) (f.nd.l.length - 1) fc)) :=
      ⟨(hk2.os.trans hb2.os).trans hkb1.os, (hk2.tape.trans hb2.tape).trans hkb1.tape, (hk2.output.trans hb2.output).trans hkb1.output, by rw [hsz8]; have := hkb1.size; omega, fun b hb ho => (hblk b hb).trans (hkb1.block b hb ho)⟩
     have HI3 : Hid (WayI (w2.setCell ⟨g, sts2.length * 4 + 1 + 1, none⟩ (.slice (some ⟨gx, 0, none⟩) (f.nd.l.length - 1) fc)) B (.slice (some ⟨g, 0, none⟩) (sts2.length + 1) c) (sts2 ++ [⟨f.page, f.less, .slice (some ⟨gx, 0, none⟩) (f.nd.l.length - 1) fc, f.L.length⟩]) ∧ Fms sts2 up2 ∧ KSt (pg (pgs1.set q1 none)) (d1 + 1) f.page f.less up2 E ps2 ∧ Turn (pg pgs) (pgsOf ps) (pg (pgs1.set q1 none)) (pgsOf ps2) ∧ (∀ p : Pot, p.sum ps2 ≤ p.sum ps) ∧ PoI (w2.setCell ⟨g, sts2.length * 4 + 1 + 1, none⟩ (.slice (some ⟨gx, 0, none⟩) (f.nd.l.length - 1) fc)) P O (pgs1.set q1 none) ∧ Kb B O w (w2.setCell ⟨g, sts2.length * 4 + 1 + 1, none⟩ (.slice (some ⟨gx, 0, none⟩) (f.nd.l.length - 1) fc)) ∧ TrI (w2.setCell ⟨g, sts2.length * 4 + 1 + 1, none⟩ (.slice (some ⟨gx, 0, none⟩) (f.nd.l.length - 1) fc)) P tb ∧ B ≤ (w2.setCell ⟨g, sts2.length * 4 + 1 + 1, none⟩ (.slice (some ⟨gx, 0, none⟩) (f.nd.l.length - 1) fc)).heap.size) :=
      hid ⟨hW2, hF2, by rw [pg_set (pg_lt hb1q)]; exact hK2, by rw [pg_set (pg_lt hb1q)]; exact hT2, hpot2, hp1.of_blocks (fun b hb => hblk b (hlt b hb)), hkb3, (hblk tb htB).trans htr1, by rw [hsz8]; have := hkb1.size; omega⟩
     have hul2 : up2.length ≤ 100 := by omega
     have hdd2 : d1 + 1 + up2.length ≤ d + up.length := by omega
     clear hse hF2 hK2 hT2 hpot2 hKb htr hBr hg3 hWi hb1q htB hlt hBw hto hul hg1 hkb1 hWi1 htr1 hrowf hgx1 hgx2 hgxg hg4 hp1 hk1 hb1 hlen hW2 h2s hblk hk2s hsz8 hkb3 ho2 hk2 HS5' HS6' hfr q1' hb2 hul1 hdd
     go_wp2
     go_roundg up2.length
     case measure => omega
     case rel => exact ⟨d1 + 1, f.page, f.L.length, f.less, _, sts2, up2, _, ps2, Nat.le_refl _, hul2, hdd2, rfl, HI3⟩
  ·-- the last node is written
   have hvo : ∀ b, (Value.slice tp n1.l.length tc).ownBlock = some b → b ∉ O := fun b hb h => by
    have h1 := ((hW.row ⟨q1, n1, .slice tp n1.l.length tc, at1⟩ (by simp)).lt b hb).1
    have := hlt b h
    omega
   obtain ⟨b00, hb00⟩ := hK.al
   have hbA : Below wr.heap.size wr (wr.alloc (.cells #[.int .i64 q1, .bool n1.leaf, .slice tp n1.l.length tc, .int .i64 at1] 294)) := (Below.refl _ wr).alloc (Nat.le_refl _) _
   have htA : TrI _ P tb := Blk.below htr hbA (Blk.lt htr)
   have hcond : (0 < sts1.length ∧ n1.l ≠ []) ∨ (sts1.length = 0 ∧ n1.leaf = true) ∨ (sts1.length = 0 ∧ n1.leaf = false) := by
    rcases Nat.eq_zero_or_pos sts1.length with h | h
    ·cases n1.leaf
     ·exact .inr (.inr ⟨h, rfl⟩)
     ·exact .inr (.inl ⟨h, rfl⟩)
    ·exact .inl ⟨h, fun e => hgo ⟨h, e⟩⟩
   rcases hcond with ⟨hpos, hne⟩ | ⟨h0, hlf⟩ | ⟨h0, hlf⟩
   ·obtain ⟨hmy, hnb, ps2, hK2⟩ := hK.write (.inl hne)
    have hfin := hK2.after hT hpot hdd
    have hWF := write_fits (n := n1) htA (hP.below hbA) (pg_some.1 hb00) hmy (hEn.below hbA) (by omega) hnb
    unfold ndV at hWF
    have HWF := hid hWF
    have HF := hid (⟨hfin, hKb.trans_gr (Gr.refl O w.heap.size) hBw (Kb.of_kp (Kp.of_below hbA) hBr), pg_set (v := some (pgOf (strip n1))) (pg_lt hb00), hbA.size, hBr, hBw⟩ : _ ∧ _ ∧ _ ∧ _ ∧ _ ∧ _)
    have hposi : (0 : Int) < (sts1.length : Int) := by omega
    have hl0 : ¬ n1.l.length = 0 := fun e => hne (List.eq_nil_of_length_eq_zero e)
    clear hW hF hK hT hpot hP hKb htr hBr htB hlt hBw hto hul hg1 hc hg2 hg3 cell hEn hsl c0 hgo hvo hb00 hbA htA hne hmy hnb hK2 hfin hWF hpos
    go_wp2_with fail
    (with_reducible refine HWF.out.mono ?_)
    rintro e W5 ⟨rfl, hk5, hp5⟩
    have H5 := hid (⟨hk5, hp5⟩ : _ ∧ _)
    clear hk5 hp5
    go_wp2
    go_ret
    obtain ⟨hk5, hp5⟩ := H5.out
    obtain ⟨h1, h2, h3, h4, h5, h6⟩ := HF.out
    exact ⟨_, _, ps2, rfl, hp5, by rw [h3]; exact h1, h2.trans_gr (Gr.refl O w.heap.size) h6 (Kb.of_kp hk5 (Nat.le_trans h5 h4))⟩
   ·have hd0 : d1 = 0 := by have := hK.leafd; rw [hlf] at this; simpa using this.symm
    have hu0 : up1 = [] := List.eq_nil_of_length_eq_zero (by omega)
    obtain ⟨hmy, hnb, ps2, hK2⟩ := hK.write (.inr ⟨hu0, hd0⟩)
    have hfin := hK2.after hT hpot hdd
    have hWF := write_fits (n := n1) htA (hP.below hbA) (pg_some.1 hb00) hmy (hEn.below hbA) (by omega) hnb
    unfold ndV at hWF
    have hbA' := hbA
    rw [hlf] at hbA'
    have HF := hid (⟨hfin, hKb.trans_gr (Gr.refl O w.heap.size) hBw (Kb.of_kp (Kp.of_below hbA') hBr), pg_set (v := some (pgOf (strip n1))) (pg_lt hb00), hbA'.size, hBr, hBw⟩ : _ ∧ _ ∧ _ ∧ _ ∧ _ ∧ _)
    rw [hlf] at hWF l1
    rw [h0] at l0 l1 l2 l3 ⊢
    rw [h0] at w9
    have HWF := hid hWF
    clear hW hF hK hT hpot hP hKb htr hBr htB hlt hBw hto hul hg1 hc hg2 hg3 cell hEn hsl c0 hgo hvo hb00 hbA htA hmy hnb hK2 hfin hWF hd0 hu0 hsz hbA'
    go_wp2_with fail
    (with_reducible refine HWF.out.mono ?_)
    rintro e W5 ⟨rfl, hk5, hp5⟩
    have H5 := hid (⟨hk5, hp5⟩ : _ ∧ _)
    clear hk5 hp5
    go_wp2
    go_ret
    obtain ⟨hk5, hp5⟩ := H5.out
    obtain ⟨h1, h2, h3, h4, h5, h6⟩ := HF.out
    exact ⟨_, _, ps2, rfl, hp5, by rw [h3]; exact h1, h2.trans_gr (Gr.refl O w.heap.size) h6 (Kb.of_kp hk5 (Nat.le_trans h5 h4))⟩
   ·have hu0 : up1 = [] := List.eq_nil_of_length_eq_zero (by omega)
    subst hu0
    have hK0 := hK
    rw [hK.root0] at hK0
    have hLW := lower_any htA hto (hP.below hbA) hK0 (hEn.below hbA) hvo
    unfold ndV at hLW
    have hbA' := hbA
    rw [hlf] at hbA'
    have HF := hid (⟨hT, hpot, hKb.trans_gr (Gr.refl O w.heap.size) hBw (Kb.of_kp (Kp.of_below hbA') hBr), hbA'.size, hBr, hBw, hdd⟩ : _ ∧ _ ∧ _ ∧ _ ∧ _ ∧ _ ∧ _)
    rw [hlf] at hLW l1
    rw [h0] at l0 l1 l2 l3 ⊢
    rw [h0] at w9
    have HLW := hid hLW
    clear hW hF hK hT hpot hP hKb htr hBr htB hlt hBw hto hul hg1 hc hg2 hg3 cell hEn hsl c0 hgo hvo hb00 hbA htA hLW hsz hbA' hK0
    go_wp2_with fail
    (with_reducible refine HLW.out.mono ?_)
    rintro e W5 ⟨pgs', D, ps', rfl, hp5, hd5, hk5⟩
    have H5 := hid (⟨hp5, hd5, hk5⟩ : _ ∧ _ ∧ _)
    clear hk5 hp5 hd5
    go_wp2
    go_ret
    obtain ⟨hp5, hd5, hk5⟩ := H5.out
    obtain ⟨h1, h2, h3, h4, h5, h6, h7⟩ := HF.out
    exact ⟨pgs', D, ps', rfl, hp5, hd5.after h1 h2 (by simpa using h7), h3.trans_gr (Gr.refl O w.heap.size) h6 (Kb.of_kp hk5 (Nat.le_trans h5 h4))⟩
end
end
section
open Go.RowKit Go.Lib
def delR : Option Bs → Value
 | some _ => .int .i64 0
 | none => .int .i64 9
section
variable {w : World} {P : PL} {O : List Nat} {tb N : Nat} {M : List KV}
set_option maxHeartbeats 8000000 in
theorem tdel_any (h : TreeI w P O tb N M) (k : Bs) :
  Calls Tryz.prog 153 #[.pointer (some ⟨tb, 0, none⟩), .string (S k)] w fun e w' => e = .returned (delR (getM M k)) ∧ TreeI w' P O tb N (delM M k) ∧ Kp O w w' := by
 obtain ⟨pgs, D, E, ps, hp, ht, hto, hm, hN, rfl⟩ := h
 have hD := hm.deep (by omega)
 have HW := hid (way_any ht hto hp hm.rep (by omega) k)
 have HX := hid (⟨hm, ht, hto, hN, hp.lts, Blk.lt ht, hD⟩ : _ ∧ _ ∧ _ ∧ _ ∧ _ ∧ _ ∧ _)
 clear hp ht hto hm hN hD
 go_enter Tryz.func153, Tryz.ntmps153
 go_wp2_with fail
 (with_reducible refine HW.out.mono ?_)
 rintro e W1 ⟨v0, sts, up, q, es, vl, pre, post, psl, psc, rfl, hk1, hp1, hway, hfms, hul, hctx, hrep, hE, hperm, hin, hin2, hne⟩
 obtain ⟨hm, ht, hto, hN, hlt, htb, hD⟩ := HX.out
 obtain ⟨g, c, tp, tc, rfl, _, hcap, _, _, _, _⟩ := way_last hway
 have hH := hm.hole hul hctx hrep hE hperm hin2
 have hL : LSt w P O tb W1 g c sts up q es vl pgs := ⟨hp1, Blk.kp ht hk1 hto, hway, hfms, hk1⟩
 obtain ⟨tp, tc, rfl, hg1, hg2, l1, l2, hEn, hrow, _⟩ := hL.cells
 obtain ⟨hnd, rfl⟩ := hrep
 have hlen : es.length ≤ 40 := leaf_len hnd.2.2
 have hsl := hfms.length
 have hsz : (sts.length : Int) + 1 < 1000 := by omega
 have w9 : IntKind.i64.wrap ((sts.length : Int) + 1 - 1) = (sts.length : Int) := by rw [IntKind.wrap_i64]; omega
 have HFI := hid (find_any (leaf := true) (l := es) hnd.2.1.2 hEn (by omega) k)
 unfold ndV at HFI
 have HL := hid hL
 have hsid := hctx.sides hin
 have HY := hid (⟨hul, hE, hsid, hnd, hin, hlen, hsl, hcap, hH⟩ : _ ∧ _ ∧ _ ∧ _ ∧ _ ∧ _ ∧ _ ∧ _ ∧ _)
 clear hm ht hto hN hlt htb hD hk1 hp1 hway hfms hul hctx hE hperm hin hin2 hne hL hEn hrow hnd hlen hsl hsid hH hcap
 go_wp2_with fail
 (with_reducible refine HFI.out.mono ?_)
 rintro e W2 ⟨rfl, hb2⟩
 have hL2 := HL.out.below hb2
 obtain ⟨hul, hE, hsid, hnd, hin, hlen, hsl, hcap, hH⟩ := HY.out
 obtain ⟨hm, ht, hto, hN, hlt, htb, hD⟩ := HX.out
 obtain ⟨tp', tc', ev, _, hg2', l1', l2', hEn', hrow', hfz'⟩ := hL2.cells
 injection ev with ev1 _ ev2
 subst ev1 ev2
 clear l1 l2
 have hc1 := cnt_le k es
 have hlen40 : (es.length : Int) ≤ 40 := by omega
 by_cases hk : hasK k es
 ·have hb := (hasB_iff k es).2 hk
  rw [hb]
  obtain ⟨x, hx, hxk⟩ := hk
  have hgs := (get_kvs (m := pg pgs) hE hsid.1 hsid.2 hnd.2.1.2).1 x hx hxk
  have HGS := hid hgs
  have hlte := (List.getElem?_eq_some_iff.1 hx).1
  obtain ⟨gx, cx, e1, e2, e3, e4⟩ := own_form hrow' (by omega)
  injection e1 with e1 _ e5
  subst e1 e5
  have m0 : W2.cell? ⟨gx, cnt k es * 3, none⟩ = some (.string (S x.key)) := own_at hrow' rfl (j := cnt k es * 3 + 0) (by rw [rowV_get enC_len es (cnt k es) x hx 0 (by omega)]; rfl)
  have m1 : W2.cell? ⟨gx, cnt k es * 3 + 1, none⟩ = some (.string (S x.val)) := own_at hrow' rfl (j := cnt k es * 3 + 1) (by rw [rowV_get enC_len es (cnt k es) x hx 1 (by omega)]; rfl)
  have m2 : W2.cell? ⟨gx, cnt k es * 3 + 2, none⟩ = some (.int .i64 x.far) := own_at hrow' rfl (j := cnt k es * 3 + 2) (by rw [rowV_get enC_len es (cnt k es) x hx 2 (by omega)]; rfl)
  have hxE : x ∈ E := by rw [hE]; simp [List.mem_of_getElem? hx]
  have HAW := hid (away_any hL2.ht hto hL2.hp (hm.ch x hxE))
  unfold enV at HAW
  obtain ⟨hH3, hF3⟩ := hH.away (split_at hx)
  have hlti : ((cnt k es : Nat) : Int) < (es.length : Int) := by omega
  have l2'' : W2.cell? ⟨g, sts.length * 4 + 1 + 1, none⟩ = some (.slice (some ⟨gx, 0, none⟩) es.length tc) := l2'
  have HL2 := hid hL2
  have HE := hid (⟨hH3, hF3, e2, e3, e4, hlte, hrow'⟩ : _ ∧ _ ∧ _ ∧ _ ∧ _ ∧ _ ∧ _)
  have HK := hid (⟨hx, hxk⟩ : _ ∧ _)
  clear hm ht hto hN hlt htb hD hul hE hsid hnd hin hlen hsl hcap hH hL2 hb2 hEn' hrow' hb hx hxk e2 e3 e4 hgs hxE hH3 hF3 hlte hc1
  go_wp2_with fail
  (with_reducible refine HAW.out.mono ?_)
  rintro e W3 ⟨pgs3, rfl, hpg3, hsm3, hk3, hp3⟩
  obtain ⟨hm, ht, hto, hN, hlt, htb, hD⟩ := HX.out
  obtain ⟨hH3, hF3, e2, e3, e4, hlte, hrow'⟩ := HE.out
  obtain ⟨hul, hE, hsid, hnd, hin, hlen, hsl, hcap, hH⟩ := HY.out
  have hL3 := HL2.out.pool hlt hto hk3 hp3
  obtain ⟨_, _, _, _, hg3, _, l23, _, hrow3, hfz3⟩ := hL3.cells
  have HDL := hid (delete_any (i := cnt k es) hrow3 hlte (by omega))
  have l23' : W3.cell? ⟨g, sts.length * 4 + 1 + 1, none⟩ = some (.slice (some ⟨gx, 0, none⟩) es.length tc) := l23
  have hgx : gx ≠ g := fun e => own_apart hrow3 hL3.way.own (by decide) gx rfl (by rw [e]; rfl)
  have HGX := hid (⟨hgx, hg3, l23, hfz3, hk3, hsm3, hpg3⟩ : _ ∧ _ ∧ _ ∧ _ ∧ _ ∧ _ ∧ _)
  have HL3 := hid hL3
  clear hm ht hto hN hlt htb hD hH3 hF3 e2 e3 e4 hlte hrow' hul hE hsid hnd hin hlen hsl hcap hH hL3 hrow3 hfz3 hgx hpg3 hk3 hp3 m0 m1 m2 l1' l2' l2'' hsm3 l23 hg3 hfz'
  go_wp2_with fail
  (with_reducible refine HDL.out.mono ?_)
  rintro e W4 ⟨rfl, hO4, hk4⟩
  obtain ⟨hm, ht, hto, hN, hlt, htb, hD⟩ := HX.out
  obtain ⟨hgx, hg3, l23, hfz3, hk3, hsm3, hpg3⟩ := HGX.out
  obtain ⟨hH3, hF3, e2, e3, e4, hlte, hrow'⟩ := HE.out
  have hng : g ∉ [gx] := by simpa using fun e => hgx e.symm
  have l24 : W4.cell? ⟨g, sts.length * 4 + 1 + 1, none⟩ = some (.slice (some ⟨gx, 0, none⟩) es.length tc) := (hk4.cell (p := ⟨g, _, none⟩) hg3 hng).trans l23
  have f24 : W4.frozen? ⟨g, sts.length * 4 + 1 + 1, none⟩ = false := (hk4.frozen (p := ⟨g, sts.length * 4 + 1 + 1, none⟩) hg3 hng).trans hfz3
  have hLJ := HL3.out.setv (W' := W4) (es2 := es.eraseIdx (cnt k es)) (v2 := .slice (some ⟨gx, 0, none⟩) (es.length - 1) tc) hlt htb (by rw [List.length_eraseIdx_of_lt hlte]; exact hO4) hk4 (fun b hb => .inl hb)
  have HLJ := hid hLJ
  clear hm ht hto hN hlt htb hD hH3 hF3 e2 e3 e4 hlte hrow' hgx hg3 l23 hfz3 hk3 hsm3 hpg3 hng hLJ hk4 hO4 l23'
  go_wp2_with fail
  obtain ⟨WJ, hWJ⟩ : ∃ WJ, WJ = W4.setCell ⟨g, sts.length * 4 + 1 + 1, none⟩ (.slice (some ⟨gx, 0, none⟩) (es.length - 1) tc) := ⟨_, rfl⟩
  obtain ⟨esJ, vJ, pgsJ, HJ⟩ : ∃ esJ vJ pgsJ, Hid (LSt w P O tb WJ g c sts up q esJ vJ pgsJ ∧ HoI (pg pgsJ) q up pre esJ post psc N ∧ esJ = es.take (cnt k es) ++ es.drop (cntE k es (hasB k es)) ∧ (∀ r ∈ fars (pre ++ esJ ++ post), pg pgsJ r = pg pgs r) ∧ somes pgsJ ≤ somes pgs) := by
   obtain ⟨hgx, hg3, l23, hfz3, hk3, hsm3, hpg3⟩ := HGX.out
   obtain ⟨hH3, hF3, e2, e3, e4, hlte, hrow'⟩ := HE.out
   refine ⟨_, _, pgs3, hid ⟨by rw [hWJ]; exact HLJ.out, ?_, ?_, ?_, hsm3⟩⟩
   ·rw [hpg3, erase_eq]
    exact hH3
   ·rw [erase_eq]
    unfold cntE
    rw [if_pos ((hasB_iff k es).2 ⟨x, HK.out⟩)]
   ·rw [hpg3, erase_eq]
    exact hF3
  rw [← hWJ]
  clear hWJ HLJ HGX HE HL3 HDL HAW HL2 l24 f24
  obtain ⟨hLJ, hHJ, hesJ, hFJ, hsmJ⟩ := HJ.out
  obtain ⟨hm, ht, hto, hN, hlt, htb, hD⟩ := HX.out
  obtain ⟨hul, hE, hsid, hnd, hin, hlen, hsl, hcap, hH⟩ := HY.out
  have hnB : nB esJ ≤ 223 := by
   have h2 := hnd.2.2
   have h3 : nB (es.take (cnt k es)) + nB (es.drop (cntE k es (hasB k es))) ≤ nB es := by
    have := nB_take_drop es (cnt k es)
    have h4 : nB (es.drop (cntE k es (hasB k es))) ≤ nB (es.drop (cnt k es)) := by
     unfold cntE
     split
     ·have := nB_take_drop (es.drop (cnt k es)) 1
      rw [List.drop_drop] at this
      omega
     ·exact Nat.le_refl _
    omega
   rw [hesJ, nB_append]
   simp only at h2
   omega
  have hkst := hHJ.kst hnB
  have hSH := shrink_any htb hlt hLJ.kp.size hLJ.ht hto hLJ.hp hLJ.way hLJ.fms hkst (by omega)
  rw [Nat.zero_add] at hSH
  have HSH := hid hSH
  clear hLJ hHJ hesJ hFJ hsmJ hm ht hto hN hlt htb hD hul hE hsid hnd hin hlen hsl hcap hH hnB hkst hSH
  (with_reducible refine HSH.out.mono ?_)
  rintro e W9 ⟨pgs', D', ps', rfl, hp9, hd9, hk9⟩
  have fin : TreeI W9 P O tb N (delM (kvs (pg pgs) E) k) ∧ Kp O w W9 := by
   obtain ⟨hLJ, hHJ, hesJ, hFJ, hsmJ⟩ := HJ.out
   obtain ⟨hm, ht, hto, hN, hlt, htb, hD⟩ := HX.out
   obtain ⟨hul, hE, hsid, hnd, hin, hlen, hsl, hcap, hH⟩ := HY.out
   obtain ⟨hM9, hF9⟩ := hHJ.doneK hd9
   have hkv := kvs_del (m := pg pgs) (m' := pg pgs') hE hsid.1 hsid.2 hm.rep.asc hnd.2.1.2 (hasB_iff k es) (fun r hr => (hF9 r (by rw [hesJ]; exact hr)).trans (hFJ r (by rw [hesJ]; exact hr)))
   rw [← hesJ] at hkv
   exact ⟨⟨pgs', D', _, ps', hp9, (hk9.block tb htb hto).trans hLJ.ht, hto, hM9, hN, hkv⟩, ((Kb.of_kp hLJ.kp (Nat.le_refl _)).trans_gr (Gr.refl O w.heap.size) (Nat.le_refl _) hk9).to_kp⟩
  have FIN := hid fin
  clear fin hp9 hd9 hk9
  go_wp2
  go_ret
  exact ⟨by rw [HGS.out]; rfl, FIN.out.1, FIN.out.2⟩
 ·have hb : hasB k es = false := by
   cases h : hasB k es
   ·rfl
   ·exact absurd ((hasB_iff k es).1 h) hk
  have hgs := (get_kvs (m := pg pgs) hE hsid.1 hsid.2 hnd.2.1.2).2 hk
  have hdl : delM (kvs (pg pgs) E) k = kvs (pg pgs) E := by
   unfold delM
   refine List.filter_eq_self.2 fun a ha => ?_
   have : ∀ a ∈ kvs (pg pgs) E, ¬ decide (a.1 = k) = true := by
    unfold getM at hgs
    rw [Option.map_eq_none_iff, List.find?_eq_none] at hgs
    exact hgs
   simpa using this a ha
  have HF := hid (⟨hgs, hdl, hL2, hm, hto, hN⟩ : _ ∧ _ ∧ _ ∧ _ ∧ _ ∧ _)
  rw [hb]
  clear hm ht hto hN hlt htb hD hul hE hsid hnd hin hlen hsl hcap hH hL2 hb2 hEn' hrow' hb l1' l2' hfz' hg2' hgs hdl
  go_wp2
  go_ret
  obtain ⟨h1, h2, h3, h4, h5, h6⟩ := HF.out
  exact ⟨by rw [h1]; rfl, by rw [h2]; exact ⟨pgs, D, E, ps, h3.hp, h3.ht, h5, h4, h6, rfl⟩, h3.kp⟩
end
end
section
open Go.RowKit Go.Lib
theorem run_app_fresh {P : Program} (w : World) (base : Nat) (t ty e : TypeId) (i : TypeInfo) (z : Value) (size bytes : Nat) (ht : P.underlying t = some (.slice e)) (hi : P.info? e = some i) (hz : i.zero = some z)
  (hsize : i.size = size) (hby : i.bytes = bytes) (hzs : z.cells.size = size) (hsz : 0 < size) (v : Value) (n : Nat) (xs : List Value) (hown : w.ownsRow base e size v n xs)
  (a : Addr) (c : Nat) (news : List Value) (hl : news.length = size) (hnews : ∀ j u, news[j]? = some u → w.cell? (a.add j) = some u) (h1 : ∀ u ∈ news, u.oneCell' = true)
  (h63 : n + 1 ≤ maxLen) (hbytes : (n + 1) * bytes ≤ 140737488355328) (hbase : base ≤ w.heap.size) :
  ∃ v' w', (Builtin.append_ #[t, t] ty #[v, .slice (some a) 1 c]).run P w = .ok v' w' ∧ w'.ownsRow base e size v' (n + 1) (xs ++ news) ∧ w.grownBy w' v.ownBlock ∧ ∀ g, v'.ownBlock = some g → v.ownBlock = some g ∨ w.heap.size ≤ g := by
 obtain ⟨v', w', hr, h2, h3, _⟩ := run_append_own (P := P) w base t ty e i z size bytes ht hi hz hsize hby hzs hsz v n xs hown a 1 c news (by rw [hl, Nat.one_mul]) hnews h1 h63 hbytes hbase
 refine ⟨v', w', hr, h2, h3, fun g hg => ?_⟩
 subst hsize hby
 have h47 : n + 1 ≤ 9223372036854775807 := by simp only [maxLen] at h63; omega
 rcases hown.2 with ⟨rfl, h0⟩ | ⟨q, cap, cur, rfl, hbg, hq, hnc, hcm, hcs, htake⟩
 ·subst h0
  have hr2 := run_append_nil (P := P) w t ty e i z ht hi hz a 1 c news (by rw [hl, Nat.one_mul]) hnews (by omega) (by omega) (by rw [Nat.zero_add] at hbytes; omega)
  rw [hr] at hr2
  injection hr2 with e1 _
  subst e1
  simp [Value.ownBlock] at hg
  exact .inr (by omega)
 ·by_cases hroom : n + 1 ≤ cap
  ·have hr2 := run_append_room (P := P) w t ty e i ht hi q n cap cur hq a 1 c news (by rw [hl, Nat.one_mul]) hnews h1 hroom (by rw [hl, hcs]; have := Nat.mul_le_mul_right i.size hroom; rw [Nat.add_mul, Nat.one_mul] at this; exact this)
   rw [hr] at hr2
   injection hr2 with e1 _
   subst e1
   exact .inl (by simpa [Value.ownBlock] using hg)
  ·have hr2 := run_append_grow (P := P) w t ty e i z ht hi hz ⟨q, 0, none⟩ n cap xs hown.1 (hown.cells (g := q) rfl) a 1 c news (by rw [hl, Nat.one_mul]) hnews (by omega) (by omega) (growslice_fits (by omega) hbytes)
   rw [hr] at hr2
   injection hr2 with e1 _
   subst e1
   simp [Value.ownBlock] at hg
   exact .inr (by omega)
theorem app_one {ops : Array Oper} {rest : List Oper} {o : Oper} {a : Act} {Q : Exit → Act → World → Prop} (hgd : o.guard = none) (s x : Operand) (t : TypeId)
  (ho : o.op = .call { callee := .builtin .append, args := #[s, x], argTypes := #[t, t] }) {α : Type} (enc : α → List Value) {e : TypeId} {z : Value} {size bytes : Nat} (hi : Inf e z size bytes) (ht : Tryz.prog.underlying t = some (.slice e))
  (hzs : z.cells.size = size) (hsz : 0 < size) (hby : bytes ≤ 1000) (hk : ∀ x, (enc x).length = size) (hone : ∀ x, ∀ u ∈ enc x, u.oneCell' = true) {B : Nat} {W : World} {v : Value} {l : List α} {n : Nat} (x0 : α) (hown : W.ownsRow B e size v n (rowV enc l)) (hn : n ≤ 100000) (hB : B ≤ W.heap.size)
  (hs : a.eval s = v) (hx : a.eval x = .slice (some ⟨W.heap.size, 0, none⟩) 1 1)
  (h : ∀ v' w', w'.ownsRow B e size v' (n + 1) (rowV enc (l ++ [x0])) → Kp v.ownBlock.toList W w' → (∀ g, v'.ownBlock = some g → v.ownBlock = some g ∨ W.heap.size ≤ g) → wpList Tryz.prog ops Q rest (a.put o.dst v') w') : wpList Tryz.prog ops Q (o :: rest) a (W.alloc (.cells (enc x0).toArray e)) := by
 obtain ⟨i0, hi0, hz0, hz1, hz2⟩ := info_parts hi
 refine wpList_plain hgd fun K hK => ?_
 obtain ⟨v', w', hr, h2, h3, h4⟩ := run_app_fresh (P := Tryz.prog) (W.alloc (.cells (enc x0).toArray e)) B t o.type e i0 z size bytes ht hi0 hz0 hz1 hz2 hzs hsz v n _ (hown.alloc _) ⟨W.heap.size, 0, none⟩ 1 (enc x0) (hk x0) (news_of (Blk.new W e (enc x0).toArray)) (hone x0) (by unfold maxLen; omega)
  (by
   have : (n + 1) * bytes ≤ 100001 * 1000 := Nat.mul_le_mul (by omega) hby
   omega) (by simp; omega)
 unfold Oper.wp execOp
 simp only [ho, resolve, invoke, builtin, Sem.run_bind, Sem.run_pure, Result.andThen_ok, List.map_toArray, List.map_cons, List.map_nil, hs, hx, hr]
 refine hK _ _ (h v' w' (by rw [rowV_append, rowV_cons, rowV_nil, List.append_nil]; exact h2) (((Kp.refl _ W).alloc _).grown h3 (fun g hg => .inl (Option.mem_toList.2 hg))) (fun g hg => (h4 g hg).imp id (fun h' => ?_)))
 simp at h'
 omega
/-! going through entries in a range, as long as it is wanted -/
section
variable (more : List En → Bool) (fr to : Bs)
def runF : List En → List En → List En
 | xs, [] => xs
 | xs, x :: t => if x.key < fr then runF xs t else if to ≠ [] ∧ ¬ x.key < to then xs else if more (xs ++ [x]) = true then runF (xs ++ [x]) t else xs ++ [x]
variable {more fr to}
theorem runF_lt {xs t : List En} {x : En} (h : x.key < fr) : runF more fr to xs (x :: t) = runF more fr to xs t := by rw [runF, if_pos h]
theorem runF_out {xs t : List En} {x : En} (h : ¬ x.key < fr) (h2 : to ≠ [] ∧ ¬ x.key < to) : runF more fr to xs (x :: t) = xs := by rw [runF, if_neg h, if_pos h2]
theorem runF_go {xs t : List En} {x : En} (h : ¬ x.key < fr) (h2 : ¬ (to ≠ [] ∧ ¬ x.key < to)) (h3 : more (xs ++ [x]) = true) : runF more fr to xs (x :: t) = runF more fr to (xs ++ [x]) t := by rw [runF, if_neg h, if_neg h2, if_pos h3]
theorem runF_end {xs t : List En} {x : En} (h : ¬ x.key < fr) (h2 : ¬ (to ≠ [] ∧ ¬ x.key < to)) (h3 : more (xs ++ [x]) = false) : runF more fr to xs (x :: t) = xs ++ [x] := by rw [runF, if_neg h, if_neg h2, if_neg (by rw [h3]; simp)]
theorem runF_skip : ∀ {l xs rest : List En}, (∀ x ∈ l, x.key < fr) → runF more fr to xs (l ++ rest) = runF more fr to xs rest
 | [], _, _, _ => rfl
 | x :: t, xs, rest, h => by
  rw [List.cons_append, runF_lt (h x (by simp))]
  exact runF_skip (fun y hy => h y (by simp [hy]))
theorem runF_stop : ∀ {l xs : List En}, to ≠ [] → (∀ x ∈ l, ¬ x.key < to) → runF more fr to xs l = xs
 | [], _, _, _ => rfl
 | x :: t, xs, h0, h => by
  by_cases hx : x.key < fr
  ·rw [runF_lt hx]
   exact runF_stop h0 (fun y hy => h y (by simp [hy]))
  ·exact runF_out hx ⟨h0, h x (by simp)⟩
def Went (more : List En → Bool) (fr to : Bs) (xs es : List En) (b : Bool) (ys : List En) : Prop := ∀ rest, Asc (es ++ rest) → runF more fr to xs (es ++ rest) = if b = true then runF more fr to ys rest else ys
theorem Went.nil (xs : List En) : Went more fr to xs [] true xs := fun rest _ => by simp
theorem Went.step {xs ys zs es es2 : List En} {b : Bool} (h : Went more fr to xs es true ys) (k : Went more fr to ys es2 b zs) : Went more fr to xs (es ++ es2) b zs := fun rest ha => by
 rw [List.append_assoc] at ha ⊢
 rw [h _ ha, if_pos rfl]
 exact k rest (Asc.append.1 ha).2.1
theorem Went.one_lt {xs : List En} {x : En} (h : x.key < fr) : Went more fr to xs [x] true xs := fun rest _ => by
 rw [List.singleton_append, runF_lt h, if_pos rfl]
theorem Went.one_out {xs : List En} {x : En} (h : ¬ x.key < fr) (h2 : to ≠ [] ∧ ¬ x.key < to) : Went more fr to xs [x] false xs := fun rest _ => by
 rw [List.singleton_append, runF_out h h2]; rfl
theorem Went.one_do {xs : List En} {x : En} (h : ¬ x.key < fr) (h2 : ¬ (to ≠ [] ∧ ¬ x.key < to)) : Went more fr to xs [x] (more (xs ++ [x])) (xs ++ [x]) := fun rest _ => by
 rw [List.singleton_append]
 cases h3 : more (xs ++ [x])
 ·rw [runF_end h h2 h3]; rfl
 ·rw [runF_go h h2 h3]; rfl
theorem Went.more_false {xs es es2 ys : List En} (h : Went more fr to xs es false ys) : Went more fr to xs (es ++ es2) false ys := fun rest ha => by
 rw [List.append_assoc] at ha ⊢
 exact h _ ha
theorem Went.skip {xs l : List En} (h : ∀ x ∈ l, x.key < fr) : Went more fr to xs l true xs := fun rest _ => by
 rw [runF_skip h]; rfl
theorem Went.stop {xs l : List En} (h0 : to ≠ []) (hl : l ≠ []) (h : ∀ x ∈ l, ¬ x.key < to) : Went more fr to xs l false xs := fun rest ha => by
 refine runF_stop h0 fun y hy => ?_
 rcases List.mem_append.1 hy with hy1 | hy2
 ·exact h y hy1
 ·obtain ⟨x, t, rfl⟩ : ∃ x t, l = x :: t := by
   cases l with
   | nil => exact absurd rfl hl
   | cons x t => exact ⟨x, t, rfl⟩
  intro hlt
  have h1 : x.key < y.key := (Asc.append.1 ha).2.2 x (by simp) y hy2
  exact h x (by simp) (blt_trans h1 hlt)
theorem Went.all {xs es ys : List En} {b : Bool} (ha : Asc es) (h : Went more fr to xs es b ys) : runF more fr to xs es = ys := by
 have := h [] (by simpa using ha)
 rw [List.append_nil] at this
 rw [this]
 cases b <;> rfl
theorem runF_all (hm : ∀ l, more l = true) : ∀ {es xs : List En}, Asc es → runF more fr to xs es = xs ++ es.filter (fun x => decide (¬ x.key < fr) && decide (to = [] ∨ x.key < to))
 | [], xs, _ => by simp [runF]
 | x :: t, xs, ha => by
  have ha' := Asc.cons.1 ha
  by_cases h : x.key < fr
  ·rw [runF_lt h, runF_all hm ha'.2, List.filter_cons_of_neg (by simp [h])]
  ·by_cases h2 : to ≠ [] ∧ ¬ x.key < to
   ·rw [runF_out h h2, List.filter_eq_nil_iff.2, List.append_nil]
    intro y hy
    have : ¬ y.key < to := by
     rcases List.mem_cons.1 hy with rfl | hy
     ·exact h2.2
     ·exact fun hlt => h2.2 (blt_trans (ha'.1 y hy) hlt)
    simp [h2.1, this]
   ·have h3 : to = [] ∨ x.key < to := by
     by_cases e : to = []
     ·exact .inl e
     ·exact .inr (Classical.byContradiction fun hn => h2 ⟨e, hn⟩)
    rw [runF_go h h2 (hm _), runF_all hm ha'.2, List.filter_cons_of_pos (by simp [h, h3])]
    simp
end
end
end Go.Proofs.YtnnghcooidjlhaaGreat
