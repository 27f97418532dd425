/- Parts of the proof: Je. -/
import Derived.Deep.RegionLaw
import Derived.Test.YtnnghcooidjlhaaGreatD21
set_option linter.all false
set_option maxRecDepth 100000
namespace Go.Proofs.YtnnghcooidjlhaaGreat
section
open Go.RowKit Go.Lib
structure LSt (w0 : World) (P : PL) (O : List Nat) (tb : Nat) (W : World) (g c : Nat) (sts : List St) (up : List Fm) (q : Nat) (es : List En) (vl : Value) (pgs : List (Option Bs)) : Prop where
 hp : PoI W P O pgs
 ht : TrI W P tb
 way : WayI W w0.heap.size (.slice (some ⟨g, 0, none⟩) (sts.length + 1) c) (sts ++ [⟨q, ⟨true, es⟩, vl, 0⟩])
 fms : Fms sts up
 kp : Kp O w0 W
section
variable {w0 : World} {P : PL} {O : List Nat} {tb : Nat} {W : World} {g c : Nat} {sts : List St} {up : List Fm} {q : Nat} {es : List En} {vl : Value} {pgs : List (Option Bs)}
theorem LSt.below {W' : World} (h : LSt w0 P O tb W g c sts up q es vl pgs) (hb : Below W.heap.size W W') : LSt w0 P O tb W' g c sts up q es vl pgs :=
 ⟨h.hp.below hb, Blk.below h.ht hb (Blk.lt h.ht), h.way.of_blocks (fun b _ hlt => hb.block b hlt), h.fms, h.kp.trans (Kp.of_below hb)⟩
theorem LSt.pool {W' : World} {pgs' : List (Option Bs)} (h : LSt w0 P O tb W g c sts up q es vl pgs) (hlt : ∀ b ∈ O, b < w0.heap.size) (hto : tb ∉ O) (hk : Kp O W W') (hp : PoI W' P O pgs') : LSt w0 P O tb W' g c sts up q es vl pgs' :=
 ⟨hp, Blk.kp h.ht hk hto, h.way.kp hk hlt, h.fms, h.kp.trans hk⟩
theorem LSt.cells (h : LSt w0 P O tb W g c sts up q es vl pgs) : ∃ tp tc, vl = .slice tp es.length tc ∧ w0.heap.size ≤ g ∧ g < W.heap.size ∧ W.cell? ⟨g, sts.length * 4 + 1, none⟩ = some (.bool true) ∧ W.cell? ⟨g, sts.length * 4 + 2, none⟩ = some vl ∧ EnI W vl es ∧
  W.ownsRow w0.heap.size 299 3 vl es.length (rowV enC es) ∧ W.frozen? ⟨g, sts.length * 4 + 2, none⟩ = false := by
 obtain ⟨g', c', tp, tc, e, hvl, hc, hg2, hg3, cell, hEn⟩ := way_last h.way
 injection e with e _ e2
 injection e with e
 injection e with e
 subst e e2
 exact ⟨tp, tc, hvl, hg2, hg3, cell 1 _ rfl, cell 2 _ rfl, hEn, h.way.row ⟨q, ⟨true, es⟩, vl, 0⟩ (by simp), own_frozen h.way.own _⟩
theorem LSt.setv {W' : World} {es2 : List En} {v2 : Value} (h : LSt w0 P O tb W g c sts up q es vl pgs) (hlt : ∀ b ∈ O, b < w0.heap.size) (htb : tb < w0.heap.size)
  (hrow : W'.ownsRow w0.heap.size 299 3 v2 es2.length (rowV enC es2)) (hk : Kp vl.ownBlock.toList W W') (hnew : ∀ b, v2.ownBlock = some b → vl.ownBlock = some b ∨ W.heap.size ≤ b) :
  LSt w0 P O tb (W'.setCell ⟨g, sts.length * 4 + 2, none⟩ v2) g c sts up q es2 v2 pgs := by
 obtain ⟨tp, tc, hvl, hg1, hg2, _, _, _, hr, _⟩ := h.cells
 have hvg : ∀ b, vl.ownBlock = some b → w0.heap.size ≤ b ∧ b < W.heap.size ∧ b ≠ g := fun b hb => ⟨(hr.lt b hb).1, (hr.lt b hb).2, fun e => own_apart hr h.way.own (by decide) b hb (by rw [e]; rfl)⟩
 have hw := h.way.setv (w' := W') (n2 := ⟨true, es2⟩) (v2 := v2) rfl hrow (fun b _ hlt hne => hk.block b hlt (fun hm => hne (Option.mem_toList.1 hm)))
  (fun t ht b hb e => (hnew b e).elim (fun h' => (List.pairwise_append.1 h.way.nd).2.2 t ht _ (List.mem_singleton_self _) b hb h') (fun h' => by have := ((h.way.row t (List.mem_append_left _ ht)).lt b hb).2; omega))
  (fun e => (hnew g e).elim (fun h' => (hvg g h').2.2 rfl) (fun h' => by omega))
 have hblk : ∀ b, b < w0.heap.size → (W'.setCell ⟨g, sts.length * 4 + 2, none⟩ v2).heap[b]? = W.heap[b]? := fun b hb => by
  rw [Below.heap_setCell _ ⟨g, _, none⟩ _ b (by show b ≠ g; omega)]
  exact hk.block b (by have := h.kp.size; omega) (fun hm => by have := hvg b (Option.mem_toList.1 hm); omega)
 refine ⟨h.hp.of_blocks (fun b hb => hblk b (hlt b hb)), (hblk tb htb).trans h.ht, hw, h.fms, ?_⟩
 exact ⟨hk.os.trans h.kp.os, hk.tape.trans h.kp.tape, hk.output.trans h.kp.output, by have := h.kp.size; have := hk.size; simpa [World.setCell] using by omega, fun b hb ho => (hblk b hb).trans (h.kp.block b hb ho)⟩
end
section
variable {w : World} {P : PL} {O : List Nat} {tb N : Nat} {M : List KV}
set_option maxHeartbeats 8000000 in
theorem tset_any (h : TreeI w P O tb N M) {k v : Bs} (hkl : k.length ≤ 32) (hvl : v.length ≤ 228) (hroom : Roomy N M.length (longs M)) :
  Calls Tryz.prog 130 #[.pointer (some ⟨tb, 0, none⟩), .string (S k), .string (S v)] w fun e w' => ∃ O', e = .returned (.int .i64 0) ∧ TreeI w' P O' tb (N + 1) (setM M k v) ∧ Kp O w w' ∧ Gr O w.heap.size O' := by
 obtain ⟨pgs, D, E, ps, hp, ht, hto, hm, hN, rfl⟩ := h
 have hD := hm.roomM hroom
 have hN2 : N ≤ 245 := by rcases hroom with h | h <;> omega
 have HW := hid (way_any ht hto hp hm.rep (by omega) k)
 have hki : (k.length : Int) ≤ 32 := by omega
 have hvi : (v.length : Int) ≤ 228 := by omega
 have HX := hid (⟨hm, ht, hto, hN2, hp.lts, Blk.lt ht, hkl, hvl, hD⟩ : _ ∧ _ ∧ _ ∧ _ ∧ _ ∧ _ ∧ _ ∧ _ ∧ _)
 clear hp ht hto hm hN hN2 hD hkl hvl hroom
 go_enter Tryz.func130, Tryz.ntmps130
 go_wp2_with fail
 (with_reducible refine HW.out.mono ?_)
 rintro e W1 ⟨v0, sts, up, q, es, vl, pre, post, psl, psc, rfl, hk1, hp1, hway, hfms, hul, hctx, hrep, hE, hperm, hin, hin2, hne⟩
 obtain ⟨hm, ht, hto, hN2, hlt, htb, hkl, hvl, hD⟩ := HX.out
 obtain ⟨g, c, tp, tc, rfl, _, hcap, _, _, _, _⟩ := way_last hway
 have hH := hm.hole hul hctx hrep hE hperm hin2
 have hL : LSt w P O tb W1 g c sts up q es vl pgs := ⟨hp1, Blk.kp ht hk1 hto, hway, hfms, hk1⟩
 obtain ⟨tp, tc, rfl, hg1, hg2, l1, l2, hEn, hrow, _⟩ := hL.cells
 obtain ⟨hnd, rfl⟩ := hrep
 have hlen : es.length ≤ 40 := leaf_len hnd.2.2
 have hsl := hfms.length
 have hsz : (sts.length : Int) + 1 < 1000 := by omega
 have w9 : IntKind.i64.wrap ((sts.length : Int) + 1 - 1) = (sts.length : Int) := by rw [IntKind.wrap_i64]; omega
 have HFI := hid (find_any (leaf := true) (l := es) hnd.2.1.2 hEn (by omega) k)
 unfold ndV at HFI
 have HL := hid hL
 have hsid := hctx.sides hin
 have HY := hid (⟨hul, hE, hsid, hnd, hin, hlen, hsl, hcap, hH⟩ : _ ∧ _ ∧ _ ∧ _ ∧ _ ∧ _ ∧ _ ∧ _ ∧ _)
 clear hm ht hto hN2 hlt htb hkl hvl hD hk1 hp1 hway hfms hul hctx hE hperm hin hin2 hne hL hEn hrow hnd hlen hsl hsid hH hcap
 go_wp2_with fail
 (with_reducible refine HFI.out.mono ?_)
 rintro e W2 ⟨rfl, hb2⟩
 have hL2 := HL.out.below hb2
 obtain ⟨hul, hE, hsid, hnd, hin, hlen, hsl, hcap, hH⟩ := HY.out
 obtain ⟨hm, ht, hto, hN2, hlt, htb, hkl, hvl, hD⟩ := HX.out
 obtain ⟨tp', tc', ev, _, hg2', l1', l2', hEn', hrow', hfz'⟩ := hL2.cells
 injection ev with ev1 _ ev2
 subst ev1 ev2
 clear l1 l2
 have hc1 := cnt_le k es
 have hlen40 : (es.length : Int) ≤ 40 := by omega
 by_cases hk : hasK k es
 case' pos =>
  have hb := (hasB_iff k es).2 hk
  rw [hb]
  obtain ⟨x, hx, hxk⟩ := hk
  have hlte := (List.getElem?_eq_some_iff.1 hx).1
  obtain ⟨gx, cx, e1, e2, e3, e4⟩ := own_form hrow' (by omega)
  injection e1 with e1 _ e5
  subst e1 e5
  have m0 : W2.cell? ⟨gx, cnt k es * 3, none⟩ = some (.string (S x.key)) := own_at hrow' rfl (j := cnt k es * 3 + 0) (by rw [rowV_get enC_len es (cnt k es) x hx 0 (by omega)]; rfl)
  have m1 : W2.cell? ⟨gx, cnt k es * 3 + 1, none⟩ = some (.string (S x.val)) := own_at hrow' rfl (j := cnt k es * 3 + 1) (by rw [rowV_get enC_len es (cnt k es) x hx 1 (by omega)]; rfl)
  have m2 : W2.cell? ⟨gx, cnt k es * 3 + 2, none⟩ = some (.int .i64 x.far) := own_at hrow' rfl (j := cnt k es * 3 + 2) (by rw [rowV_get enC_len es (cnt k es) x hx 2 (by omega)]; rfl)
  have hxE : x ∈ E := by rw [hE]; simp [List.mem_of_getElem? hx]
  have HAW := hid (away_any hL2.ht hto hL2.hp (hm.ch x hxE))
  unfold enV at HAW
  obtain ⟨hH3, hF3⟩ := hH.away (split_at hx)
  have hlti : ((cnt k es : Nat) : Int) < (es.length : Int) := by omega
  have l2'' : W2.cell? ⟨g, sts.length * 4 + 1 + 1, none⟩ = some (.slice (some ⟨gx, 0, none⟩) es.length tc) := l2'
  have HL2 := hid hL2
  have HE := hid (⟨hH3, hF3, e2, e3, e4, hlte, hrow'⟩ : _ ∧ _ ∧ _ ∧ _ ∧ _ ∧ _ ∧ _)
  have HK := hid (⟨hx, hxk⟩ : _ ∧ _)
  clear hm ht hto hN2 hlt htb hkl hvl hD hul hE hsid hnd hin hlen hsl hcap hH hL2 hb2 hEn' hrow' hb hx hxk e2 e3 e4 hxE hH3 hF3 hlte hc1
  go_wp2_with fail
  (with_reducible refine HAW.out.mono ?_)
  rintro e W3 ⟨pgs3, rfl, hpg3, hsm3, hk3, hp3⟩
  obtain ⟨hm, ht, hto, hN2, hlt, htb, hkl, hvl, hD⟩ := HX.out
  obtain ⟨hH3, hF3, e2, e3, e4, hlte, hrow'⟩ := HE.out
  obtain ⟨hul, hE, hsid, hnd, hin, hlen, hsl, hcap, hH⟩ := HY.out
  have hL3 := HL2.out.pool hlt hto hk3 hp3
  obtain ⟨_, _, _, _, hg3, _, l23, _, hrow3, hfz3⟩ := hL3.cells
  have HDL := hid (delete_any (i := cnt k es) hrow3 hlte (by omega))
  have l23' : W3.cell? ⟨g, sts.length * 4 + 1 + 1, none⟩ = some (.slice (some ⟨gx, 0, none⟩) es.length tc) := l23
  have hgx : gx ≠ g := fun e => own_apart hrow3 hL3.way.own (by decide) gx rfl (by rw [e]; rfl)
  have HGX := hid (⟨hgx, hg3, l23, hfz3, hk3, hsm3, hpg3⟩ : _ ∧ _ ∧ _ ∧ _ ∧ _ ∧ _ ∧ _)
  have HL3 := hid hL3
  clear hm ht hto hN2 hlt htb hkl hvl hD hH3 hF3 e2 e3 e4 hlte hrow' hul hE hsid hnd hin hlen hsl hcap hH hL3 hrow3 hfz3 hgx hpg3 hk3 hp3 m0 m1 m2 l1' l2' l2'' hsm3 l23 hg3 hfz'
  go_wp2_with fail
  (with_reducible refine HDL.out.mono ?_)
  rintro e W4 ⟨rfl, hO4, hk4⟩
  obtain ⟨hm, ht, hto, hN2, hlt, htb, hkl, hvl, hD⟩ := HX.out
  obtain ⟨hgx, hg3, l23, hfz3, hk3, hsm3, hpg3⟩ := HGX.out
  obtain ⟨hH3, hF3, e2, e3, e4, hlte, hrow'⟩ := HE.out
  have hng : g ∉ [gx] := by simpa using fun e => hgx e.symm
  have l24 : W4.cell? ⟨g, sts.length * 4 + 1 + 1, none⟩ = some (.slice (some ⟨gx, 0, none⟩) es.length tc) := (hk4.cell (p := ⟨g, _, none⟩) hg3 hng).trans l23
  have f24 : W4.frozen? ⟨g, sts.length * 4 + 1 + 1, none⟩ = false := (hk4.frozen (p := ⟨g, sts.length * 4 + 1 + 1, none⟩) hg3 hng).trans hfz3
  have hLJ := HL3.out.setv (W' := W4) (es2 := es.eraseIdx (cnt k es)) (v2 := .slice (some ⟨gx, 0, none⟩) (es.length - 1) tc) hlt htb (by rw [List.length_eraseIdx_of_lt hlte]; exact hO4) hk4 (fun b hb => .inl hb)
  have HLJ := hid hLJ
  clear hm ht hto hN2 hlt htb hkl hvl hD hH3 hF3 e2 e3 e4 hlte hrow' hgx hg3 l23 hfz3 hk3 hsm3 hpg3 hng hLJ hk4 hO4 l23'
  go_wp2_with fail
  obtain ⟨WJ, hWJ⟩ : ∃ WJ, WJ = W4.setCell ⟨g, sts.length * 4 + 1 + 1, none⟩ (.slice (some ⟨gx, 0, none⟩) (es.length - 1) tc) := ⟨_, rfl⟩
  obtain ⟨esJ, vJ, pgsJ, HJ⟩ : ∃ esJ vJ pgsJ, Hid (LSt w P O tb WJ g c sts up q esJ vJ pgsJ ∧ HoI (pg pgsJ) q up pre esJ post psc N ∧ esJ = es.take (cnt k es) ++ es.drop (cntE k es (hasB k es)) ∧ (∀ r ∈ fars (pre ++ esJ ++ post), pg pgsJ r = pg pgs r) ∧ somes pgsJ ≤ somes pgs) := by
   obtain ⟨hgx, hg3, l23, hfz3, hk3, hsm3, hpg3⟩ := HGX.out
   obtain ⟨hH3, hF3, e2, e3, e4, hlte, hrow'⟩ := HE.out
   refine ⟨_, _, pgs3, hid ⟨by rw [hWJ]; exact HLJ.out, ?_, ?_, ?_, hsm3⟩⟩
   ·rw [hpg3, erase_eq]
    exact hH3
   ·rw [erase_eq]
    unfold cntE
    rw [if_pos ((hasB_iff k es).2 ⟨x, HK.out⟩)]
   ·rw [hpg3, erase_eq]
    exact hF3
  rw [← hWJ]
  clear hWJ HLJ HGX HE HL3 HDL HAW HK HL2 l24 f24
 case' neg =>
  have hb : hasB k es = false := by
   cases h : hasB k es
   ·rfl
   ·exact absurd ((hasB_iff k es).1 h) hk
  obtain ⟨esJ, vJ, pgsJ, HJ⟩ : ∃ esJ vJ pgsJ, Hid (LSt w P O tb W2 g c sts up q esJ vJ pgsJ ∧ HoI (pg pgsJ) q up pre esJ post psc N ∧ esJ = es.take (cnt k es) ++ es.drop (cntE k es (hasB k es)) ∧ (∀ r ∈ fars (pre ++ esJ ++ post), pg pgsJ r = pg pgs r) ∧ somes pgsJ ≤ somes pgs) := by
   refine ⟨es, _, pgs, hid ⟨hL2, hH, ?_, fun _ _ => rfl, Nat.le_refl _⟩⟩
   rw [hb]
   simp [cntE]
  rw [hb]
  clear hm ht hto hN2 hlt htb hkl hvl hD hul hE hsid hnd hin hlen hsl hcap hH hL2 hb2 hEn' hrow' hb l1' l2' hfz' hg2'
  go_wp2_with fail
  obtain ⟨WJ, hWJ⟩ : ∃ WJ, W2 = WJ := ⟨_, rfl⟩
  rw [hWJ]
  rw [hWJ] at HJ
  clear hWJ
 all_goals
  obtain ⟨hLJ, hHJ, hesJ, hFJ, hsmJ⟩ := HJ.out
  obtain ⟨hm, ht, hto, hN2, hlt, htb, hkl, hvl, hD⟩ := HX.out
  have HST := hid (store_any hLJ.ht hto hLJ.hp (k := k) hvl (by omega))
  clear hLJ hHJ hesJ hFJ hsmJ hm ht hto hN2 hlt htb hkl hvl hD
  (with_reducible refine HST.out.mono ?_)
  rintro e W5 ⟨x, O1, pgs5, rfl, hxk5, hx5, hp5, hk5, hg5⟩
  unfold enV
  obtain ⟨hLJ, hHJ, hesJ, hFJ, hsmJ⟩ := HJ.out
  obtain ⟨hm, ht, hto, hN2, hlt, htb, hkl, hvl, hD⟩ := HX.out
  have hL5 : WayI W5 w.heap.size (.slice (some ⟨g, 0, none⟩) (sts.length + 1) c) (sts ++ [⟨q, ⟨true, esJ⟩, vJ, 0⟩]) := hLJ.way.kp hk5 hlt
  have hk05 : Kp O w W5 := hLJ.kp.trans hk5
  have ht5 : TrI W5 P tb := Blk.kp hLJ.ht hk5 hto
  have hg5' : Gr O w.heap.size O1 := hg5.mono hLJ.kp.size
  obtain ⟨W6, hW6⟩ : ∃ W6, W6 = W5.alloc (.cells #[.string (S x.key), .string (S x.val), .int .i64 x.far] 299) := ⟨_, rfl⟩
  have hb6 : Below W5.heap.size W5 W6 := by rw [hW6]; exact (Below.refl _ W5).alloc (Nat.le_refl _) _
  have hs6 : W6.heap.size = W5.heap.size + 1 := by rw [hW6]; simp
  have hX6 : Blk W6 W5.heap.size 299 #[.string (S x.key), .string (S x.val), .int .i64 x.far] := by rw [hW6]; exact Blk.new W5 _ _
  have hL6 : LSt w P O tb W6 g c sts up q esJ vJ pgsJ ∨ True := .inr trivial
  have hway6 : WayI W6 w.heap.size (.slice (some ⟨g, 0, none⟩) (sts.length + 1) c) (sts ++ [⟨q, ⟨true, esJ⟩, vJ, 0⟩]) := hL5.of_blocks (fun b _ hb => hb6.block b hb)
  obtain ⟨g', c', tpJ, tcJ, e1, hvJ, _, hgw, hg5w, cell5, _⟩ := way_last hL5
  injection e1 with e1 _ e1c
  injection e1 with e1
  injection e1 with e1
  subst e1 e1c
  simp only at hvJ
  subst hvJ
  have A1 : W6.cell? ⟨g, sts.length * 4 + 1 + 1, none⟩ = some (.slice tpJ esJ.length tcJ) := (hb6.cell (p := ⟨g, _, none⟩) hg5w).trans (cell5 2 _ rfl)
  have hrowJ : W6.ownsRow w.heap.size 299 3 (.slice tpJ esJ.length tcJ) esJ.length (rowV enC esJ) := hway6.row ⟨q, ⟨true, esJ⟩, .slice tpJ esJ.length tcJ, 0⟩ (by simp)
  have hrow5 : W5.ownsRow w.heap.size 299 3 (.slice tpJ esJ.length tcJ) esJ.length (rowV enC esJ) := hL5.row ⟨q, ⟨true, esJ⟩, .slice tpJ esJ.length tcJ, 0⟩ (by simp)
  have hszw : w.heap.size ≤ W5.heap.size := hk05.size
  obtain ⟨hul, hE, hsid, hnd, hin, hlen, hsl, hcap, hH⟩ := HY.out
  have hcl := cnt_le k es
  have htk : (es.take (cnt k es)).length = cnt k es := by simp; omega
  have hlJ : cnt k es ≤ esJ.length ∧ esJ.length ≤ 40 := by
   rw [hesJ, List.length_append, htk, List.length_drop]
   have : cnt k es ≤ cntE k es (hasB k es) := by unfold cntE; split <;> omega
   omega
  have hins : insL esJ (cnt k es) x = es.take (cnt k es) ++ x :: es.drop (cntE k es (hasB k es)) := by
   unfold insL
   rw [hesJ, List.take_append_of_le_length (by omega), List.take_of_length_le (by omega), List.drop_append, List.drop_of_length_le (l := List.take (cnt k es) es) (by omega), htk, Nat.sub_self, List.drop_zero, List.nil_append]
  have HINS : Hid (∀ W, Below W6.heap.size W6 W → Calls Tryz.prog 170 #[.slice tpJ esJ.length tcJ, .int .i64 (cnt k es), .slice (some ⟨W.heap.size, 0, none⟩) 1 1] (W.alloc (.cells #[.string (S x.key), .string (S x.val), .int .i64 x.far] 299)) fun e w' => ∃ v', e = .returned v' ∧
    w'.ownsRow w.heap.size 299 3 v' (esJ.length + 1) (rowV enC (es.take (cnt k es) ++ x :: es.drop (cntE k es (hasB k es)))) ∧ Kp (Value.slice tpJ esJ.length tcJ).ownBlock.toList (W.alloc (.cells #[.string (S x.key), .string (S x.val), .int .i64 x.far] 299)) w' ∧ (∀ g, v'.ownBlock = some g → (Value.slice tpJ esJ.length tcJ).ownBlock = some g ∨ (W.alloc (.cells #[.string (S x.key), .string (S x.val), .int .i64 x.far] 299)).heap.size ≤ g)) := hid fun W hW => by
   have hWs := hW.size
   have := insertE_any (w := W.alloc (.cells #[.string (S x.key), .string (S x.val), .int .i64 x.far] 299)) (B := w.heap.size) (vb := W.heap.size) (i := cnt k es) (x := x) (row_of hrowJ (fun b hb => (Below.heap_alloc W _ b (by have := (hrowJ.lt b hb).2; omega)).trans (hW.block b (hrowJ.lt b hb).2))) (Blk.new W _ _) (fun e => by have := (hrowJ.lt _ e).2; omega) (by simp; omega) (by omega) (by omega)
   rw [hins] at this
   exact this
  have hvl6 : ∀ b, (Value.slice tpJ esJ.length tcJ).ownBlock = some b → b < W5.heap.size ∧ b ≠ g ∧ w.heap.size ≤ b := fun b hb => ⟨(hrow5.lt b hb).2, fun e => own_apart hrow5 hL5.own (by decide) b hb (by rw [e]; rfl), (hrow5.lt b hb).1⟩
  have stay : ∀ {W W' : World} {p : Addr} {u : Value}, Below W6.heap.size W6 W → Kp (Value.slice tpJ esJ.length tcJ).ownBlock.toList (W.alloc (.cells #[.string (S x.key), .string (S x.val), .int .i64 x.far] 299)) W' → W6.cell? p = some u → (p.block = g ∨ W5.heap.size ≤ p.block) → W'.cell? p = some u := fun {W W' p u} hW hkk h1 h2 => by
   have hlt := block_lt_of_cell h1
   have hWs := hW.size
   rw [hkk.cell (by simp; omega) (fun hm => by
    rw [Option.mem_toList] at hm
    have := hvl6 _ hm
    omega)]
   exact ((World.cell?_of_block (Below.heap_alloc W _ p.block (by omega))).trans (hW.cell hlt)).trans h1
  have x0 : W6.cell? ⟨W5.heap.size, 0, none⟩ = some (.string (S x.key)) := hX6.cell 0
  have x1 : W6.cell? ⟨W5.heap.size, 1, none⟩ = some (.string (S x.val)) := hX6.cell 1
  have x2 : W6.cell? ⟨W5.heap.size, 2, none⟩ = some (.int .i64 x.far) := hX6.cell 2
  have hlt6 := hX6.lt
  have HS4 : Hid (∀ W, Below W6.heap.size W6 W → W.cell? ⟨W5.heap.size, 0, none⟩ = some (.string (S x.key)) ∧ W.cell? ⟨W5.heap.size, 1, none⟩ = some (.string (S x.val)) ∧ W.cell? ⟨W5.heap.size, 2, none⟩ = some (.int .i64 x.far)) := hid fun W hW => ⟨(hW.cell hlt6).trans x0, (hW.cell hlt6).trans x1, (hW.cell hlt6).trans x2⟩
  have HS5 : Hid (∀ W W', Below W6.heap.size W6 W → Kp (Value.slice tpJ esJ.length tcJ).ownBlock.toList (W.alloc (.cells #[.string (S x.key), .string (S x.val), .int .i64 x.far] 299)) W' → W'.cell? ⟨W5.heap.size, 0, none⟩ = some (.string (S x.key)) ∧ W'.cell? ⟨W5.heap.size, 1, none⟩ = some (.string (S x.val)) ∧ W'.cell? ⟨W5.heap.size, 2, none⟩ = some (.int .i64 x.far)) := hid fun W W' hW hkk =>
   ⟨stay hW hkk x0 (.inr (Nat.le_refl _)), stay hW hkk x1 (.inr (Nat.le_refl _)), stay hW hkk x2 (.inr (Nat.le_refl _))⟩
  have HFR : Hid (∀ W W', Below W6.heap.size W6 W → Kp (Value.slice tpJ esJ.length tcJ).ownBlock.toList (W.alloc (.cells #[.string (S x.key), .string (S x.val), .int .i64 x.far] 299)) W' → W'.frozen? ⟨g, sts.length * 4 + 1 + 1, none⟩ = false) := hid fun W W' hW hkk => by
   have hWs := hW.size
   rw [hkk.frozen (p := ⟨g, _, none⟩) (by simp; omega) (fun hm => by
    rw [Option.mem_toList] at hm
    exact (hvl6 _ hm).2.1 rfl)]
   exact ((World.frozen?_of_block (Below.heap_alloc W _ g (by omega))).trans (World.frozen?_of_block (hW.block g (by omega)))).trans (own_frozen hway6.own _)
  have HS6 : Hid (∀ (W : World) u, W.cell? ⟨W5.heap.size, 0, none⟩ = some (.string (S x.key)) ∧ W.cell? ⟨W5.heap.size, 1, none⟩ = some (.string (S x.val)) ∧ W.cell? ⟨W5.heap.size, 2, none⟩ = some (.int .i64 x.far) → (W.setCell ⟨g, sts.length * 4 + 1 + 1, none⟩ u).cell? ⟨W5.heap.size, 0, none⟩ = some (.string (S x.key)) ∧ (W.setCell ⟨g, sts.length * 4 + 1 + 1, none⟩ u).cell? ⟨W5.heap.size, 1, none⟩ = some (.string (S x.val)) ∧ (W.setCell ⟨g, sts.length * 4 + 1 + 1, none⟩ u).cell? ⟨W5.heap.size, 2, none⟩ = some (.int .i64 x.far)) := hid fun W u hs =>
   ⟨(World.cell?_of_block (Below.heap_setCell W ⟨g, _, none⟩ u W5.heap.size (by show W5.heap.size ≠ g; omega))).trans hs.1, (World.cell?_of_block (Below.heap_setCell W ⟨g, _, none⟩ u W5.heap.size (by show W5.heap.size ≠ g; omega))).trans hs.2.1, (World.cell?_of_block (Below.heap_setCell W ⟨g, _, none⟩ u W5.heap.size (by show W5.heap.size ≠ g; omega))).trans hs.2.2⟩
  have HA1 : Hid (∀ W W', Below W6.heap.size W6 W → Kp (Value.slice tpJ esJ.length tcJ).ownBlock.toList (W.alloc (.cells #[.string (S x.key), .string (S x.val), .int .i64 x.far] 299)) W' → W'.cell? ⟨g, sts.length * 4 + 1 + 1, none⟩ = some (.slice tpJ esJ.length tcJ)) := hid fun W W' hW hkk => stay hW hkk A1 (.inl rfl)
  have HR6 := hid (⟨hxk5, hx5, hp5.below hb6, hk05.trans (Kp.of_below hb6), Blk.below ht5 hb6 (Blk.lt ht5), hg5', hway6, hrowJ, hs6, hg5w, hgw, hlJ, hvl6, hins, hszw⟩ : _ ∧ _ ∧ _ ∧ _ ∧ _ ∧ _ ∧ _ ∧ _ ∧ _ ∧ _ ∧ _ ∧ _ ∧ _ ∧ _ ∧ _)
  have HGO := hid hg5
  clear hm ht hto hN2 hlt htb hkl hvl hD hul hE hsid hnd hin hlen hsl hcap hH hLJ hHJ hesJ hFJ hsmJ hxk5 hx5 hp5 hk5 hg5 hL5 hk05 ht5 hg5' hb6 hX6 hL6 hway6 hrowJ hrow5 hszw hcl htk hlJ hins hvl6 stay cell5 x0 x1 x2
  go_wp2
  rw [← hW6]
  clear hW6 hs6
  have hgw6 : g < W6.heap.size := by obtain ⟨_, _, _, _, _, _, _, _, h1, h2, _⟩ := HR6.out; omega
  have hx6 := HS4.out W6 (Below.refl _ _)
  obtain ⟨x0, x1, x2⟩ := hx6
  go_region_law (first
    | (go_simp; refine (HINS.out _ (Below.refl _ _).drew).mono ?_; rintro e w1 ⟨v', rfl, ho', hk', hat'⟩; have hfr := HFR.out _ _ (Below.refl _ _).drew hk'; have q1 := HA1.out _ _ (Below.refl _ _).drew hk'; have hb7 := ((Below.refl W6.heap.size W6).drew).alloc (Nat.le_refl _) (.cells #[.string (S x.key), .string (S x.val), .int .i64 x.far] 299); obtain ⟨va', vc', rfl⟩ := own_slice2 ho'; dsimp only)
    | (go_simp; refine (HINS.out _ (Below.refl _ _)).mono ?_; rintro e w1 ⟨v', rfl, ho', hk', hat'⟩; have hfr := HFR.out _ _ (Below.refl _ _) hk'; have q1 := HA1.out _ _ (Below.refl _ _) hk'; have hb7 := ((Below.refl W6.heap.size W6)).alloc (Nat.le_refl _) (.cells #[.string (S x.key), .string (S x.val), .int .i64 x.far] 299); obtain ⟨va', vc', rfl⟩ := own_slice2 ho'; dsimp only))
  all_goals
   obtain ⟨hLJ, hHJ, hesJ, hFJ, hsmJ⟩ := HJ.out
   obtain ⟨hm, ht, hto, hN2, hlt, htb, hkl, hvl, hD⟩ := HX.out
   obtain ⟨hul, hE, hsid, hnd, hin, hlen, hsl, hcap, hH⟩ := HY.out
   obtain ⟨hxk5, hx5, hp6, hk06, ht6, hg5', hway6, hrowJ, hs6, hg5w, hgw, hlJ, hvl6, hins, hszw⟩ := HR6.out
   have h7s := hb7.size
   have h17s := hk'.size
   have hI7 := hway6.of_blocks (fun b _ hlt => hb7.block b hlt)
   have hls : (es.take (cnt k es) ++ x :: es.drop (cntE k es (hasB k es))).length = esJ.length + 1 := by rw [hesJ]; simp; omega
   have hI8 := hI7.setv (w' := w1) (n2 := ⟨true, es.take (cnt k es) ++ x :: es.drop (cntE k es (hasB k es))⟩) (v2 := .slice va' (esJ.length + 1) vc') rfl (by simp only; rw [hls]; exact ho') (fun b _ hlt hne => hk'.block b hlt (fun hm => hne (Option.mem_toList.1 hm)))
    (fun t ht b hb e => (hat' b e).elim (fun h => (List.pairwise_append.1 hway6.nd).2.2 t ht _ (List.mem_singleton_self _) b hb h) (fun h => by have := ((hway6.row t (List.mem_append_left _ ht)).lt b hb).2; omega))
    (fun e => (hat' g e).elim (fun h => (hvl6 g h).2.1 rfl) (fun h => by omega))
   have hblk : ∀ b, b < W5.heap.size → b ≠ g → (∀ b', (Value.slice tpJ esJ.length tcJ).ownBlock = some b' → b ≠ b') → (w1.setCell ⟨g, sts.length * 4 + 1 + 1, none⟩ (.slice va' (esJ.length + 1) vc')).heap[b]? = W6.heap[b]? := fun b hb hbg hbv => by
    rw [Below.heap_setCell _ ⟨g, _, none⟩ _ b hbg]
    exact (hk'.block b (by omega) (fun hm => hbv b (Option.mem_toList.1 hm) rfl)).trans (hb7.block b (by omega))
   have hbase : ∀ b, b < w.heap.size → (w1.setCell ⟨g, sts.length * 4 + 1 + 1, none⟩ (.slice va' (esJ.length + 1) vc')).heap[b]? = W6.heap[b]? := fun b hb => hblk b (by omega) (by omega) (fun b' hb' e => by have := (hvl6 b' hb').2.2; omega)
   have hsz8 : (w1.setCell ⟨g, sts.length * 4 + 1 + 1, none⟩ (.slice va' (esJ.length + 1) vc')).heap.size = w1.heap.size := by simp [World.setCell]
   have hk8 : Kb w.heap.size O w (w1.setCell ⟨g, sts.length * 4 + 1 + 1, none⟩ (.slice va' (esJ.length + 1) vc')) :=
    ⟨(hk'.os.trans hb7.os).trans hk06.os, (hk'.tape.trans hb7.tape).trans hk06.tape, (hk'.output.trans hb7.output).trans hk06.output, by rw [hsz8]; omega, fun b hb ho => (hbase b hb).trans (hk06.block b hb ho)⟩
   have hnO1 : ∀ b, w.heap.size ≤ b → b < WJ.heap.size → b ∉ O1 := fun b h1 h2 hb => by
    rcases HGO.out b hb with h | h
    ·have := hlt b h; omega
    ·omega
   have hvO : ∀ b, (Value.slice tpJ esJ.length tcJ).ownBlock = some b → b < WJ.heap.size := fun b hb => by
    obtain ⟨_, _, ev, _, _, _, _, _, hr, _⟩ := hLJ.cells
    exact (hr.lt b hb).2
   have hgJ : g < WJ.heap.size := by
    obtain ⟨_, _, _, _, h, _⟩ := hLJ.cells
    exact h
   have hrows : ∀ s ∈ sts, ∀ b, s.v.ownBlock = some b → w.heap.size ≤ b ∧ b < WJ.heap.size := fun s hs b hb => (hLJ.way.row s (List.mem_append_left _ hs)).lt b hb
   have hp8 : PoI (w1.setCell ⟨g, sts.length * 4 + 1 + 1, none⟩ (.slice va' (esJ.length + 1) vc')) P O1 pgs5 := hp6.of_blocks (fun b hb => by
    have h1 := hp6.lts b hb
    rw [Below.heap_setCell _ ⟨g, _, none⟩ _ b (fun e => hnO1 g hgw hgJ (by rw [← show b = g from e]; exact hb))]
    exact (hk'.block b (by omega) (fun hm => hnO1 b (hvl6 b (Option.mem_toList.1 hm)).2.2 (hvO b (Option.mem_toList.1 hm)) hb)).trans (hb7.block b h1))
   have htr8 : TrI (w1.setCell ⟨g, sts.length * 4 + 1 + 1, none⟩ (.slice va' (esJ.length + 1) vc')) P tb := (hbase tb htb).trans ht6
   have hto8 : tb ∉ O1 := hg5'.out htb hto
   have hlaid : Laid (pg pgsJ) k v x (pg pgs5) := by
    rcases hx5 with ⟨h1, h2, _, h3⟩ | ⟨h1, p, h2, h3, h4, h5, _⟩
    ·exact .inl ⟨h1, h2, by rw [h3]⟩
    ·exact .inr ⟨h1, p, h2, h3, h4, h5⟩
   have hs58 : somes pgs5 ≤ somes pgs + 1 := by
    rcases hx5 with ⟨_, _, _, h3⟩ | ⟨_, p, _, _, _, _, h6⟩
    ·rw [h3]; omega
    ·omega
   obtain ⟨g1, g2⟩ := cnt_split hnd.2.1.2 k
   have hgt := filter_gt hnd.2.1.2 k (hasB k es) (hasB_iff k es)
   have hb8 : ∀ y ∈ es.drop (cntE k es (hasB k es)), k < y.key := fun y hy => by
    rw [← hgt] at hy
    simpa using (List.mem_filter.1 hy).2
   obtain ⟨hH8, hF8⟩ := hHJ.put hesJ hlaid hkl hvl g1 hb8 hin
   have hnB : nB (es.take (cnt k es) ++ x :: es.drop (cntE k es (hasB k es))) ≤ 302 := by
    have h1 := rightE_enB (hlaid.right hkl).1
    have h2 := hnd.2.2
    have h3 : nB (es.take (cnt k es)) + nB (es.drop (cntE k es (hasB k es))) ≤ nB es := by
     have := nB_take_drop es (cnt k es)
     have h4 : nB (es.drop (cntE k es (hasB k es))) ≤ nB (es.drop (cnt k es)) := by
      unfold cntE
      split
      ·have := nB_take_drop (es.drop (cnt k es)) 1
       rw [List.drop_drop] at this
       omega
      ·exact Nat.le_refl _
     omega
    rw [nB_append, nB_cons]
    simp only at h2
    omega
   have hsst := hH8.sst (by simp) hnB
   have hset := settle_any (up := up) htb htr8 hto8 hp8 hI8 hLJ.fms ⟨fun b hb => by
     have e : some g = some b := hb
     injection e with e
     rw [← e]; exact hnO1 g hgw hgJ, fun s hs b hb => by
     rcases List.mem_append.1 hs with hs | hs
     ·exact hnO1 b (hrows s hs b hb).1 (hrows s hs b hb).2
     ·rw [List.mem_singleton.1 hs] at hb
      rcases hat' b hb with h | h
      ·exact hnO1 b (hvl6 b h).2.2 (hvO b h)
      ·intro hm
       have := hp6.lts b hm
       omega⟩ (by omega) hsst (by omega) (by omega)
   have HSET := hid hset
   have HZ := hid (⟨hH8, hF8, hlaid, hk8, hto8, htr8⟩ : _ ∧ _ ∧ _ ∧ _ ∧ _ ∧ _)
   clear hm ht hto hN2 hlt htb hkl hvl hD hul hE hsid hnd hin hlen hsl hcap hH hLJ hHJ hesJ hFJ hsmJ hxk5 hx5 hp6 hk06 ht6 hg5' hway6 hrowJ hs6 hg5w hgw hlJ hvl6 hins hszw h7s h17s hI7 hls hI8 hblk hbase hk8 hnO1 hvO hgJ hrows hp8 htr8 hto8 hlaid hs58 g1 g2 hgt hb8 hH8 hF8 hnB hsst hset hsz8 hat' ho' hk' hb7
   go_wp2_with fail
   (with_reducible refine HSET.out.mono ?_)
   rintro e W9 ⟨O', pgs', D', ps', rfl, hp9, hsd9, hkb9, hgr9, hs9⟩
   have fin : ∃ O', TreeI W9 P O' tb (N + 1) (setM (kvs (pg pgs) E) k v) ∧ Kp O w W9 ∧ Gr O w.heap.size O' := by
    obtain ⟨hH8, hF8, hlaid, hk8, hto8, htr8⟩ := HZ.out
    obtain ⟨hLJ, hHJ, hesJ, hFJ, hsmJ⟩ := HJ.out
    obtain ⟨hm, ht, hto, hN2, hlt, htb, hkl, hvl, hD⟩ := HX.out
    obtain ⟨hul, hE, hsid, hnd, hin, hlen, hsl, hcap, hH⟩ := HY.out
    obtain ⟨hxk5, hx5, hp6, hk06, ht6, hg5', _⟩ := HR6.out
    rw [Nat.zero_add] at hsd9
    obtain ⟨hM9, hF9⟩ := hH8.done hsd9
    have hkv := kvs_set (m := pg pgs) hE hsid.1 hsid.2 hnd.2.1.2 (hasB_iff k es) (fun r hr => (hF8 r hr).trans (hFJ r (by rw [hesJ]; exact hr))) hF9 (hlaid.kv hvl)
    exact ⟨O', ⟨pgs', D', _, ps', hp9, (hkb9.block tb htb hto8).trans htr8, hgr9.out (Blk.lt htr8) hto8, hM9, by omega, hkv⟩, (hk8.trans_gr hg5' (Nat.le_refl _) hkb9).to_kp, hg5'.trans hgr9 hk8.size⟩
   have FIN := hid fin
   clear fin hp9 hsd9 hkb9 hgr9 hs9
   go_wp2
   go_ret
   obtain ⟨O', h1, h2, h3⟩ := FIN.out
   exact ⟨O', rfl, h1, h2, h3⟩
end
end
end Go.Proofs.YtnnghcooidjlhaaGreat
