/- Parts of the proof: Jk Jl Md. -/
import Derived.Laws.EntriesVeiled
import Derived.Test.YtnnghcooidjlhaaGreatD24
set_option linter.all false
set_option maxRecDepth 100000
namespace Go.Proofs.YtnnghcooidjlhaaGreat
section
open Go.RowKit Go.Lib
theorem chs_take {cs : List Ch} {j : Nat} {c : Ch} (h : cs[j]? = some c) : cs.take (j + 1) = cs.take j ++ [c] := by rw [List.take_add_one, h]; rfl
theorem chEs_take {cs : List Ch} {j : Nat} {c : Ch} (h : cs[j]? = some c) : chEs (cs.take (j + 1)) = chEs (cs.take j) ++ c.es := by rw [chs_take h]; simp
theorem chPs_take {cs : List Ch} {j : Nat} {c : Ch} (h : cs[j]? = some c) : chPs (cs.take (j + 1)) = chPs (cs.take j) ++ c.ps := by rw [chs_take h]; simp
theorem chEs_drop {cs : List Ch} (j : Nat) : chEs (cs.take j) ++ chEs (cs.drop j) = chEs cs := by rw [← chEs_append, List.take_append_drop]
theorem chPs_drop {cs : List Ch} (j : Nat) : chPs (cs.take j) ++ chPs (cs.drop j) = chPs cs := by rw [← chPs_append, List.take_append_drop]
section
variable {P : PL} {O : List Nat} {tb : Nat} {pgs : List (Option Bs)} {i : Ei} {fr to : Bs} {df : Nat} {caps : Array Value} {more : List En → Bool} {R : List En → World → List Nat → Prop}
set_option maxHeartbeats 80000000 in
theorem walk_inner (hDo : DoI more df caps R) (hs : Sep i tb O) {d : Nat} (IH : ∀ {W : World} {Z : List Nat} {s q dp : Nat} {es xs : List En} {psl : List PN}, EW P O tb pgs i fr to df caps W Z s → R xs W Z → Rep (pg pgs) d q es psl → d < dp → dp ≤ 16 → s + psl.length ≤ 512 → xs.length + es.length ≤ 90000 →
      Calls Tryz.prog 206 (#[.int .i64 q, .int .i64 dp] ++ i.caps) W fun e w' => WalkPost P O tb pgs i fr to df caps more R W Z s psl.length xs es e w')
  {W : World} {Z : List Nat} {s q dp : Nat} {xs : List En} {cs : List Ch} (hW : EW P O tb pgs i fr to df caps W Z s) (hR : R xs W Z) (hn : NdAt (pg pgs) q ⟨false, cs.map Ch.en⟩) (hcn : cs ≠ []) (hcf : FirstE cs) (hco : ChOk cs) (hcr : ∀ c ∈ cs, Rep (pg pgs) d c.page c.es c.ps)
  (hdp : d < dp) (hdp2 : dp + 1 ≤ 16) (hs2 : s + 1 + (chPs cs).length ≤ 512) (hx : xs.length + (chEs cs).length ≤ 90000) :
  Calls Tryz.prog 206 (#[.int .i64 q, .int .i64 ((dp : Int) + 1)] ++ i.caps) W fun e w' => WalkPost P O tb pgs i fr to df caps more R W Z s (1 + (chPs cs).length) xs (chEs cs) e w' := by
 have hlen : cs.length ≤ 40 := by have := leaf_len hn.2.2; simpa using this
 obtain ⟨nl, hnl⟩ : ∃ nl, nl = cs.length := ⟨_, rfl⟩
 have hml : (cs.map Ch.en).length = nl := by rw [hnl]; simp
 have HNL := hid hnl
 rw [← hnl] at hlen
 have s0 : W.cell? ⟨i.sb, 0, none⟩ = some (.int .i64 s) := hW.sn.cell 0
 have sf := hW.sn.frozen 0
 have hsl := hW.sn.lt
 have hso : (s : Int) + 1 ≤ 512 := by omega
 have hdn : ¬ ((dp : Int) + 1 = 0) := by omega
 have hdi : (dp : Int) + 1 ≤ 16 := by omega
 have hso2 : ¬ (512 < (s : Int) + 1) := by omega
 have hkA : Kp (i.sb :: (Z ++ O)) W (W.setCell ⟨i.sb, 0, none⟩ (.int .i64 ((s : Int) + 1))) := (Kp.refl _ W).setCell (.inl (by simp)) _
 have hnA := hW.sn.set_ 0 (.int .i64 ((s : Int) + 1))
 have hpA : PoI (W.setCell ⟨i.sb, 0, none⟩ (.int .i64 ((s : Int) + 1))) P O pgs := hW.hp.of_blocks (fun b hb => Below.heap_setCell W ⟨i.sb, 0, none⟩ _ b (fun e => hs.s.1 (by rw [← show b = i.sb from e]; exact hb)))
 have hWA : EW P O tb pgs i fr to df caps (W.setCell ⟨i.sb, 0, none⟩ (.int .i64 ((s : Int) + 1))) Z (s + 1) := hW.step hs hkA hpA (by simpa using hnA) (Gr.refl _ _) (fun z hz => by have := (hW.dj z hz).1; simpa [World.setCell] using this)
 have c1 := hWA.ev.t
 have HRD := hid (read_any hWA.ht hWA.hp (pg_some.1 hn.1) hn.2.1 hn.2.2)
 obtain ⟨L, c0, Rr, hspl, hLl, hck, hcR⟩ := leads_split hcn hcf hn.2.1.2 fr
 have HX := hid (⟨hW, hR, hWA, hkA, hs, hDo, hx, hlen, hn.2.1.2⟩ : _ ∧ _ ∧ _ ∧ _ ∧ _ ∧ _ ∧ _ ∧ _ ∧ _)
 have HC := hid (⟨hcf, hco, hcr, hdp, hdp2, hs2, hspl, hck, hcR⟩ : _ ∧ _ ∧ _ ∧ _ ∧ _ ∧ _ ∧ _ ∧ _ ∧ _)
 have HLL := hid hLl
 have HIH := hid (fun (W : World) (Z : List Nat) (s q : Nat) (es xs : List En) (psl : List PN) (h1 : EW P O tb pgs i fr to df caps W Z s) (h2 : R xs W Z) (h3 : Rep (pg pgs) d q es psl) (h6 : s + psl.length ≤ 512) (h7 : xs.length + es.length ≤ 90000) => IH (dp := dp) h1 h2 h3 hdp (by omega) h6 h7)
 have hcpos : 0 < nl := by rw [hnl]; exact List.length_pos_iff.2 hcn
 clear hDo hs hW hR hn hs2 hx hlen hkA hnA hpA hWA hcf hco hcr hdp hdp2 hspl hck hcR IH hLl hnl hcn
 unfold Ei.caps
 go_enter Tryz.func206, Tryz.ntmps206
 go_wp2_with fail
 (with_reducible refine HRD.out.mono ?_)
 rintro e W1 ⟨v1, rfl, hO1, hk1, hp1⟩
 unfold ndV
 obtain ⟨hW, hR, hWA, hkA, hs, hDo, hx, hlen, hasc⟩ := HX.out
 rw [hml] at hO1
 obtain ⟨g1, c1', rfl, hg11, hg12, _⟩ := own_form hO1 hcpos
 have hg11 : W.heap.size ≤ g1 := by simpa [World.setCell] using hg11
 have hk01 : Kp (i.sb :: (Z ++ O)) W W1 := hkA.trans (hk1.mono (fun x hx => .inl (by simp [hx])))
 have hsz01 := hk01.size
 have hn1 : Blk W1 i.sb 3 #[.int .i64 ((s + 1 : Nat) : Int)] := hWA.sn.kp hk1 hs.s.1
 have hW1 : EW P O tb pgs i fr to df caps W1 Z (s + 1) := hW.step hs hk01 hp1 hn1 (Gr.refl _ _) (fun z hz => by have := (hW.dj z hz).1; omega)
 have hR1 : R xs W1 Z := hDo.keep _ _ _ _ hR (fun b hb => by
  rw [hk1.block b (by have := (hWA.dj b hb).1; exact this) (hW.dj b hb).2.1]
  exact Below.heap_setCell W ⟨i.sb, 0, none⟩ _ b (hW.dj b hb).2.2.1)
 obtain ⟨WN, hWN⟩ : ∃ WN, WN = W1.alloc (.cells #[.bool false, .slice (some ⟨g1, 0, none⟩) nl c1'] 292) := ⟨_, rfl⟩
 have hb2 : Below W1.heap.size W1 WN := by rw [hWN]; exact (Below.refl _ W1).alloc (Nat.le_refl _) _
 have hN2 : Blk WN W1.heap.size 292 #[.bool false, .slice (some ⟨g1, 0, none⟩) nl c1'] := by rw [hWN]; exact Blk.new W1 _ _
 have hsN : WN.heap.size = W1.heap.size + 1 := by rw [hWN]; simp
 have hE2 : EnI WN (.slice (some ⟨g1, 0, none⟩) nl c1') (cs.map Ch.en) := by
  have := (EnI.of_own (l := cs.map Ch.en) (v := .slice (some ⟨g1, 0, none⟩) nl c1') (by rw [hml]; exact hO1)).below hb2
  exact this
 have HBL := hid (below_any (w := WN) (leaf := false) (l := cs.map Ch.en) hasc hE2 (by rw [hml]; omega) fr)
 rw [belowN_eq, ← HLL.out] at HBL
 unfold ndV at HBL
 have hI0 := hW1.quiet hb2
 have hR0 : R xs WN Z := hDo.keep _ _ _ _ hR1 (fun b hb => hb2.block b (hDo.lts _ _ _ hR1 b hb))
 have c2 : WN.cell? ⟨i.fb, 0, none⟩ = some (.string (S fr)) := hI0.ev.f
 have n0 : WN.cell? ⟨W1.heap.size, 0, none⟩ = some (.bool false) := hN2.cell 0
 have n1 : WN.cell? ⟨W1.heap.size, 1, none⟩ = some (.slice (some ⟨g1, 0, none⟩) nl c1') := hN2.cell 1
 have hltN := hN2.lt
 have HN := hid (⟨hN2, hE2, hsz01, hg11, hg12, hsN, hI0, hR0, hk01.trans (Kp.of_below hb2)⟩ : _ ∧ _ ∧ _ ∧ _ ∧ _ ∧ _ ∧ _ ∧ _ ∧ _)
 have hlI : (nl : Int) ≤ 40 := by omega
 have HWN := hid hWN
 have n0' : (W1.alloc (.cells #[.bool false, .slice (some ⟨g1, 0, none⟩) nl c1'] 292)).cell? ⟨i.fb, 0, none⟩ = some (.string (S fr)) := hWN ▸ c2
 clear hW hR hWA hkA hs hDo hx hlen hasc hO1 hk1 hp1 hk01 hsz01 hn1 hW1 hR1 hb2 hN2 hE2 s0 sf hsl hg11 hg12 hsN hI0 hR0 hWN hml
 go_wp2_with fail
 rw [← HWN.out]
 (with_reducible refine HBL.out.mono ?_)
 rintro e W3 ⟨rfl, hb3⟩
 obtain ⟨hN2, hE2, hsz01, hg11, hg12, hsN, hI0, hR0, hkN⟩ := HN.out
 have hDo := HX.out.2.2.2.2.2.1
 have HI0 : Hid (EW P O tb pgs i fr to df caps W3 Z (s + 1) ∧ R xs W3 Z ∧ Kp (i.sb :: (Z ++ O)) W W3 ∧ Gr Z (W1.heap.size + 1) Z ∧ Went more fr to xs (chEs (cs.take 0)) true xs ∧ xs.length ≤ xs.length + (chEs (cs.take 0)).length ∧ s + 1 ≤ s + 1 + (chPs (cs.take 0)).length) :=
  hid ⟨hI0.quiet hb3, hDo.keep _ _ _ _ hR0 (fun b hb => hb3.block b (hDo.lts _ _ _ hR0 b hb)), hkN.trans (Kp.of_below hb3), Gr.refl _ _, by simpa using Went.nil xs, Nat.le_add_right _ _, Nat.le_add_right _ _⟩
 have HB0 := hid (⟨hN2.below hb3 hN2.lt, hE2.below hb3⟩ : Blk W3 W1.heap.size 292 #[.bool false, .slice (some ⟨g1, 0, none⟩) nl c1'] ∧ EnI W3 (.slice (some ⟨g1, 0, none⟩) nl c1') (cs.map Ch.en))
 have n1' : W3.cell? ⟨W1.heap.size, 1, none⟩ = some (.slice (some ⟨g1, 0, none⟩) nl c1') := HB0.out.1.cell 1
 clear hN2 hE2 hsz01 hg11 hg12 hsN hI0 hR0 hkN hDo hb3 n0 n1 c2 n0'
 go_wp2
 go_loopg [45] nl (fun gg s45 wr => ∃ (j : Nat) (ys : List En) (Zr : List Nat) (sj : Nat), j ≤ nl ∧ nl - j ≤ gg ∧ s45 = .int .i64 j ∧ Hid (EW P O tb pgs i fr to df caps wr Zr sj ∧ R ys wr Zr ∧ Kp (i.sb :: (Z ++ O)) W wr ∧ Gr Z (W1.heap.size + 1) Zr ∧ Went more fr to xs (chEs (cs.take j)) true ys ∧ ys.length ≤ xs.length + (chEs (cs.take j)).length ∧ sj ≤ s + 1 + (chPs (cs.take j)).length) ∧ Hid (Blk wr W1.heap.size 292 #[.bool false, .slice (some ⟨g1, 0, none⟩) nl c1'] ∧ EnI wr (.slice (some ⟨g1, 0, none⟩) nl c1') (cs.map Ch.en)))
 case atStart => exact ⟨0, xs, Z, s + 1, Nat.zero_le _, by omega, rfl, HI0, HB0⟩
 case round =>
  obtain ⟨j, ys, Zr, sj, hj, hgg, rfl, HI, HB⟩ := hrel
  by_cases hje : j < nl
  ·obtain ⟨c, hx⟩ : ∃ c, cs[j]? = some c := ⟨_, List.getElem?_eq_getElem (by rw [← HNL.out]; exact hje)⟩
   obtain ⟨hE, hR, hkp, hgr, hwent, hys, hsj⟩ := HI.out
   obtain ⟨hN, hEn⟩ := HB.out
   obtain ⟨hW, zz1, zz2, zz3, hs, hDo, hxl, zz4, hasc⟩ := HX.out
   clear zz1 zz2 zz3 zz4
   obtain ⟨hcf, hco, hcr, hdp, hdp2, hs2, hspl, hck, hcR⟩ := HC.out
   obtain ⟨g2, o1, c2, e1, e2, hg1, hA1⟩ := hEn.form (by simp; exact fun e => by rw [HNL.out, e] at hje; simp at hje)
   injection e1 with e1 elen e3
   clear elen
   injection e1 with e1
   injection e1 with e1 e4 _
   subst e1 e3 e4
   obtain ⟨z0, z1, z2⟩ := hA1 j c.en (by simp [hx])
   rw [Nat.zero_add] at z0 z1 z2
   have m0 : wr.cell? ⟨g1, j * 3, none⟩ = some (.string (S c.key)) := z0
   have m1 : wr.cell? ⟨g1, j * 3 + 1, none⟩ = some (.string ⟨#[]⟩) := z1
   have m2 : wr.cell? ⟨g1, j * 3 + 2, none⟩ = some (.int .i64 c.page) := z2
   clear z0 z1 z2 e2
   have n0 : wr.cell? ⟨W1.heap.size, 0, none⟩ = some (.bool false) := hN.cell 0
   have c2 := hE.ev.f
   have c3 := hE.ev.o
   have c4 := hE.ev.k
   unfold Ei.caps at c4
   have hji : (j : Int) < (nl : Int) := by omega
   have hlt2 := block_lt_of_cell c2
   have hlt3 := block_lt_of_cell c3
   have hlt4 := block_lt_of_cell c4
   have hltN := hN.lt
   have htk := chEs_take hx
   have htp := chPs_take hx
   obtain ⟨wo, hwo⟩ : ∃ wo, wo = wr := ⟨_, rfl⟩
   subst hwo
   have hb3 : Below wo.heap.size wo (wo.alloc (.cells #[.string (S c.key), .string ⟨#[]⟩, .int .i64 c.page] 299)) := (Below.refl _ wo).alloc (Nat.le_refl _) _
   have hsz := hkp.size
   have hE3 := hE.quiet hb3
   have hR3 : R ys (wo.alloc (.cells #[.string (S c.key), .string ⟨#[]⟩, .int .i64 c.page] 299)) Zr := hDo.keep _ _ _ _ hR (fun b hb => hb3.block b (hDo.lts _ _ _ hR b hb))
   have hkp3 := hkp.trans (Kp.of_below hb3)
   have hN3 := hN.below hb3 hN.lt
   have hEn3 := hEn.below hb3
   have hcm : c ∈ cs := List.mem_of_getElem? hx
   have hdrop : cs.drop j = c :: cs.drop (j + 1) := by rw [List.drop_eq_getElem_cons (by rw [← HNL.out]; exact hje), (List.getElem?_eq_some_iff.1 hx).2]
   have htot : (chEs cs).length = (chEs (cs.take j)).length + c.es.length + (chEs (cs.drop (j + 1))).length := by rw [← chEs_drop (cs := cs) (j + 1), htk, List.length_append, List.length_append]
   have htop : (chPs cs).length = (chPs (cs.take j)).length + c.ps.length + (chPs (cs.drop (j + 1))).length := by rw [← chPs_drop (cs := cs) (j + 1), htp, List.length_append, List.length_append]
   have hih := HIH.out _ Zr sj c.page c.es ys c.ps hE3 hR3 (hcr c hcm) (by omega) (by omega)
   have HCA := hid hih
   have hlL : Hid (j < L.length → ∀ x ∈ c.es, x.key < fr) := hid fun hjL x hxc => by
    have hcL : c ∈ L := by
     have : (L ++ c0 :: Rr)[j]? = some c := by rw [← hspl]; exact hx
     rw [List.getElem?_append_left hjL] at this
     exact List.mem_of_getElem? this
    have hpw := hco.2
    rw [hspl, List.pairwise_append] at hpw
    exact blt_of_lt_of_le (hpw.2.2 c hcL c0 (by simp) x hxc) hck
   have hge : Hid (∀ x ∈ chEs (cs.drop j), c.key ≤ x.key) := hid fun x hxm => by
    obtain ⟨c', hc', hxc⟩ := mem_chEs.1 hxm
    have hc'm : c' ∈ cs := List.mem_of_mem_drop hc'
    have h5 := (hco.1 c' hc'm).2 x hxc
    rw [hdrop] at hc'
    rcases List.mem_cons.1 hc' with rfl | hc'
    ·exact h5
    ·have h6 : (cs.map Ch.en).Pairwise fun a b => a.key < b.key := hasc
     rw [List.pairwise_map] at h6
     have h7 := h6.sublist (List.drop_sublist j cs)
     rw [hdrop, List.pairwise_cons] at h7
     exact ble_trans (ble_of_lt (h7.1 c' hc')) h5
   have hfirst : Hid (j = 0 → c.key = []) := hid fun h0 => hcf c (by rw [List.head?_eq_getElem?, ← h0]; exact hx)
   have hne : Hid (chEs (cs.drop j) ≠ []) := hid (by rw [hdrop, chEs_cons]; intro e; exact (hco.1 c hcm).1 (List.append_eq_nil_iff.1 e).1)
   have H3 := hid (⟨hE3, hR3, hkp3, hN3, hEn3, htk, htp, hb3, hsz, htot, htop⟩ : _ ∧ _ ∧ _ ∧ _ ∧ _ ∧ _ ∧ _ ∧ _ ∧ _ ∧ _ ∧ _)
   clear hE hR hkp hgr hwent hys hsj hN hEn hA1 hx htk htp hb3 hE3 hR3 hkp3 hN3 hEn3 hsz hW hs hDo hxl hasc hcf hco hcr hdp hdp2 hs2 hspl hck hcR hcm hdrop htot htop hih
   by_cases h1 : j < L.length
   ·have hb1 : (j : Int) < (L.length : Int) := by omega
    have H1 := hid h1
    go_wp2
    go_roundg (nl - (j + 1))
    case measure => omega
    case rel =>
     obtain ⟨hE, hR, hkp, hgr, hwent, hys, hsj⟩ := HI.out
     obtain ⟨hE3, hR3, hkp3, hN3, hEn3, htk, htp, hb3, hsz, htot, htop⟩ := H3.out
     refine ⟨j + 1, ys, Zr, sj, by omega, by omega, by go_num, hid ⟨hE3, hR3, hkp3, hgr, ?_, ?_, ?_⟩, hid ⟨hN3, hEn3⟩⟩
     ·rw [htk]
      exact hwent.step (Went.skip (hlL.out H1.out))
     ·rw [htk, List.length_append]; omega
     ·rw [htp, List.length_append]; omega
   ·have hb1 : ¬ ((j : Int) < (L.length : Int)) := by omega
    have hb1' : (L.length : Int) ≤ (j : Int) := by omega
    by_cases h2 : to ≠ [] ∧ ¬ c.key < to
    ·have hb2 : Op.bytesLess c.key to = false := by rw [bl]; exact decide_eq_false h2.2
     have hto := h2.1
     have htoe : to.isEmpty = false := by cases to with
      | nil => exact absurd rfl hto
      | cons a t => rfl
     have hj0 : 0 < j := Nat.pos_of_ne_zero fun e => by
      have := hfirst.out e
      rw [this] at h2
      cases to with
      | nil => exact hto rfl
      | cons a t => exact h2.2 (List.nil_lt_cons a t)
     have hj0i : (0 : Int) < (j : Int) := by omega
     have H2 := hid h2
     clear h2
     go_wp2
     go_ret2
     obtain ⟨hE, hR, hkp, hgr, hwent, hys, hsj⟩ := HI.out
     obtain ⟨hE3, hR3, hkp3, hN3, hEn3, htk, htp, hb3, hsz, htot, htop⟩ := H3.out
     refine ⟨false, ys, Zr, sj, rfl, hR3, ?_, hE3, by omega, hkp3, hgr.mono (by have := HN.out.2.2.1; omega), by omega⟩
     rw [← chEs_drop (cs := cs) j]
     exact hwent.step (Went.stop H2.out.1 hne.out (fun x hx hlt => H2.out.2 (blt_of_le_of_lt (hge.out x hx) hlt)))
    ·have h3 : to = [] ∨ (¬ to = [] ∧ c.key < to) := by
      by_cases e : to = []
      ·exact .inl e
      ·exact .inr ⟨e, Classical.byContradiction fun hn => h2 ⟨e, hn⟩⟩
     clear h2
     have hca := HCA.out
     unfold Ei.caps at hca
     have HCB : Hid (Calls Tryz.prog 206 #[.int .i64 c.page, .int .i64 dp, .pointer (some ⟨i.sb, 0, none⟩), .pointer (some ⟨i.xb, 0, none⟩), .pointer (some ⟨i.fb, 0, none⟩), .pointer (some ⟨i.ob, 0, none⟩), .pointer (some ⟨i.db, 0, none⟩), .pointer (some ⟨i.kb, 0, none⟩)] _ _) := hid hca
     clear hca
     rcases h3 with h3 | ⟨hto, h3⟩
     case' inr =>
      have hb2 : Op.bytesLess c.key to = true := by rw [bl]; exact decide_eq_true h3
      have htoe : to.isEmpty = false := by cases to with
       | nil => exact absurd rfl hto
       | cons a t => rfl
      clear h3
     all_goals
      go_wp2_with fail
      (with_reducible refine HCB.out.mono ?_)
      rintro e W4 ⟨b4, ys4, Z4, s4, rfl, hR4, hw4, hE4, hs4, hk4, hg4, hl4⟩
      obtain ⟨hE, hR, hkp, hgr, hwent, hys, hsj⟩ := HI.out
      obtain ⟨hE3, hR3, hkp3, hN3, hEn3, htk, htp, hb3, hsz, htot, htop⟩ := H3.out
      have hWdj := HX.out.1.dj
      have hWsb := HX.out.1.sn.lt
      have hOlt := HX.out.1.hp.lts
      obtain ⟨hN2, hE2, hsz01, hg11, hg12, hsN, hI0, hR0, hkN⟩ := HN.out
      have hnz : ∀ b, W.heap.size ≤ b → b < W1.heap.size + 1 → b ∉ i.sb :: (Zr ++ O) := fun b hb1 hb2 hm => by
       rcases List.mem_cons.1 hm with e | hm
       ·omega
       ·rcases List.mem_append.1 hm with hz | hz
        ·rcases hgr b hz with h | h
         ·have := (hWdj b h).1; omega
         ·omega
        ·have := hOlt b hz; omega
      have hgr4 : Gr Z (W1.heap.size + 1) Z4 := hgr.trans hg4 (by have := hN3.lt; omega)
      have hkp4 : Kp (i.sb :: (Z ++ O)) W W4 := hkp3.trans_gr (gr_own (hgr.mono (by omega))) hk4
      have hN4 := hN3.kp hk4 (hnz _ hsz01 (by omega))
      have hEn4 := hEn3.kp hk4 (fun b hb => hnz b (by
       have e : some g1 = some b := hb
       injection e with e
       omega) (by
       have e : some g1 = some b := hb
       injection e with e
       omega))
      have hw5 := hwent.step hw4
      rw [← htk] at hw5
      have hsz4 := hsz01
      have HF := hid (⟨hE4, hR4, hkp4, hgr4, hw5, hN4, hEn4, hys, hsj, hs4, hl4, htk, htp, htot, htop, hsz4⟩ : _ ∧ _ ∧ _ ∧ _ ∧ _ ∧ _ ∧ _ ∧ _ ∧ _ ∧ _ ∧ _ ∧ _ ∧ _ ∧ _ ∧ _ ∧ _)
      clear hR4 hk4 hg4 hw4 hE4 hs4 hl4 hE hR hkp hgr hwent hys hsj hE3 hR3 hkp3 hN3 hEn3 htk htp hb3 hsz htot htop hWdj hWsb hOlt hN2 hE2 hsz01 hg11 hg12 hsN hI0 hR0 hkN hnz hgr4 hkp4 hN4 hEn4 hw5 hsz4
      cases b4
      ·go_wp2
       go_ret2
       obtain ⟨hE4, hR4, hkp4, hgr4, hw5, hN4, hEn4, hys, hsj, hs4, hl4, htk, htp, htot, htop, hsz4⟩ := HF.out
       refine ⟨false, ys4, Z4, s4, rfl, hR4, ?_, hE4, by omega, hkp4, hgr4.mono (by omega), by omega⟩
       rw [← chEs_drop (cs := cs) (j + 1)]
       exact hw5.more_false
      ·go_wp2
       go_roundg (nl - (j + 1))
       case measure => omega
       case rel =>
        obtain ⟨hE4, hR4, hkp4, hgr4, hw5, hN4, hEn4, hys, hsj, hs4, hl4, htk, htp, htot, htop, hsz4⟩ := HF.out
        refine ⟨j + 1, ys4, Z4, s4, by omega, by omega, by go_num, hid ⟨hE4, hR4, hkp4, hgr4, hw5, ?_, ?_⟩, hid ⟨hN4, hEn4⟩⟩
        ·rw [htk, List.length_append]; omega
        ·rw [htp, List.length_append]; omega
  ·have hjl : j = nl := by omega
   have HJL := hid hjl
   have hjli : ¬ ((j : Int) < (nl : Int)) := by omega
   clear hjl
   go_wp2
   go_ret2
   obtain ⟨hE, hR, hkp, hgr, hwent, hys, hsj⟩ := HI.out
   have htl : cs.take j = cs := List.take_of_length_le (by rw [HJL.out, HNL.out]; exact Nat.le_refl _)
   rw [htl] at hwent hys hsj
   exact ⟨true, ys, Zr, sj, rfl, hR, hwent, hE, by omega, hkp, hgr.mono (by have := HN.out.2.2.1; omega), hys⟩
theorem walk_any (hDo : DoI more df caps R) (hs : Sep i tb O) : ∀ (d : Nat) {W : World} {Z : List Nat} {s q dp : Nat} {es xs : List En} {psl : List PN}, EW P O tb pgs i fr to df caps W Z s → R xs W Z → Rep (pg pgs) d q es psl → d < dp → dp ≤ 16 → s + psl.length ≤ 512 → xs.length + es.length ≤ 90000 →
      Calls Tryz.prog 206 (#[.int .i64 q, .int .i64 dp] ++ i.caps) W fun e w' => WalkPost P O tb pgs i fr to df caps more R W Z s psl.length xs es e w'
 | 0, W, Z, s, q, dp, es, xs, psl, hW, hR, hr, h1, h2, h3, h4 => by
  obtain ⟨hn, rfl⟩ := hr
  exact walk_leaf hDo hs hW hR hn h1 h2 (by simpa using h3) h4
 | d + 1, W, Z, s, q, dp, es, xs, psl, hW, hR, hr, h1, h2, h3, h4 => by
  obtain ⟨cs, hcn, hcf, hn, hco, hcr, rfl, rfl⟩ := hr
  obtain ⟨dp, rfl⟩ : ∃ k, dp = k + 1 := ⟨dp - 1, by omega⟩
  rw [List.length_cons] at h3 ⊢
  have := walk_inner (d := d) (dp := dp) hDo hs (fun {W Z s q dp es xs psl} a b c d e f g => walk_any hDo hs _ a b c d e f g) hW hR hn hcn hcf hco hcr (by omega) (by omega) (by omega) h4
  rw [Nat.add_comm 1] at this
  exact this
end
end
section
open Go.RowKit Go.Lib
section
variable {P : PL} {O : List Nat} {tb : Nat} {pgs : List (Option Bs)} {fr to : Bs} {df : Nat} {caps : Array Value} {more : List En → Bool} {R : List En → World → List Nat → Prop}
set_option maxHeartbeats 8000000 in
theorem each_any (hDo : DoI more df caps R) {W : World} {Z : List Nat} {d : Nat} {E : List En} {ps : List PN} (hp : PoI W P O pgs) (ht : TrI W P tb) (hto : tb ∉ O) (hr : Rep (pg pgs) d 0 E ps) (hd : d ≤ 15) (hR : R [] W Z) (hZ : ∀ z ∈ Z, z ∉ O ∧ z ≠ tb) (hps : ps.length ≤ 512) (hE : E.length ≤ 90000) :
  Calls Tryz.prog 173 #[.pointer (some ⟨tb, 0, none⟩), .string (S fr), .string (S to), .func (.func df) #[] caps] W fun e w' => ∃ Z', e = .returned (.int .i64 0) ∧ R (runF more fr to [] E) w' Z' ∧ PoI w' P O pgs ∧ TrI w' P tb ∧ Kp (Z ++ O) W w' ∧ Gr Z W.heap.size Z' ∧ ∀ z ∈ Z', z < w'.heap.size := by
 obtain ⟨W5, hW5⟩ : ∃ W5, W5 = ((((W.alloc (.cells #[.pointer (some ⟨tb, 0, none⟩)] 236)).alloc (.cells #[.string (S fr)] 9)).alloc (.cells #[.string (S to)] 9)).alloc (.cells #[.func (.func df) #[] caps] 306)).alloc (.cells #[.int .i64 0] 3) := ⟨_, rfl⟩
 obtain ⟨i, hi⟩ : ∃ i : Ei, i = ⟨W.heap.size + 1 + 1 + 1 + 1, W.heap.size, W.heap.size + 1, W.heap.size + 1 + 1, W.heap.size + 1 + 1 + 1, W.heap.size + 1 + 1 + 1 + 1 + 1⟩ := ⟨_, rfl⟩
 have hs5 : W5.heap.size = W.heap.size + 5 := by rw [hW5]; simp
 have hb5 : Below W.heap.size W W5 := by
  rw [hW5]
  exact (((((Below.refl _ W).alloc (Nat.le_refl _) _).alloc (by simp) _).alloc (by simp; omega) _).alloc (by simp; omega) _).alloc (by simp; omega) _
 obtain ⟨W6, hW6⟩ : ∃ W6, W6 = W5.alloc (.cells #[.func (.func 206) #[] i.caps] 340) := ⟨_, rfl⟩
 have hb6 : Below W.heap.size W W6 := by rw [hW6]; exact hb5.alloc (by omega) _
 have hs6 : W6.heap.size = W.heap.size + 6 := by rw [hW6]; simp; omega
 have e0 : W6.cell? ⟨W.heap.size, 0, none⟩ = some (.pointer (some ⟨tb, 0, none⟩)) := by rw [hW6, hW5]; simp [go_sem]
 have e1 : W6.cell? ⟨W.heap.size + 1, 0, none⟩ = some (.string (S fr)) := by rw [hW6, hW5]; simp [go_sem]
 have e2 : W6.cell? ⟨W.heap.size + 1 + 1, 0, none⟩ = some (.string (S to)) := by rw [hW6, hW5]; simp [go_sem]
 have e3 : W6.cell? ⟨W.heap.size + 1 + 1 + 1, 0, none⟩ = some (.func (.func df) #[] caps) := by rw [hW6, hW5]; simp [go_sem]
 have hn5 : Blk W5 (W.heap.size + 1 + 1 + 1 + 1) 3 #[.int .i64 ((0 : Nat) : Int)] := by
  rw [hW5]
  have := Blk.new ((((W.alloc (.cells #[.pointer (some ⟨tb, 0, none⟩)] 236)).alloc (.cells #[.string (S fr)] 9)).alloc (.cells #[.string (S to)] 9)).alloc (.cells #[.func (.func df) #[] caps] 306)) 3 #[.int .i64 0]
  simpa using this
 have hk6 : Blk W6 (W.heap.size + 1 + 1 + 1 + 1 + 1) 340 #[.func (.func 206) #[] i.caps] := by
  rw [hW6]
  have := Blk.new W5 340 #[.func (.func 206) #[] i.caps]
  rw [hs5] at this
  exact this
 have hEW : EW P O tb pgs i fr to df caps W6 Z 0 := by
  refine ⟨hp.below hb6, Blk.below ht hb6 (Blk.lt ht), ⟨by rw [hi]; exact e0, by rw [hi]; exact e1, by rw [hi]; exact e2, by rw [hi]; exact e3, ?_⟩, ?_, fun z hz => ⟨?_, (hZ z hz).1, ?_, ?_⟩⟩
  ·have := hk6.cell 0
   rw [hi] at this ⊢
   exact this
  ·rw [hi, hW6]; exact hn5.alloc _
  ·have := hDo.lts _ _ _ hR z hz; omega
  ·have := hDo.lts _ _ _ hR z hz; rw [hi]; show z ≠ W.heap.size + 1 + 1 + 1 + 1; omega
  ·have h1 := hDo.lts _ _ _ hR z hz
   have h2 := (hZ z hz).2
   rw [hi]
   simp only [Ei.l, List.mem_cons, List.not_mem_nil, or_false]
   omega
 have hlo := hp.lts
 have hSep : Sep i tb O := by
  have htl := Blk.lt ht
  refine ⟨⟨fun h => ?_, ?_⟩, fun b hb h => ?_⟩
  ·have := hlo _ h; rw [hi] at this; simp only at this; omega
  ·rw [hi]
   simp only [Ei.l, List.mem_cons, List.not_mem_nil, or_false]
   omega
  ·rw [hi] at hb
   simp only [Ei.l, List.mem_cons, List.not_mem_nil, or_false] at hb
   have := hlo b h
   rcases hb with rfl | hb
   ·exact hto h
   ·omega
 have hR6 : R [] W6 Z := hDo.keep _ _ _ _ hR (fun b hb => hb6.block b (hDo.lts _ _ _ hR b hb))
 have HC := walk_any hDo hSep d (q := 0) (dp := 16) hEW hR6 hr (by omega) (Nat.le_refl _) (by omega) (by simpa using hE)
 have HC' : Hid (Calls Tryz.prog 206 #[.int .i64 0, .int .i64 16, .pointer (some ⟨W.heap.size + 1 + 1 + 1 + 1, 0, none⟩), .pointer (some ⟨W.heap.size, 0, none⟩), .pointer (some ⟨W.heap.size + 1, 0, none⟩), .pointer (some ⟨W.heap.size + 1 + 1, 0, none⟩), .pointer (some ⟨W.heap.size + 1 + 1 + 1, 0, none⟩), .pointer (some ⟨W.heap.size + 1 + 1 + 1 + 1 + 1, 0, none⟩)] W6 _) := hid (by
  have h := HC
  unfold Ei.caps at h
  rw [hi] at h
  exact h)
 have hasc := hr.asc
 have HF := hid (⟨hb6, hDo, hr, hDo.lts, hlo, hs6⟩ : _ ∧ _ ∧ _ ∧ _ ∧ _ ∧ _)
 have HI := hid hi
 have HC2 := HC'.out
 obtain ⟨WX, hWX⟩ : ∃ WX, W6 = WX := ⟨_, rfl⟩
 have HWY := hid hWX
 have hsb : i.sb = W.heap.size + 1 + 1 + 1 + 1 := by rw [hi]
 rw [hW6, hW5, hi] at HC2 hWX
 unfold Ei.caps at hWX
 simp only at hWX
 have HWX := hid hWX
 unfold Ei.caps at HC2
 simp only at HC2
 have HC3 := hid HC2
 have HZ := hid (⟨hZ, hR, hlo, hp.lts, hasc⟩ : _ ∧ _ ∧ _ ∧ _ ∧ _)
 clear hWX hasc hsb hp ht hto hd hR hZ hps hE hb5 hs5 hn5 hk6 hEW hlo hSep hR6 HC hr e1 e2 e3 e0 hb6 hs6 HC2 HC'
 clear hW6 hW5 hi
 go_enter Tryz.func173, Tryz.ntmps173
 go_wp2_with fail
 (with_reducible refine HC3.out.mono ?_)
 rintro e W7 ⟨b, ys, Z7, s7, rfl, hR7, hw7, hE7, _, hk7, hg7, _⟩
 rw [HWX.out, ← HWY.out] at hk7 hg7
 have hfin : R (runF more fr to [] E) W7 Z7 ∧ PoI W7 P O pgs ∧ TrI W7 P tb ∧ Kp (Z ++ O) W W7 ∧ Gr Z W.heap.size Z7 ∧ ∀ z ∈ Z7, z < W7.heap.size := by
  obtain ⟨hb6, hDo, hr, hlts, hlo, hs6⟩ := HF.out
  obtain ⟨hZ, hR, _, _, hasc⟩ := HZ.out
  rw [hw7.all hasc]
  refine ⟨hR7, hE7.hp, hE7.ht, ?_, hg7.mono (by omega), fun z hz => (hE7.dj z hz).1⟩
  exact ((Kp.of_below hb6).trans_gr (fun x hx => by
   rcases List.mem_cons.1 hx with e | hx
   ·exact .inr (by simp only at e; omega)
   ·exact .inl hx) hk7)
 have HFIN := hid hfin
 clear hR7 hw7 hE7 hk7 hg7 hfin
 go_wp2
 go_ret
 exact ⟨Z7, rfl, HFIN.out⟩
end
end
section
open Go.RowKit Go.Lib
theorem rep_len {m : Mp} : ∀ {d q : Nat} {es : List En} {ps : List PN}, Rep m d q es ps → es.length ≤ 40 * ps.length
 | 0, q, es, ps, ⟨hn, h⟩ => by
  subst h
  have := leaf_len hn.2.2
  simpa using this
 | d + 1, q, es, ps, ⟨cs, _, _, _, _, hr, he, hp⟩ => by
  subst he hp
  have key : ∀ l : List Ch, (∀ c ∈ l, c ∈ cs) → (chEs l).length ≤ 40 * (chPs l).length := fun l => by
   induction l with
   | nil => simp
   | cons c t ih =>
    intro hl
    have h1 := rep_len (hr c (hl c (by simp)))
    have h2 := ih (fun x hx => hl x (by simp [hx]))
    rw [chPs_cons, chEs_cons, List.length_append, List.length_append]
    omega
  have h1 := key cs (fun _ h => h)
  rw [List.length_cons]
  omega
theorem MapI.small {w : World} {P : PL} {O : List Nat} {pgs : List (Option Bs)} {D N : Nat} {E : List En} {ps : List PN} (h : MapI (pg pgs) D E ps N) (hp : PoI w P O pgs) : ps.length ≤ 512 ∧ E.length ≤ 20480 := by
 have h1 : (pgsOf ps).length ≤ (List.range 512).length := nodup_sub_len ((nodup_app.1 h.nd).1) fun r hr => by
  obtain ⟨x, hx, rfl⟩ := List.mem_map.1 hr
  obtain ⟨b, hb⟩ := h.rep.alloc x hx
  have h2 := (List.getElem?_eq_some_iff.1 (pg_some.1 hb)).1
  have h3 := hp.len
  exact List.mem_range.2 (by omega)
 have h2 := rep_len h.rep
 simp [pgsOf] at h1
 omega
def pairC (a : KV) : List Value := [.string (S a.1), .string (S a.2)]
theorem pairC_len (a : KV) : (pairC a).length = 2 := rfl
theorem pairC_one (a : KV) : ∀ u ∈ pairC a, u.oneCell' = true := by
 intro u hu
 simp [pairC] at hu
 rcases hu with rfl | rfl <;> rfl
theorem infPair : (Tryz.prog.info? 168).map (fun i => (i.zero, i.size, i.bytes)) = some (some (.agg #[.string ⟨#[]⟩, .string ⟨#[]⟩]), 2, 32) := by kernel_rfl
def scanM (M : List KV) (fr to : Bs) (n : Int) : List KV := (M.filter (fun a => inR fr to a.1)).take n.toNat
theorem scan_kvs {m : Mp} {E : List En} (fr to : Bs) (n : Int) : kvs m ((E.filter (fun x => inR fr to x.key)).take n.toNat) = scanM (kvs m E) fr to n := by
 unfold scanM
 rw [← kvs_filter m E (inR fr to)]
 unfold kvs
 rw [List.map_take]
section
variable {w : World} {P : PL} {O : List Nat} {tb N : Nat} {M : List KV}
set_option maxHeartbeats 8000000 in
theorem tscan_any (h : TreeI w P O tb N M) (fr to : Bs) (n : Int) :
  Calls Tryz.prog 137 #[.pointer (some ⟨tb, 0, none⟩), .string (S fr), .string (S to), .int .i64 n] w fun e w' => ∃ v, e = .returned (.tuple #[v, .int .i64 0]) ∧ TreeI w' P O tb N M ∧ Kp O w w' ∧ w'.ownsRow w.heap.size 168 2 v (scanM M fr to n).length (rowV pairC (scanM M fr to n)) := by
 obtain ⟨pgs, D, E, ps, hp, ht, hto, hm, hN, rfl⟩ := h
 have hD := hm.deep (by omega)
 obtain ⟨hps, hE⟩ := hm.small hp
 obtain ⟨W2, hW2⟩ : ∃ W2, W2 = (w.alloc (.cells #[.int .i64 n] 3)).alloc (.cells #[.slice none 0 0] 290) := ⟨_, rfl⟩
 have hs2 : W2.heap.size = w.heap.size + 2 := by rw [hW2]; simp
 have hb2 : Below w.heap.size w W2 := by
  rw [hW2]
  exact ((Below.refl _ w).alloc (Nat.le_refl _) _).alloc (by simp) _
 have hR : ScR n (w.heap.size + 1) w.heap.size [] W2 [w.heap.size + 1, w.heap.size] := by
  refine ⟨by omega, .slice none 0 0, ?_, ?_, ⟨by simp, .inl ⟨rfl, by simp⟩⟩, rfl⟩
  ·rw [hW2]
   have := Blk.new (w.alloc (.cells #[.int .i64 n] 3)) 290 #[.slice none 0 0]
   simpa using this
  ·rw [hW2]
   exact (Blk.new w 3 #[.int .i64 n]).alloc _
 have hp2 := hp.below hb2
 have ht2 : TrI W2 P tb := Blk.below ht hb2 (Blk.lt ht)
 have HE := hid (each_any (fr := fr) (to := to) (scan_do n (w.heap.size + 1) w.heap.size) hp2 ht2 hto hm.rep (by omega) hR (fun z hz => by
  simp only [List.mem_cons, List.not_mem_nil, or_false] at hz
  have := Blk.lt ht
  refine ⟨fun hm => ?_, ?_⟩
  ·have := hp.lts z hm; omega
  ·omega) hps (by omega))
 rw [hW2] at HE
 have HX := hid (⟨hp, ht, hto, hm, hN, hE, hb2, hs2⟩ : _ ∧ _ ∧ _ ∧ _ ∧ _ ∧ _ ∧ _ ∧ _)
 have HW2 := hid hW2
 clear hp ht hto hm hN hD hps hE hb2 hs2 hR hp2 ht2 hW2
 go_enter Tryz.func137, Tryz.ntmps137
 go_wp2_with fail
 (with_reducible refine HE.out.mono ?_)
 rintro e W3 ⟨Z3, rfl, hR3, hp3, ht3, hk3, hg3, hz3⟩
 obtain ⟨hnl, v3, hL3, hN3, hO3, rfl⟩ := hR3
 obtain ⟨hp, ht, hto, hm, hN, hE, hb2, hs2⟩ := HX.out
 rw [← HW2.out] at hk3 hg3
 rw [runF_take n hm.rep.asc, List.nil_append] at hO3
 obtain ⟨l, hl⟩ : ∃ l, l = (E.filter (fun x => inR fr to x.key)).take n.toNat := ⟨_, rfl⟩
 rw [← hl] at hO3
 have hlm : ∀ x ∈ l, x ∈ E := fun x hx => by
  rw [hl] at hx
  exact (List.mem_filter.1 (List.mem_of_mem_take hx)).1
 have hll : l.length ≤ 20480 := by
  rw [hl]
  have h1 := List.length_take_le' n.toNat (E.filter (fun x => inR fr to x.key))
  have h2 := List.length_filter_le (fun x => inR fr to x.key) E
  omega
 have hsc : kvs (pg pgs) l = scanM (kvs (pg pgs) E) fr to n := by rw [hl]; exact scan_kvs fr to n
 obtain ⟨nl, hnl2⟩ : ∃ nl, nl = l.length := ⟨_, rfl⟩
 rw [← hnl2] at hO3
 obtain ⟨a3, c3, rfl⟩ := own_slice2 hO3
 have hk03 : Kp O w W3 := ((Kp.of_below hb2).trans_gr (O' := [w.heap.size + 1, w.heap.size] ++ O) (fun x hx => by
  rcases List.mem_append.1 hx with hx | hx
  ·simp only [List.mem_cons, List.not_mem_nil, or_false] at hx
   exact .inr (by omega)
  ·exact .inl hx) hk3)
 have hE3 : EnI W3 (.slice a3 nl c3) l := by
  have := EnI.of_own (l := l) (v := .slice a3 nl c3) (by rw [← hnl2]; exact hO3)
  exact this
 have l3 : W3.cell? ⟨w.heap.size + 1, 0, none⟩ = some (.slice a3 nl c3) := hL3.cell 0
 have HNL := hid hnl2
 have hli : (nl : Int) ≤ 20480 := by omega
 have HY := hid (⟨hlm, hll, hO3, hk03⟩ : _ ∧ _ ∧ _ ∧ _)
 have hblk : ∀ g, (Value.slice a3 nl c3).ownBlock = some g → w.heap.size ≤ g ∧ g < W3.heap.size := fun g hg => by
  have := hO3.lt g hg
  omega
 obtain ⟨b3, hb3⟩ : ∃ b3, b3 = W3.heap.size := ⟨_, rfl⟩
 rw [← hb3] at hblk
 have hwb : w.heap.size ≤ b3 := by rw [hb3]; exact hk03.size
 have HB := hid (⟨hblk, hwb, hp.lts⟩ : _ ∧ _ ∧ _)
 have HI0 : Hid (PoI W3 P O pgs ∧ TrI W3 P tb ∧ Kp O w W3 ∧ EnI W3 (.slice a3 nl c3) l ∧ W3.ownsRow b3 168 2 (.slice none 0 0) 0 (rowV pairC (kvs (pg pgs) (l.take 0))) ∧ b3 ≤ W3.heap.size) := hid ⟨hp3, ht3, hk03, hE3, ⟨by rfl, .inl ⟨rfl, rfl⟩⟩, by omega⟩
 have HF : Hid (∀ W v, PoI W P O pgs → TrI W P tb → Kp O w W → W.ownsRow b3 168 2 v nl (rowV pairC (kvs (pg pgs) (l.take nl))) → TreeI W P O tb N (kvs (pg pgs) E) ∧ Kp O w W ∧ W.ownsRow w.heap.size 168 2 v (scanM (kvs (pg pgs) E) fr to n).length (rowV pairC (scanM (kvs (pg pgs) E) fr to n))) := hid fun W v h1 h2 h3 h4 => by
  rw [← hsc]
  rw [hnl2, List.take_length] at h4
  refine ⟨⟨pgs, D, E, ps, h1, h2, hto, hm, hN, rfl⟩, h3, ?_⟩
  have : (kvs (pg pgs) l).length = l.length := by simp [kvs]
  rw [this]
  exact own_base h4 hwb
 have HCH := hid (fun x (hx : x ∈ l) => hm.ch x (hlm x hx))
 have HTO := hid hto
 clear hL3 hN3 hO3 hp3 ht3 hk3 hg3 hz3 hnl hl hlm hll hsc hnl2 hk03 hE3 hp ht hto hm hN hE hb2 hs2 hb3 hwb hblk
 go_wp2
 go_loopg [12, 27] nl (fun gg s12 s27 wr => ∃ (j : Nat) (v : Value), j ≤ nl ∧ nl - j ≤ gg ∧ s27 = .int .i64 j ∧ s12 = v ∧ Hid (PoI wr P O pgs ∧ TrI wr P tb ∧ Kp O w wr ∧ EnI wr (.slice a3 nl c3) l ∧ wr.ownsRow b3 168 2 v j (rowV pairC (kvs (pg pgs) (l.take j))) ∧ b3 ≤ wr.heap.size))
 case atStart => exact ⟨0, _, Nat.zero_le _, by omega, rfl, rfl, HI0⟩
 case round =>
  obtain ⟨j, v, hj, hgg, rfl, rfl, HI⟩ := hrel
  by_cases hje : j < nl
  ·obtain ⟨x, hx⟩ : ∃ x, l[j]? = some x := ⟨_, List.getElem?_eq_getElem (by rw [← HNL.out]; exact hje)⟩
   obtain ⟨hpr, htr, hkr, hEr, hOr, hsr⟩ := HI.out
   obtain ⟨g1, o1, c1, e1, e2, hg1, hA1⟩ := hEr.form (by rintro rfl; simp at hx)
   injection e1 with e1 elen e3
   clear elen
   subst e1 e3
   obtain ⟨m0, m1, m2⟩ := hA1 j x hx
   have hji : (j : Int) < (nl : Int) := by omega
   obtain ⟨wo, hwo⟩ : ∃ wo, wo = wr := ⟨_, rfl⟩
   subst hwo
   have hbA : Below wo.heap.size wo (wo.alloc (.cells #[.string (S x.key), .string (S x.val), .int .i64 x.far] 299)) := (Below.refl _ wo).alloc (Nat.le_refl _) _
   have hpA := hpr.below hbA
   have htA : TrI _ P tb := Blk.below htr hbA (Blk.lt htr)
   have HV := hid (value_any htA HTO.out hpA (HCH.out x (List.mem_of_getElem? hx)))
   have hNA := Blk.new wo 299 #[.string (S x.key), .string (S x.val), .int .i64 x.far]
   unfold enV at HV
   have H1 := hid (⟨hx, hbA, hNA, htA⟩ : _ ∧ _ ∧ _ ∧ _)
   clear hpr htr hkr hEr hOr hsr hA1 hx hbA hpA htA hNA e2
   go_wp2_with fail
   (with_reducible refine HV.out.mono ?_)
   rintro e W4 ⟨rfl, hk4, hp4⟩
   obtain ⟨hx, hbA, hNA, htA⟩ := H1.out
   obtain ⟨hpr, htr, hkr, hEr, hOr, hsr⟩ := HI.out
   have hno : ∀ b, w.heap.size ≤ b → b ∉ O := fun b hb hm => by have := HB.out.2.2 b hm; omega
   have hkr4 : Kp O wo W4 := (Kp.of_below hbA).trans hk4
   have hN4 : Blk W4 wo.heap.size 299 #[.string (S x.key), .string (S x.val), .int .i64 x.far] := hNA.kp hk4 (hno _ (hkr.size))
   have k0 : W4.cell? ⟨wo.heap.size, 0, none⟩ = some (.string (S x.key)) := hN4.cell 0
   have hlt4 := hN4.lt
   have hE4 := hEr.kp hkr4 (fun b hb => hno b (HB.out.1 b hb).1)
   have hO4 := row_of hOr (fun b hb => hkr4.block b (hOr.lt b hb).2 (hno b (by have := (hOr.lt b hb).1; have := HB.out.2.1; omega)))
   have hk04 := hkr.trans hkr4
   have ht4 : TrI W4 P tb := Blk.kp htA hk4 HTO.out
   obtain ⟨y, hy⟩ : ∃ y, y = (kvOf (pg pgs) x).2 := ⟨_, rfl⟩
   rw [← hy]
   have hkv : kvs (pg pgs) (l.take (j + 1)) = kvs (pg pgs) (l.take j) ++ [(x.key, y)] := by
    rw [List.take_add_one, hx, kvs_append, hy]; rfl
   obtain ⟨av, cv, rfl⟩ := own_slice2 hO4
   have HF4 := hid (⟨hE4, hO4, hk04, ht4, hp4, hkv, hkr4.size⟩ : _ ∧ _ ∧ _ ∧ _ ∧ _ ∧ _ ∧ _)
   clear hx hbA hNA htA hpr htr hkr hEr hOr hsr hno hkr4 hN4 hE4 hO4 hk04 ht4 hkv hk4 hp4 hy
   go_wp2_with (with_reducible refine stopAt .append rfl ?_)
   with_reducible refine goOn ?_
   obtain ⟨hE4, hO4, hk04, ht4, hp4, hkv, _⟩ := HF4.out
   have hsz4 : b3 ≤ W4.heap.size := Nat.le_trans HI.out.2.2.2.2.2 HF4.out.2.2.2.2.2.2
   refine app_one rfl _ _ 174 rfl pairC infPair Tryz.underlying174 rfl (by decide) (by decide) pairC_len pairC_one (x.key, y) hO4 (by omega) hsz4 rfl rfl ?_
   intro v' W5 hO5 hk5 _
   rw [← hkv] at hO5
   have hno5 : ∀ b, b < b3 → b ∉ (Value.slice av j cv).ownBlock.toList := fun b hb hm => by
    have := (hO4.lt b (Option.mem_toList.1 hm)).1
    omega
   have hOb : ∀ b ∈ O, b < b3 := fun b hb => by have := HB.out.2.2 b hb; have := HB.out.2.1; omega
   have hE5 := hE4.kp hk5 (fun b hb => hno5 b (HB.out.1 b hb).2)
   have htb : tb < b3 := by have := Blk.lt HX.out.2.1; have := HB.out.2.1; omega
   have ht5 : TrI W5 P tb := Blk.kp ht4 hk5 (hno5 tb htb)
   have hp5 := hp4.kp hk5 (fun b hb => hno5 b (hOb b hb))
   have hk05 : Kp O w W5 := hk04.trans_gr (O' := (Value.slice av j cv).ownBlock.toList ++ O) (fun b hb => by
    rcases List.mem_append.1 hb with hb | hb
    ·have := (hO4.lt b (Option.mem_toList.1 hb)).1
     have := HB.out.2.1
     exact .inr (by omega)
    ·exact .inl hb) (hk5.mono (fun b hb => .inl (by simp [hb])))
   have HI5 := hid (⟨hp5, ht5, hk05, hE5, hO5, Nat.le_trans hsz4 hk5.size⟩ : _ ∧ _ ∧ _ ∧ _ ∧ _ ∧ _)
   clear hE4 hO4 hk04 ht4 hp4 hkv hsz4 hO5 hk5 hno5 hOb hE5 htb ht5 hp5 hk05 k0
   go_wp2
   go_roundg (nl - (j + 1))
   case measure => omega
   case rel => exact ⟨j + 1, _, by omega, by omega, by go_num, rfl, HI5⟩
  ·have hjl : j = nl := by omega
   subst hjl
   have hji : ¬ ((j : Int) < (j : Int)) := by omega
   go_wp2
   go_ret2
   obtain ⟨hpr, htr, hkr, hEr, hOr, hsr⟩ := HI.out
   exact ⟨_, rfl, HF.out _ _ hpr htr hkr hOr⟩
end
end
end Go.Proofs.YtnnghcooidjlhaaGreat
