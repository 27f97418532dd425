/- Parts of the proof: Jd Jf Kc Je. -/
import Derived.Deep.RegionLaw
import Derived.Test.YtnnghcooidjlhaaGreatA09
import Derived.Test.YtnnghcooidjlhaaGreatA14
set_option linter.all false
section
set_option linter.unusedSimpArgs false
set_option maxRecDepth 100000
namespace Go.Proofs.YtnnghcooidjlhaaGreat
open Go.RowKit Go.Lib
def TreeI (w : World) (P : PL) (O : List Nat) (tb N : Nat) (M : List KV) : Prop :=
  ∃ pgs D E ps, PoI w P O pgs ∧ TrI w P tb ∧ tb ∉ O ∧ MapI (pg pgs) D E ps N ∧ N ≤ 246 ∧ kvs (pg pgs) E = M
theorem TreeI.of_blocks {w w' : World} {P : PL} {O : List Nat} {tb N : Nat} {M : List KV} (h : TreeI w P O tb N M) (e : ∀ b ∈ tb :: O, w'.heap[b]? = w.heap[b]?) : TreeI w' P O tb N M := by
  obtain ⟨pgs, D, E, ps, hp, ht, hto, hm, hN, hM⟩ := h
  exact ⟨pgs, D, E, ps, hp.of_blocks (fun b hb => e b (by simp [hb])), (e tb (by simp)).trans ht, hto, hm, hN, hM⟩
theorem TreeI.lts {w : World} {P : PL} {O : List Nat} {tb N : Nat} {M : List KV} (h : TreeI w P O tb N M) : ∀ b ∈ tb :: O, b < w.heap.size := by
  obtain ⟨pgs, D, E, ps, hp, ht, hto, hm, hN, hM⟩ := h
  intro b hb
  rcases List.mem_cons.1 hb with rfl | hb
  · exact Blk.lt ht
  · exact hp.lts b hb
theorem TreeI.below {w w' : World} {P : PL} {O : List Nat} {tb N : Nat} {M : List KV} (h : TreeI w P O tb N M) (hb : Below w.heap.size w w') : TreeI w' P O tb N M := h.of_blocks fun b hx => hb.block b (h.lts b hx)
theorem TreeI.asc {w : World} {P : PL} {O : List Nat} {tb N : Nat} {M : List KV} (h : TreeI w P O tb N M) : AscM M := by
  obtain ⟨pgs, D, E, ps, hp, ht, hto, hm, hN, rfl⟩ := h
  exact kvs_asc hm.rep.asc
def getR : Option Bs → Value
  | some v => .tuple #[.string (S v), .int .i64 0]
  | none => .tuple #[.string ⟨#[]⟩, .int .i64 9]
theorem leaf_len {es : List En} (h : nB es ≤ 223) : es.length ≤ 40 := by
  have : ∀ l : List En, 7 * l.length ≤ nB l := fun l => by
    induction l with
    | nil => simp
    | cons x t ih => simp [enB]; omega
  have := this es
  omega
theorem hasB_iff (k : Bs) (l : List En) : hasB k l = true ↔ hasK k l := by
  unfold hasB hasK
  cases h : l[cnt k l]? with
  | none => simp
  | some x => simp
section
variable {w : World} {P : PL} {O : List Nat} {tb N : Nat} {M : List KV}
set_option maxHeartbeats 4000000 in
theorem tget_any (h : TreeI w P O tb N M) (k : Bs) :
    Calls Tryz.prog 154 #[.pointer (some ⟨tb, 0, none⟩), .string (S k)] w fun e w' => e = .returned (getR (getM M k)) ∧ Kp O w w' ∧ TreeI w' P O tb N M := by
  obtain ⟨pgs, D, E, ps, hp, ht, hto, hm, hN, rfl⟩ := h
  have hD := hm.deep (by omega)
  have HW := hid (way_any ht hto hp hm.rep (by omega) k)
  have HM := hid hm
  have HT := hid ht
  have HTO := hid hto
  have HNN := hid hN
  have HLT := hid hp.lts
  clear hp ht hto hm hN
  go_enter Tryz.func154, Tryz.ntmps154
  go_wp2_with fail
  (with_reducible refine HW.out.mono ?_)
  rintro e W1 ⟨v, sts, up, q, es, vl, pre, post, psl, psc, rfl, hk1, hp1, hway, hfms, hul, hctx, hrep, hE, hperm, hin, hin2, hne⟩
  obtain ⟨g, c, tp, tc, rfl, hvl, hg1, hg2, hg3, cell, hEn⟩ := way_last hway
  simp only at hvl hEn
  subst hvl
  have l1 := cell 1 _ rfl
  have l2 := cell 2 _ rfl
  simp only at l1 l2
  have hsl := hfms.length
  have hsz : (sts.length : Int) + 1 < 1000 := by omega
  have w9 : IntKind.i64.wrap ((sts.length : Int) + 1 - 1) = (sts.length : Int) := by rw [IntKind.wrap_i64]; omega
  obtain ⟨hnd, rfl⟩ := hrep
  have hlen : es.length ≤ 40 := leaf_len hnd.2.2
  have hsid := hctx.sides hin
  have hget := get_kvs (m := pg pgs) hE hsid.1 hsid.2 hnd.2.1.2
  have hK1 : Kp O w W1 := hk1
  have hlO : ∀ b ∈ O, b < W1.heap.size := hp1.lts
  have ht1 : TrI W1 P tb := Blk.kp HT.out hK1 HTO.out
  have hT1 : TreeI W1 P O tb N (kvs (pg pgs) E) := ⟨pgs, D, _, ps, hp1, ht1, HTO.out, HM.out, HNN.out, rfl⟩
  have hbA : Below W1.heap.size W1 (W1.alloc (.cells #[.bool true, .slice tp es.length tc] 292)) := (Below.refl _ W1).alloc (Nat.le_refl _) _
  have HBA := hid hbA
  have HFI := hid (find_any (leaf := true) (l := es) hnd.2.1.2 (hEn.below hbA) (by omega) k)
  unfold ndV at HFI
  have HK1 := hid hK1
  have HT1 := hid hT1
  have HGET := hid hget
  have HCH := hid (fun x (hx : x ∈ es) => HM.out.ch x (by rw [hE]; simp [hx]))
  have hlt1 : W1.heap.size < (W1.alloc (.cells #[.bool true, .slice tp es.length tc] 292)).heap.size := by simp
  have HVA := hid (fun W x (hx : x ∈ es) (hW : Below W1.heap.size W1 W) => value_any (w := W) (Blk.below ht1 hW (Blk.lt ht1)) HTO.out (hp1.below hW) (HCH.out x hx))
  have hn0 := Blk.new W1 292 #[.bool true, .slice tp es.length tc]
  have HN0 := hid hn0
  have HEN := hid hEn
  have hlen2 : (es.length : Int) ≤ 40 := by omega
  have HFIN : Hid (∀ W W', Below W1.heap.size W1 W → Kp O W W' → PoI W' P O pgs → Kp O w W' ∧ TreeI W' P O tb N (kvs (pg pgs) E)) := hid fun W W' hW hk hp => ⟨(hK1.trans (Kp.of_below hW)).trans hk, pgs, D, _, ps, hp, Blk.kp (Blk.below ht1 hW (Blk.lt ht1)) hk HTO.out, HTO.out, HM.out, HNN.out, rfl⟩
  clear hE hsl hul hk1 hp1 hway hfms hctx hperm hin hin2 hne hEn cell hnd hsid hget hK1 hT1 ht1 hbA hn0 hg1 hg2 hg3
  go_wp2_with fail
  (with_reducible refine HFI.out.mono ?_)
  rintro e W3 ⟨rfl, hb3⟩
  have hb13 : Below W1.heap.size W1 W3 := HBA.out.trans (hb3.mono HBA.out.size)
  have hN3 := HN0.out.below hb3 HN0.out.lt
  have n1 : W3.cell? ⟨W1.heap.size, 1, none⟩ = some (.slice tp es.length tc) := hN3.cell 1
  have hE3 := HEN.out.below hb13
  have hc1 := cnt_le k es
  have HB13 := hid hb13
  clear hb3 hb13 hN3
  by_cases hk : hasK k es
  · have hb := (hasB_iff k es).2 hk
    rw [hb]
    obtain ⟨x, hx, hxk⟩ := hk
    have hlt := (List.getElem?_eq_some_iff.1 hx).1
    obtain ⟨gx, ox, cx, e1, e2, e3, e4⟩ := hE3.form (by rintro rfl; simp at hlt)
    injection e1 with e5 _ e6
    subst e5 e6
    obtain ⟨m0, m1, m2⟩ := e4 _ x hx
    have HGT := hid (HGET.out.1 x hx hxk)
    have hlti : ((cnt k es : Nat) : Int) < (es.length : Int) := by omega
    have HV := hid (HVA.out W3 x (List.mem_of_getElem? hx) HB13.out)
    unfold enV at HV
    clear hE3 hx hb e4 hxk
    go_wp2_with fail
    (with_reducible refine HV.out.mono ?_)
    rintro e W4 ⟨rfl, hk4, hp4⟩
    have HF := hid (HFIN.out W3 W4 HB13.out hk4 hp4)
    clear hk4 hp4
    go_wp2
    go_ret2
    exact ⟨by rw [HGT.out]; rfl, HF.out.1, HF.out.2⟩
  · have hb : hasB k es = false := by
      cases h : hasB k es
      · rfl
      · exact absurd ((hasB_iff k es).1 h) hk
    rw [hb]
    have HGT := hid (HGET.out.2 hk)
    clear hE3
    go_wp2
    go_ret2
    exact ⟨by rw [HGT.out]; rfl, HK1.out.trans (Kp.of_below HB13.out), HT1.out.below HB13.out⟩
end
end Go.Proofs.YtnnghcooidjlhaaGreat
end
section
set_option linter.unusedSimpArgs false
set_option maxRecDepth 100000
namespace Go.Proofs.YtnnghcooidjlhaaGreat
open Go.RowKit Go.Lib
theorem KSt.leafd {m : Mp} {d q : Nat} {n : Nd} {up : List Fm} {E : List En} {ps : List PN} (h : KSt m d q n up E ps) : n.leaf = decide (d = 0) := by
  obtain ⟨_, _, _, _, _, _, h2, _⟩ := h.x
  have := h2.leaf_iff
  rwa [strip_leaf_eq] at this
theorem KSt.root0 {m : Mp} {d q : Nat} {n : Nd} {E : List En} {ps : List PN} (h : KSt m d q n [] E ps) : q = 0 := by
  obtain ⟨_, _, _, _, _, h1, _⟩ := h.x
  exact h1.root
theorem KSt.len {m : Mp} {d q : Nat} {n : Nd} {up : List Fm} {E : List En} {ps : List PN} (h : KSt m d q n up E ps) : n.l.length ≤ 40 := leaf_len h.big
section
variable {w : World} {P : PL} {O : List Nat} {pgs : List (Option Bs)} {tb : Nat}
set_option maxHeartbeats 8000000 in
theorem lower_any (ht : TrI w P tb) (hto : tb ∉ O) (hp : PoI w P O pgs) {d : Nat} {n : Nd} {v : Value} {E : List En} {ps : List PN} (hK : KSt (pg pgs) d 0 n [] E ps) (hv : EnI w v n.l) (hv2 : ∀ g, v.ownBlock = some g → g ∉ O) :
    Calls Tryz.prog 222 #[.pointer (some ⟨tb, 0, none⟩), ndV n.leaf v] w fun e w' => ∃ pgs' D ps', e = .returned (.int .i64 0) ∧ PoI w' P O pgs' ∧ KDn (pg pgs) d ps (pg pgs') D E ps' ∧ Kp O w w' := by
  have HT := hid ht
  have HTO := hid hto
  have HLT := hid hp.lts
  have hlt := Blk.lt ht
  have c0 := ht.c0
  have hbA : Below w.heap.size w (w.alloc (.cells #[.bool n.leaf, v] 292)) := (Below.refl _ w).alloc (Nat.le_refl _) _
  have hno : w.heap.size ∉ O := fun h => by have := hp.lts _ h; omega
  have HNO := hid hno
  have HI0 : Hid (Blk (w.alloc (.cells #[.bool n.leaf, v] 292)) w.heap.size 292 #[.bool n.leaf, v] ∧ EnI (w.alloc (.cells #[.bool n.leaf, v] 292)) v n.l ∧ (∀ g, v.ownBlock = some g → g ∉ O) ∧ KSt (pg pgs) d 0 n [] E ps ∧ Turn (pg pgs) (pgsOf ps) (pg pgs) (pgsOf ps) ∧ (∀ p : Pot, p.sum ps ≤ p.sum ps) ∧ PoI (w.alloc (.cells #[.bool n.leaf, v] 292)) P O pgs ∧ Kp O w (w.alloc (.cells #[.bool n.leaf, v] 292))) :=
    hid ⟨Blk.new w _ _, hv.below hbA, hv2, hK, Turn.refl _ _, fun _ => Nat.le_refl _, hp.below hbA, Kp.of_below hbA⟩
  clear ht hto hp hK hv hv2 hbA hno c0
  unfold ndV
  go_enter Tryz.func222, Tryz.ntmps222
  go_wp2
  go_loopg [] d (fun gg wr => ∃ (dd : Nat) (n1 : Nd) (v1 : Value) (pgs1 : List (Option Bs)) (ps1 : List PN), dd ≤ gg ∧ dd ≤ d ∧ Hid (Blk wr w.heap.size 292 #[.bool n1.leaf, v1] ∧ EnI wr v1 n1.l ∧ (∀ g, v1.ownBlock = some g → g ∉ O) ∧ KSt (pg pgs1) dd 0 n1 [] E ps1 ∧ Turn (pg pgs) (pgsOf ps) (pg pgs1) (pgsOf ps1) ∧ (∀ p : Pot, p.sum ps1 ≤ p.sum ps) ∧ PoI wr P O pgs1 ∧ Kp O w wr))
  case atStart => exact ⟨d, n, v, pgs, ps, Nat.le_refl _, Nat.le_refl _, HI0⟩
  case round =>
    obtain ⟨dd, n1, v1, pgs1, ps1, hgg, hdd, HI⟩ := hrel
    obtain ⟨hB, hE, hE2, hK, hT, hpot, hP, hKp⟩ := HI.out
    obtain ⟨lf, l⟩ := n1
    simp only at hB hE hE2
    obtain ⟨ao, c1, rfl⟩ := hE.slice
    have b0 : wr.cell? ⟨w.heap.size, 0, none⟩ = some (.bool lf) := hB.cell 0
    have b1 : wr.cell? ⟨w.heap.size, 1, none⟩ = some (.slice ao l.length c1) := hB.cell 1
    have f0 := hB.frozen 0
    have f1 := hB.frozen 1
    have hltB := hB.lt
    have hll : (l.length : Int) ≤ 40 := by have : l.length ≤ 40 := hK.len; omega
    have htr : TrI wr P tb := Blk.kp HT.out hKp HTO.out
    have c0 := htr.c0
    by_cases hone : lf = false ∧ l.length = 1
    · -- one node alone: it is pulled up
      obtain ⟨rfl, hl1⟩ := hone
      obtain ⟨x, rfl⟩ : ∃ x, l = [x] := by
        match l, hl1 with
        | [x], _ => exact ⟨x, rfl⟩
      have hd0 : dd ≠ 0 := fun e => by have := hK.leafd; simp [e] at this
      obtain ⟨d', rfl⟩ : ∃ d', dd = d' + 1 := ⟨dd - 1, by omega⟩
      obtain ⟨q, n2, hxq, hnd2, ps2, hK2, hT2, hpot2⟩ := hK.pull rfl
      obtain ⟨g1, o1, c2, e1, _, hg1, hA1⟩ := hE.form (by simp)
      injection e1 with e1 _ e2
      subst e1 e2
      have m2 := (hA1 0 x rfl).2.2
      rw [hxq] at m2
      have hRD := read_any htr hP (pg_some.1 hnd2.1) hnd2.2.1 hnd2.2.2
      have HRD := hid hRD
      have hsz := hKp.size
      have HX := hid (⟨hnd2, hK2, hT.trans hT2, fun p => Nat.le_trans (hpot2 p) (hpot p), hKp, hB, hsz⟩ : NdAt (pg pgs1) q n2 ∧ KSt (upd (pg pgs1) q none) d' 0 n2 [] E ps2 ∧ Turn (pg pgs) (pgsOf ps) (upd (pg pgs1) q none) (pgsOf ps2) ∧ (∀ p : Pot, p.sum ps2 ≤ p.sum ps) ∧ Kp O w wr ∧ Blk wr w.heap.size 292 _ ∧ _)
      clear hB hE hE2 hK hT hpot hP hKp hd0 hnd2 hK2 hT2 hpot2 hA1 htr hRD hsz
      go_wp2_with fail
      (with_reducible refine HRD.out.mono ?_)
      rintro e W1 ⟨v2, rfl, hO1, hk1, hp1⟩
      unfold ndV
      obtain ⟨hnd2, hK2, hT2, hpot2, hKp, hB, hsz⟩ := HX.out
      obtain ⟨a2, c2, rfl⟩ := own_slice2 hO1
      have htr1 : TrI W1 P tb := Blk.kp HT.out (hKp.trans hk1) HTO.out
      have hbA : Below W1.heap.size W1 (W1.alloc (.cells #[.bool n2.leaf, .slice a2 n2.l.length c2] 292)) := (Below.refl _ W1).alloc (Nat.le_refl _) _
      have HD := hid (pi_drop (hp1.below hbA) (pg_some.1 hnd2.1))
      have d0 : (W1.alloc (.cells #[.bool n2.leaf, .slice a2 n2.l.length c2] 292)).cell? ⟨tb, 0, none⟩ = some (.pointer (some ⟨P.p, 0, none⟩)) := (hbA.cell (p := ⟨tb, 0, none⟩) (Blk.lt htr1)).trans htr1.c0
      have hB1 := hB.kp hk1 HNO.out
      have hsz1 := hk1.size
      have HY := hid (⟨hO1, hk1, hB1, htr1, hbA, hsz1, Blk.new W1 292 #[.bool n2.leaf, .slice a2 n2.l.length c2]⟩ : _ ∧ _ ∧ _ ∧ _ ∧ _ ∧ _ ∧ _)
      clear hnd2 hK2 hT2 hpot2 hKp hB hsz hO1 hk1 hp1 htr1 hbA hB1 hsz1 c0 b0 b1 f0 f1 m2 hltB
      go_wp2_with fail
      (with_reducible refine HD.out.mono ?_)
      rintro e W2 ⟨rfl, hk2, hp2⟩
      obtain ⟨hnd2, hK2, hT2, hpot2, hKp, hB, hsz⟩ := HX.out
      obtain ⟨hO1, hk1, hB1, htr1, hbA, hsz1, hN1⟩ := HY.out
      have hno1 : W1.heap.size ∉ O := fun h => by have := HLT.out _ h; omega
      have hN2 := hN1.kp hk2 hno1
      have hlt1 : w.heap.size < W1.heap.size := hB1.lt
      have hB2 := (hB1.below hbA hlt1).kp hk2 HNO.out
      have e0 : W2.cell? ⟨W1.heap.size, 0, none⟩ = some (.bool n2.leaf) := hN2.cell 0
      have e1 : W2.cell? ⟨W1.heap.size, 1, none⟩ = some (.slice a2 n2.l.length c2) := hN2.cell 1
      have b0 : W2.cell? ⟨w.heap.size, 0, none⟩ = some (.bool false) := hB2.cell 0
      have b1 : W2.cell? ⟨w.heap.size, 1, none⟩ = some (.slice (some ⟨g1, o1, none⟩) 1 c1) := hB2.cell 1
      have f0 := hB2.frozen 0
      have f1 := hB2.frozen 1
      have hltN := hN2.lt
      have hltB := hB2.lt
      have hB3 := (hB2.set_ 0 (.bool n2.leaf)).set_ 1 (.slice a2 n2.l.length c2)
      have hk02 : Kp O w W2 := ((hKp.trans hk1).trans (Kp.of_below hbA)).trans hk2
      have hk03 := (hk02.setCell (p := ⟨w.heap.size, 0, none⟩) (.inr (Nat.le_refl _)) (.bool n2.leaf)).setCell (p := ⟨w.heap.size, 1, none⟩) (.inr (Nat.le_refl _)) (.slice a2 n2.l.length c2)
      have hfar : ∀ b, b ≠ w.heap.size → ((W2.setCell ⟨w.heap.size, 0, none⟩ (.bool n2.leaf)).setCell ⟨w.heap.size, 1, none⟩ (.slice a2 n2.l.length c2)).heap[b]? = W2.heap[b]? := fun b hb => by
        rw [Below.heap_setCell _ ⟨w.heap.size, 1, none⟩ _ b hb, Below.heap_setCell _ ⟨w.heap.size, 0, none⟩ _ b hb]
      have hrow2 : W2.ownsRow wr.heap.size 299 3 (.slice a2 n2.l.length c2) n2.l.length (rowV enC n2.l) := row_of hO1 (fun b hb => by
        have h1 := hO1.lt b hb
        rw [hk2.block b (by have := hbA.size; omega) (fun h => by have := HLT.out b h; omega)]
        exact hbA.block b h1.2)
      have hE3 := EnI.of_own (row_of hrow2 (fun b hb => hfar b (by have := (hrow2.lt b hb).1; have := hB.lt; omega)))
      have HI3 : Hid (Blk ((W2.setCell ⟨w.heap.size, 0, none⟩ (.bool n2.leaf)).setCell ⟨w.heap.size, 1, none⟩ (.slice a2 n2.l.length c2)) w.heap.size 292 #[.bool n2.leaf, .slice a2 n2.l.length c2] ∧ EnI ((W2.setCell ⟨w.heap.size, 0, none⟩ (.bool n2.leaf)).setCell ⟨w.heap.size, 1, none⟩ (.slice a2 n2.l.length c2)) (.slice a2 n2.l.length c2) n2.l ∧ (∀ g, (Value.slice a2 n2.l.length c2).ownBlock = some g → g ∉ O) ∧ KSt (pg (pgs1.set q none)) d' 0 n2 [] E ps2 ∧ Turn (pg pgs) (pgsOf ps) (pg (pgs1.set q none)) (pgsOf ps2) ∧ (∀ p : Pot, p.sum ps2 ≤ p.sum ps) ∧ PoI ((W2.setCell ⟨w.heap.size, 0, none⟩ (.bool n2.leaf)).setCell ⟨w.heap.size, 1, none⟩ (.slice a2 n2.l.length c2)) P O (pgs1.set q none) ∧ Kp O w ((W2.setCell ⟨w.heap.size, 0, none⟩ (.bool n2.leaf)).setCell ⟨w.heap.size, 1, none⟩ (.slice a2 n2.l.length c2))) := by
        refine hid ⟨hB3, hE3, fun g hg h => ?_, ?_, ?_, hpot2, hp2.of_blocks (fun b hb => hfar b (fun e => HNO.out (e ▸ hb))), hk03⟩
        · have := (hrow2.lt g hg).1
          have := HLT.out g h
          omega
        · rw [pg_set (pg_lt hnd2.1)]; exact hK2
        · rw [pg_set (pg_lt hnd2.1)]; exact hT2
      clear hnd2 hK2 hT2 hpot2 hKp hB hsz hO1 hk1 hp2 htr1 hbA hB1 hsz1 hk2 hN1 hno1 hN2 hlt1 hB2 hB3 hk02 hk03 hfar hrow2 hE3
      go_wp2
      go_roundg d'
      case measure => omega
      case rel => exact ⟨d', n2, _, _, ps2, Nat.le_refl _, by omega, HI3⟩
    · have h00 := hK.al
      obtain ⟨b00, hb00⟩ := h00
      by_cases hnil : l = []
      · -- nothing is left
        subst hnil
        obtain ⟨_, ps2, hK2⟩ := hK.bare rfl
        have hbA : Below wr.heap.size wr wr := Below.refl _ _
        have hfin := hK2.after hT hpot hdd
        have hB3 := (hB.set_ 0 (.bool true)).set_ 1 (.slice none 0 0)
        have hfar : ∀ b, b ≠ w.heap.size → ((wr.setCell ⟨w.heap.size, 0, none⟩ (.bool true)).setCell ⟨w.heap.size, 1, none⟩ (.slice none 0 0)).heap[b]? = wr.heap[b]? := fun b hb => by
          rw [Below.heap_setCell _ ⟨w.heap.size, 1, none⟩ _ b hb, Below.heap_setCell _ ⟨w.heap.size, 0, none⟩ _ b hb]
        have htr3 : TrI ((wr.setCell ⟨w.heap.size, 0, none⟩ (.bool true)).setCell ⟨w.heap.size, 1, none⟩ (.slice none 0 0)) P tb := (hfar tb (by omega)).trans htr
        have hp3 := hP.of_blocks (w' := (wr.setCell ⟨w.heap.size, 0, none⟩ (.bool true)).setCell ⟨w.heap.size, 1, none⟩ (.slice none 0 0)) (fun b hb => hfar b (fun e => HNO.out (e ▸ hb)))
        have hk3 := (hKp.setCell (p := ⟨w.heap.size, 0, none⟩) (.inr (Nat.le_refl _)) (.bool true)).setCell (p := ⟨w.heap.size, 1, none⟩) (.inr (Nat.le_refl _)) (.slice none 0 0)
        have hWF := write_fits (n := ⟨true, []⟩) (v := .slice none 0 0) (q := 0) htr3 hp3 (pg_some.1 hb00) ⟨by simp [strip], List.Pairwise.nil⟩ ⟨none, 0, rfl, by simp, fun _ _ e => (by cases e), fun e => absurd rfl e⟩ (by simp) (by simp [strip])
        unfold ndV at hWF
        rw [show ((0 : Nat) : Int) = 0 from rfl] at hWF
        have HWF := hid hWF
        have HF := hid (⟨hfin, hk3, pg_set (v := some (pgOf (strip ⟨true, []⟩))) (pg_lt hb00)⟩ : _ ∧ _ ∧ _)
        have d0 : ((wr.setCell ⟨w.heap.size, 0, none⟩ (.bool true)).setCell ⟨w.heap.size, 1, none⟩ (.slice none 0 0)).cell? ⟨w.heap.size, 0, none⟩ = some (.bool true) := by rw [hB3.cell]; rfl
        have d1 : ((wr.setCell ⟨w.heap.size, 0, none⟩ (.bool true)).setCell ⟨w.heap.size, 1, none⟩ (.slice none 0 0)).cell? ⟨w.heap.size, 1, none⟩ = some (.slice none 0 0) := by rw [hB3.cell]; rfl
        clear hB hE hE2 hK hT hpot hP hKp htr hbA hfin hB3 hfar htr3 hp3 hk3 hWF hK2 hb00 hone
        cases lf
        · go_wp2_with fail
          (with_reducible refine HWF.out.mono ?_)
          rintro e W5 ⟨rfl, hk5, hp5⟩
          have H5 := hid (⟨hk5, hp5⟩ : _ ∧ _)
          clear hk5 hp5
          go_wp2
          go_ret
          obtain ⟨hk5, hp5⟩ := H5.out
          obtain ⟨h1, h2, h3⟩ := HF.out
          exact ⟨_, 0, ps2, rfl, hp5, by rw [h3]; exact h1, h2.trans hk5⟩
        · go_wp2_with fail
          (with_reducible refine HWF.out.mono ?_)
          rintro e W5 ⟨rfl, hk5, hp5⟩
          have H5 := hid (⟨hk5, hp5⟩ : _ ∧ _)
          clear hk5 hp5
          go_wp2
          go_ret
          obtain ⟨hk5, hp5⟩ := H5.out
          obtain ⟨h1, h2, h3⟩ := HF.out
          exact ⟨_, 0, ps2, rfl, hp5, by rw [h3]; exact h1, h2.trans hk5⟩
      · -- it is written
        obtain ⟨hmy, hnb, ps2, hK2⟩ := hK.write (.inl hnil)
        have hfin := hK2.after hT hpot (Nat.le_trans (by simp) hdd)
        have hWF := write_fits (n := ⟨lf, l⟩) (q := 0) htr hP (pg_some.1 hb00) hmy hE (by simp only; omega) hnb
        unfold ndV at hWF
        rw [show ((0 : Nat) : Int) = 0 from rfl] at hWF
        have HWF := hid hWF
        have HF := hid (⟨hfin, hKp, pg_set (v := some (pgOf (strip ⟨lf, l⟩))) (pg_lt hb00)⟩ : _ ∧ _ ∧ _)
        have hne0 : ¬ l.length = 0 := fun e => hnil (List.eq_nil_of_length_eq_zero e)
        have hzi : ((l.length : Int) == 0) = false := by simp; omega
        clear hB hE hE2 hK hT hpot hP hKp htr hfin hWF hK2 hb00 hmy hnb hnil
        cases lf
        · have h1i : ((l.length : Int) == 1) = false := by
            have : ¬ l.length = 1 := fun e => hone ⟨rfl, e⟩
            simp
            omega
          have h1n : ¬ l.length = 1 := fun e => hone ⟨rfl, e⟩
          clear hone
          go_wp2_with fail
          (with_reducible refine HWF.out.mono ?_)
          rintro e W5 ⟨rfl, hk5, hp5⟩
          have H5 := hid (⟨hk5, hp5⟩ : _ ∧ _)
          clear hk5 hp5
          go_wp2
          go_ret
          obtain ⟨hk5, hp5⟩ := H5.out
          obtain ⟨h1, h2, h3⟩ := HF.out
          exact ⟨_, _, ps2, rfl, hp5, by rw [h3]; exact h1, h2.trans hk5⟩
        · clear hone
          go_wp2_with fail
          (with_reducible refine HWF.out.mono ?_)
          rintro e W5 ⟨rfl, hk5, hp5⟩
          have H5 := hid (⟨hk5, hp5⟩ : _ ∧ _)
          clear hk5 hp5
          go_wp2
          go_ret
          obtain ⟨hk5, hp5⟩ := H5.out
          obtain ⟨h1, h2, h3⟩ := HF.out
          exact ⟨_, _, ps2, rfl, hp5, by rw [h3]; exact h1, h2.trans hk5⟩
end
end Go.Proofs.YtnnghcooidjlhaaGreat
end
section
set_option linter.unusedSimpArgs false
namespace Go.Proofs.YtnnghcooidjlhaaGreat
theorem erase_eq {α : Type} (l : List α) (i : Nat) : l.eraseIdx i = l.take i ++ l.drop (i + 1) := List.eraseIdx_eq_take_drop_succ l i
theorem split_at {es : List En} {i : Nat} {x : En} (h : es[i]? = some x) : es = es.take i ++ x :: es.drop (i + 1) := by
  have hlt := (List.getElem?_eq_some_iff.1 h).1
  conv => lhs; rw [← List.take_append_drop i es]
  rw [List.drop_eq_getElem_cons hlt, (List.getElem?_eq_some_iff.1 h).2]
def awayM (m : Mp) (x : En) : Mp := if x.far < 0 then m else upd m x.far.toNat none
section
variable {m : Mp} {q N : Nat} {up : List Fm} {pre es post : List En} {psc : List PN}
theorem HoI.away (h : HoI m q up pre es post psc N) {a b : List En} {x : En} (he : es = a ++ x :: b) :
    HoI (awayM m x) q up pre (a ++ b) post psc N ∧ ∀ r ∈ fars (pre ++ (a ++ b) ++ post), awayM m x r = m r := by
  unfold awayM
  by_cases hf : x.far < 0
  · rw [if_pos hf]
    exact ⟨h.less he hf, fun _ _ => rfl⟩
  · rw [if_neg hf]
    refine ⟨h.lessC he (by omega), fun r hr => upd_ne _ _ (fun e => ?_)⟩
    subst he e
    have h0 : 0 ≤ x.far := by omega
    have hn := h.nd
    rw [nodup_app] at hn
    have h2 := (fars_perm (perm_mid pre a b post x)).nodup_iff.1 hn.2.1
    rw [fars_cons_pos h0, List.nodup_cons] at h2
    exact h2.1 hr
def Laid (m : Mp) (k v : Bs) (x : En) (m2 : Mp) : Prop :=
  (v.length ≤ 40 ∧ x = ⟨k, v, -1⟩ ∧ m2 = m) ∨ (40 < v.length ∧ ∃ p : Nat, x = ⟨k, [], p⟩ ∧ m p = none ∧ p < 512 ∧ m2 = upd m p (some (chB v)))
theorem Laid.kv {m m2 : Mp} {k v : Bs} {x : En} (h : Laid m k v x m2) (hv : v.length ≤ 228) : kvOf m2 x = (k, v) := by
  rcases h with ⟨_, rfl, rfl⟩ | ⟨_, p, rfl, _, _, rfl⟩
  · simp [kvOf]
  · have : ¬ ((p : Int) < 0) := by omega
    simp only [kvOf, if_neg this, Int.toNat_natCast, upd_same, Option.getD_some, unCh_chB hv]
theorem Laid.right {m m2 : Mp} {k v : Bs} {x : En} (h : Laid m k v x m2) (hk : k.length ≤ 32) : rightE true x ∧ x.key = k := by
  rcases h with ⟨h1, rfl, rfl⟩ | ⟨_, p, rfl, _, h2, rfl⟩
  · refine ⟨⟨hk, h1, ?_, ?_, .inl ?_⟩, rfl⟩ <;> simp
  · refine ⟨⟨hk, by simp, ?_, ?_, .inr rfl⟩, rfl⟩
    · simp
      try omega
    · simp
      try omega
theorem HoI.put (h : HoI m q up pre es post psc N) {m2 : Mp} {k v : Bs} {x : En} {a b : List En} (he : es = a ++ b) (hl : Laid m k v x m2) (hk : k.length ≤ 32) (hv : v.length ≤ 228) (ha : ∀ y ∈ a, y.key < k) (hb : ∀ y ∈ b, k < y.key) (hin : InB up k) :
    HoI m2 q up pre (a ++ x :: b) post psc N ∧ ∀ r ∈ fars (pre ++ (a ++ b) ++ post), m2 r = m r := by
  obtain ⟨hr, hxk⟩ := hl.right hk
  rcases hl with ⟨h1, rfl, rfl⟩ | ⟨h0, p, rfl, h1, h2, rfl⟩
  · exact ⟨h.more he (by simp) hr ha hb hin, fun _ _ => rfl⟩
  · refine ⟨h.moreC (x := ⟨k, [], p⟩) (v := v) he (by simp) (by simpa using h1) h0 hv hr ha hb hin, fun r hr' => upd_ne _ _ (fun e => ?_)⟩
    subst he
    obtain ⟨y, hy, h3, h4⟩ := mem_fars.1 hr'
    obtain ⟨_, _, _, h5⟩ := h.ch y hy h3
    rw [h4, e, h1] at h5
    cases h5
end
theorem fars_sub {a b : List En} (h : ∀ x ∈ a, x ∈ b) {r : Nat} (hr : r ∈ fars a) : r ∈ fars b := by
  obtain ⟨x, hx, h0, e⟩ := mem_fars.1 hr
  exact mem_fars.2 ⟨x, h x hx, h0, e⟩
theorem kvs_parts {m : Mp} {E pre es post : List En} {k : Bs} {is : Bool} (he : E = pre ++ es ++ post) (h1 : ∀ x ∈ pre, x.key < k) (h2 : ∀ x ∈ post, k < x.key) (ha : Asc es) (his : is = true ↔ hasK k es) :
    (kvs m E).filter (fun a => decide (a.1 < k)) = kvs m (pre ++ es.take (cnt k es)) ∧ (kvs m E).filter (fun a => decide (k < a.1)) = kvs m (es.drop (cntE k es is) ++ post) := by
  have e1 := kvs_filter m E (fun y => decide (y < k))
  have e2 := kvs_filter m E (fun y => decide (k < y))
  rw [part_lt he h1 h2 ha] at e1
  rw [part_gt he h1 h2 ha his] at e2
  exact ⟨e1.symm, e2.symm⟩
theorem kvs_set {m m2 m' : Mp} {E pre es post : List En} {k v : Bs} {is : Bool} {x : En} (he : E = pre ++ es ++ post) (h1 : ∀ x ∈ pre, x.key < k) (h2 : ∀ x ∈ post, k < x.key) (ha : Asc es) (his : is = true ↔ hasK k es)
    (g1 : ∀ r ∈ fars (pre ++ (es.take (cnt k es) ++ es.drop (cntE k es is)) ++ post), m2 r = m r)
    (g2 : ∀ r ∈ fars (pre ++ (es.take (cnt k es) ++ x :: es.drop (cntE k es is)) ++ post), m' r = m2 r) (hx : kvOf m2 x = (k, v)) :
    kvs m' (pre ++ (es.take (cnt k es) ++ x :: es.drop (cntE k es is)) ++ post) = setM (kvs m E) k v := by
  obtain ⟨e1, e2⟩ := kvs_parts (m := m) he h1 h2 ha his
  unfold setM
  rw [e1, e2]
  rw [kvs_congr g2]
  have e3 : pre ++ (es.take (cnt k es) ++ x :: es.drop (cntE k es is)) ++ post = (pre ++ es.take (cnt k es)) ++ x :: (es.drop (cntE k es is) ++ post) := by simp
  rw [e3, kvs_append, kvs_cons, hx]
  rw [kvs_congr (m := m) (m' := m2) (E := pre ++ es.take (cnt k es)) (fun r hr => g1 r (fars_sub (fun y hy => by
    simp only [List.mem_append] at hy ⊢
    rcases hy with hy | hy
    · exact .inl (.inl hy)
    · exact .inl (.inr (.inl hy))) hr))]
  rw [kvs_congr (m := m) (m' := m2) (E := es.drop (cntE k es is) ++ post) (fun r hr => g1 r (fars_sub (fun y hy => by
    simp only [List.mem_append] at hy ⊢
    rcases hy with hy | hy
    · exact .inl (.inr (.inr hy))
    · exact .inr hy) hr))]
theorem kvs_del {m m' : Mp} {E pre es post : List En} {k : Bs} {is : Bool} (he : E = pre ++ es ++ post) (h1 : ∀ x ∈ pre, x.key < k) (h2 : ∀ x ∈ post, k < x.key) (hE : Asc E) (ha : Asc es) (his : is = true ↔ hasK k es)
    (g1 : ∀ r ∈ fars (pre ++ (es.take (cnt k es) ++ es.drop (cntE k es is)) ++ post), m' r = m r) :
    kvs m' (pre ++ (es.take (cnt k es) ++ es.drop (cntE k es is)) ++ post) = delM (kvs m E) k := by
  obtain ⟨e1, e2⟩ := kvs_parts (m := m) he h1 h2 ha his
  rw [delM_eq (kvs_asc hE), e1, e2, kvs_congr g1, ← kvs_append]
  congr 1
  simp
def longs (M : List KV) : Nat := M.countP fun a => decide (40 < a.2.length)
theorem longs_kvs {m : Mp} {E : List En} (hr : ∀ x ∈ E, rightE true x) (hc : ∀ x ∈ E, ChAt m x) : longs (kvs m E) = (fars E).length := by
  unfold longs kvs
  induction E with
  | nil => rfl
  | cons x t ih =>
    have ih := ih (fun y hy => hr y (by simp [hy])) (fun y hy => hc y (by simp [hy]))
    rw [List.map_cons, List.countP_cons, ih]
    by_cases h : x.far < 0
    · have h1 : ¬ 40 < (kvOf m x).2.length := by
        have := (hr x (by simp)).2.1
        simp only [kvOf, if_pos h]
        omega
      rw [fars_cons_neg h, if_neg (by simpa using h1), Nat.add_zero]
    · obtain ⟨v, hv1, hv2, hv3⟩ := hc x (by simp) (by omega)
      have h1 : 40 < (kvOf m x).2.length := by
        simp only [kvOf, if_neg h, hv3, Option.getD_some, unCh_chB hv2]
        exact hv1
      rw [fars_cons_pos (by omega), if_pos (by simpa using h1), List.length_cons]
theorem MapI.roomM {pgs : List (Option Bs)} {D N : Nat} {E : List En} {ps : List PN} (h : MapI (pg pgs) D E ps N) (hr : Roomy N (kvs (pg pgs) E).length (longs (kvs (pg pgs) E))) : somes pgs + D + 3 ≤ 300 ∧ D ≤ 9 := by
  refine h.room ?_ ?_ hr
  · simp [kvs]
  · rw [longs_kvs h.rep.right h.ch]
    exact Nat.le_refl _
end Go.Proofs.YtnnghcooidjlhaaGreat
end
section
set_option linter.unusedSimpArgs false
set_option maxRecDepth 100000
namespace Go.Proofs.YtnnghcooidjlhaaGreat
open Go.RowKit Go.Lib
structure LSt (w0 : World) (P : PL) (O : List Nat) (tb : Nat) (W : World) (g c : Nat) (sts : List St) (up : List Fm) (q : Nat) (es : List En) (vl : Value) (pgs : List (Option Bs)) : Prop where
  hp : PoI W P O pgs
  ht : TrI W P tb
  way : WayI W w0.heap.size (.slice (some ⟨g, 0, none⟩) (sts.length + 1) c) (sts ++ [⟨q, ⟨true, es⟩, vl, 0⟩])
  fms : Fms sts up
  kp : Kp O w0 W
section
variable {w0 : World} {P : PL} {O : List Nat} {tb : Nat} {W : World} {g c : Nat} {sts : List St} {up : List Fm} {q : Nat} {es : List En} {vl : Value} {pgs : List (Option Bs)}
theorem LSt.below {W' : World} (h : LSt w0 P O tb W g c sts up q es vl pgs) (hb : Below W.heap.size W W') : LSt w0 P O tb W' g c sts up q es vl pgs :=
  ⟨h.hp.below hb, Blk.below h.ht hb (Blk.lt h.ht), h.way.of_blocks (fun b _ hlt => hb.block b hlt), h.fms, h.kp.trans (Kp.of_below hb)⟩
theorem LSt.pool {W' : World} {pgs' : List (Option Bs)} (h : LSt w0 P O tb W g c sts up q es vl pgs) (hlt : ∀ b ∈ O, b < w0.heap.size) (hto : tb ∉ O) (hk : Kp O W W') (hp : PoI W' P O pgs') : LSt w0 P O tb W' g c sts up q es vl pgs' :=
  ⟨hp, Blk.kp h.ht hk hto, h.way.kp hk hlt, h.fms, h.kp.trans hk⟩
theorem LSt.cells (h : LSt w0 P O tb W g c sts up q es vl pgs) : ∃ tp tc, vl = .slice tp es.length tc ∧ w0.heap.size ≤ g ∧ g < W.heap.size ∧ W.cell? ⟨g, sts.length * 4 + 1, none⟩ = some (.bool true) ∧ W.cell? ⟨g, sts.length * 4 + 2, none⟩ = some vl ∧ EnI W vl es ∧
    W.ownsRow w0.heap.size 299 3 vl es.length (rowV enC es) ∧ W.frozen? ⟨g, sts.length * 4 + 2, none⟩ = false := by
  obtain ⟨g', c', tp, tc, e, hvl, hc, hg2, hg3, cell, hEn⟩ := way_last h.way
  injection e with e _ e2
  injection e with e
  injection e with e
  subst e e2
  exact ⟨tp, tc, hvl, hg2, hg3, cell 1 _ rfl, cell 2 _ rfl, hEn, h.way.row ⟨q, ⟨true, es⟩, vl, 0⟩ (by simp), own_frozen h.way.own _⟩
theorem LSt.setv {W' : World} {es2 : List En} {v2 : Value} (h : LSt w0 P O tb W g c sts up q es vl pgs) (hlt : ∀ b ∈ O, b < w0.heap.size) (htb : tb < w0.heap.size)
    (hrow : W'.ownsRow w0.heap.size 299 3 v2 es2.length (rowV enC es2)) (hk : Kp vl.ownBlock.toList W W') (hnew : ∀ b, v2.ownBlock = some b → vl.ownBlock = some b ∨ W.heap.size ≤ b) :
    LSt w0 P O tb (W'.setCell ⟨g, sts.length * 4 + 2, none⟩ v2) g c sts up q es2 v2 pgs := by
  obtain ⟨tp, tc, hvl, hg1, hg2, _, _, _, hr, _⟩ := h.cells
  have hvg : ∀ b, vl.ownBlock = some b → w0.heap.size ≤ b ∧ b < W.heap.size ∧ b ≠ g := fun b hb => ⟨(hr.lt b hb).1, (hr.lt b hb).2, fun e => own_apart hr h.way.own (by decide) b hb (by rw [e]; rfl)⟩
  have hw := h.way.setv (w' := W') (n2 := ⟨true, es2⟩) (v2 := v2) rfl hrow (fun b _ hlt hne => hk.block b hlt (fun hm => hne (Option.mem_toList.1 hm)))
    (fun t ht b hb e => (hnew b e).elim (fun h' => (List.pairwise_append.1 h.way.nd).2.2 t ht _ (List.mem_singleton_self _) b hb h') (fun h' => by have := ((h.way.row t (List.mem_append_left _ ht)).lt b hb).2; omega))
    (fun e => (hnew g e).elim (fun h' => (hvg g h').2.2 rfl) (fun h' => by omega))
  have hblk : ∀ b, b < w0.heap.size → (W'.setCell ⟨g, sts.length * 4 + 2, none⟩ v2).heap[b]? = W.heap[b]? := fun b hb => by
    rw [Below.heap_setCell _ ⟨g, _, none⟩ _ b (by show b ≠ g; omega)]
    exact hk.block b (by have := h.kp.size; omega) (fun hm => by have := hvg b (Option.mem_toList.1 hm); omega)
  refine ⟨h.hp.of_blocks (fun b hb => hblk b (hlt b hb)), (hblk tb htb).trans h.ht, hw, h.fms, ?_⟩
  exact ⟨hk.os.trans h.kp.os, hk.tape.trans h.kp.tape, hk.output.trans h.kp.output, by have := h.kp.size; have := hk.size; simpa [World.setCell] using by omega, fun b hb ho => (hblk b hb).trans (h.kp.block b hb ho)⟩
end
section
variable {w : World} {P : PL} {O : List Nat} {tb N : Nat} {M : List KV}
set_option maxHeartbeats 8000000 in
theorem tset_any (h : TreeI w P O tb N M) {k v : Bs} (hkl : k.length ≤ 32) (hvl : v.length ≤ 228) (hroom : Roomy N M.length (longs M)) :
    Calls Tryz.prog 130 #[.pointer (some ⟨tb, 0, none⟩), .string (S k), .string (S v)] w fun e w' => ∃ O', e = .returned (.int .i64 0) ∧ TreeI w' P O' tb (N + 1) (setM M k v) ∧ Kp O w w' ∧ Gr O w.heap.size O' := by
  obtain ⟨pgs, D, E, ps, hp, ht, hto, hm, hN, rfl⟩ := h
  have hD := hm.roomM hroom
  have hN2 : N ≤ 245 := by rcases hroom with h | h <;> omega
  have HW := hid (way_any ht hto hp hm.rep (by omega) k)
  have hki : (k.length : Int) ≤ 32 := by omega
  have hvi : (v.length : Int) ≤ 228 := by omega
  have HX := hid (⟨hm, ht, hto, hN2, hp.lts, Blk.lt ht, hkl, hvl, hD⟩ : _ ∧ _ ∧ _ ∧ _ ∧ _ ∧ _ ∧ _ ∧ _ ∧ _)
  clear hp ht hto hm hN hN2 hD hkl hvl hroom
  go_enter Tryz.func130, Tryz.ntmps130
  go_wp2_with fail
  (with_reducible refine HW.out.mono ?_)
  rintro e W1 ⟨v0, sts, up, q, es, vl, pre, post, psl, psc, rfl, hk1, hp1, hway, hfms, hul, hctx, hrep, hE, hperm, hin, hin2, hne⟩
  obtain ⟨hm, ht, hto, hN2, hlt, htb, hkl, hvl, hD⟩ := HX.out
  obtain ⟨g, c, tp, tc, rfl, _, hcap, _, _, _, _⟩ := way_last hway
  have hH := hm.hole hul hctx hrep hE hperm hin2
  have hL : LSt w P O tb W1 g c sts up q es vl pgs := ⟨hp1, Blk.kp ht hk1 hto, hway, hfms, hk1⟩
  obtain ⟨tp, tc, rfl, hg1, hg2, l1, l2, hEn, hrow, _⟩ := hL.cells
  obtain ⟨hnd, rfl⟩ := hrep
  have hlen : es.length ≤ 40 := leaf_len hnd.2.2
  have hsl := hfms.length
  have hsz : (sts.length : Int) + 1 < 1000 := by omega
  have w9 : IntKind.i64.wrap ((sts.length : Int) + 1 - 1) = (sts.length : Int) := by rw [IntKind.wrap_i64]; omega
  have HFI := hid (find_any (leaf := true) (l := es) hnd.2.1.2 hEn (by omega) k)
  unfold ndV at HFI
  have HL := hid hL
  have hsid := hctx.sides hin
  have HY := hid (⟨hul, hE, hsid, hnd, hin, hlen, hsl, hcap, hH⟩ : _ ∧ _ ∧ _ ∧ _ ∧ _ ∧ _ ∧ _ ∧ _ ∧ _)
  clear hm ht hto hN2 hlt htb hkl hvl hD hk1 hp1 hway hfms hul hctx hE hperm hin hin2 hne hL hEn hrow hnd hlen hsl hsid hH hcap
  go_wp2_with fail
  (with_reducible refine HFI.out.mono ?_)
  rintro e W2 ⟨rfl, hb2⟩
  have hL2 := HL.out.below hb2
  obtain ⟨hul, hE, hsid, hnd, hin, hlen, hsl, hcap, hH⟩ := HY.out
  obtain ⟨hm, ht, hto, hN2, hlt, htb, hkl, hvl, hD⟩ := HX.out
  obtain ⟨tp', tc', ev, _, hg2', l1', l2', hEn', hrow', hfz'⟩ := hL2.cells
  injection ev with ev1 _ ev2
  subst ev1 ev2
  clear l1 l2
  have hc1 := cnt_le k es
  have hlen40 : (es.length : Int) ≤ 40 := by omega
  by_cases hk : hasK k es
  case' pos =>
    have hb := (hasB_iff k es).2 hk
    rw [hb]
    obtain ⟨x, hx, hxk⟩ := hk
    have hlte := (List.getElem?_eq_some_iff.1 hx).1
    obtain ⟨gx, cx, e1, e2, e3, e4⟩ := own_form hrow' (by omega)
    injection e1 with e1 _ e5
    subst e1 e5
    have m0 : W2.cell? ⟨gx, cnt k es * 3, none⟩ = some (.string (S x.key)) := own_at hrow' rfl (j := cnt k es * 3 + 0) (by rw [rowV_get enC_len es (cnt k es) x hx 0 (by omega)]; rfl)
    have m1 : W2.cell? ⟨gx, cnt k es * 3 + 1, none⟩ = some (.string (S x.val)) := own_at hrow' rfl (j := cnt k es * 3 + 1) (by rw [rowV_get enC_len es (cnt k es) x hx 1 (by omega)]; rfl)
    have m2 : W2.cell? ⟨gx, cnt k es * 3 + 2, none⟩ = some (.int .i64 x.far) := own_at hrow' rfl (j := cnt k es * 3 + 2) (by rw [rowV_get enC_len es (cnt k es) x hx 2 (by omega)]; rfl)
    have hxE : x ∈ E := by rw [hE]; simp [List.mem_of_getElem? hx]
    have HAW := hid (away_any hL2.ht hto hL2.hp (hm.ch x hxE))
    unfold enV at HAW
    obtain ⟨hH3, hF3⟩ := hH.away (split_at hx)
    have hlti : ((cnt k es : Nat) : Int) < (es.length : Int) := by omega
    have l2'' : W2.cell? ⟨g, sts.length * 4 + 1 + 1, none⟩ = some (.slice (some ⟨gx, 0, none⟩) es.length tc) := l2'
    have HL2 := hid hL2
    have HE := hid (⟨hH3, hF3, e2, e3, e4, hlte, hrow'⟩ : _ ∧ _ ∧ _ ∧ _ ∧ _ ∧ _ ∧ _)
    have HK := hid (⟨hx, hxk⟩ : _ ∧ _)
    clear hm ht hto hN2 hlt htb hkl hvl hD hul hE hsid hnd hin hlen hsl hcap hH hL2 hb2 hEn' hrow' hb hx hxk e2 e3 e4 hxE hH3 hF3 hlte hc1
    go_wp2_with fail
    (with_reducible refine HAW.out.mono ?_)
    rintro e W3 ⟨pgs3, rfl, hpg3, hsm3, hk3, hp3⟩
    obtain ⟨hm, ht, hto, hN2, hlt, htb, hkl, hvl, hD⟩ := HX.out
    obtain ⟨hH3, hF3, e2, e3, e4, hlte, hrow'⟩ := HE.out
    obtain ⟨hul, hE, hsid, hnd, hin, hlen, hsl, hcap, hH⟩ := HY.out
    have hL3 := HL2.out.pool hlt hto hk3 hp3
    obtain ⟨_, _, _, _, hg3, _, l23, _, hrow3, hfz3⟩ := hL3.cells
    have HDL := hid (delete_any (i := cnt k es) hrow3 hlte (by omega))
    have l23' : W3.cell? ⟨g, sts.length * 4 + 1 + 1, none⟩ = some (.slice (some ⟨gx, 0, none⟩) es.length tc) := l23
    have hgx : gx ≠ g := fun e => own_apart hrow3 hL3.way.own (by decide) gx rfl (by rw [e]; rfl)
    have HGX := hid (⟨hgx, hg3, l23, hfz3, hk3, hsm3, hpg3⟩ : _ ∧ _ ∧ _ ∧ _ ∧ _ ∧ _ ∧ _)
    have HL3 := hid hL3
    clear hm ht hto hN2 hlt htb hkl hvl hD hH3 hF3 e2 e3 e4 hlte hrow' hul hE hsid hnd hin hlen hsl hcap hH hL3 hrow3 hfz3 hgx hpg3 hk3 hp3 m0 m1 m2 l1' l2' l2'' hsm3 l23 hg3 hfz'
    go_wp2_with fail
    (with_reducible refine HDL.out.mono ?_)
    rintro e W4 ⟨rfl, hO4, hk4⟩
    obtain ⟨hm, ht, hto, hN2, hlt, htb, hkl, hvl, hD⟩ := HX.out
    obtain ⟨hgx, hg3, l23, hfz3, hk3, hsm3, hpg3⟩ := HGX.out
    obtain ⟨hH3, hF3, e2, e3, e4, hlte, hrow'⟩ := HE.out
    have hng : g ∉ [gx] := by simpa using fun e => hgx e.symm
    have l24 : W4.cell? ⟨g, sts.length * 4 + 1 + 1, none⟩ = some (.slice (some ⟨gx, 0, none⟩) es.length tc) := (hk4.cell (p := ⟨g, _, none⟩) hg3 hng).trans l23
    have f24 : W4.frozen? ⟨g, sts.length * 4 + 1 + 1, none⟩ = false := (hk4.frozen (p := ⟨g, sts.length * 4 + 1 + 1, none⟩) hg3 hng).trans hfz3
    have hLJ := HL3.out.setv (W' := W4) (es2 := es.eraseIdx (cnt k es)) (v2 := .slice (some ⟨gx, 0, none⟩) (es.length - 1) tc) hlt htb (by rw [List.length_eraseIdx_of_lt hlte]; exact hO4) hk4 (fun b hb => .inl hb)
    have HLJ := hid hLJ
    clear hm ht hto hN2 hlt htb hkl hvl hD hH3 hF3 e2 e3 e4 hlte hrow' hgx hg3 l23 hfz3 hk3 hsm3 hpg3 hng hLJ hk4 hO4 l23'
    go_wp2_with fail
    obtain ⟨WJ, hWJ⟩ : ∃ WJ, WJ = W4.setCell ⟨g, sts.length * 4 + 1 + 1, none⟩ (.slice (some ⟨gx, 0, none⟩) (es.length - 1) tc) := ⟨_, rfl⟩
    obtain ⟨esJ, vJ, pgsJ, HJ⟩ : ∃ esJ vJ pgsJ, Hid (LSt w P O tb WJ g c sts up q esJ vJ pgsJ ∧ HoI (pg pgsJ) q up pre esJ post psc N ∧ esJ = es.take (cnt k es) ++ es.drop (cntE k es (hasB k es)) ∧ (∀ r ∈ fars (pre ++ esJ ++ post), pg pgsJ r = pg pgs r) ∧ somes pgsJ ≤ somes pgs) := by
      obtain ⟨hgx, hg3, l23, hfz3, hk3, hsm3, hpg3⟩ := HGX.out
      obtain ⟨hH3, hF3, e2, e3, e4, hlte, hrow'⟩ := HE.out
      refine ⟨_, _, pgs3, hid ⟨by rw [hWJ]; exact HLJ.out, ?_, ?_, ?_, hsm3⟩⟩
      · rw [hpg3, erase_eq]
        exact hH3
      · rw [erase_eq]
        unfold cntE
        rw [if_pos ((hasB_iff k es).2 ⟨x, HK.out⟩)]
      · rw [hpg3, erase_eq]
        exact hF3
    rw [← hWJ]
    clear hWJ HLJ HGX HE HL3 HDL HAW HK HL2 l24 f24
  case' neg =>
    have hb : hasB k es = false := by
      cases h : hasB k es
      · rfl
      · exact absurd ((hasB_iff k es).1 h) hk
    obtain ⟨esJ, vJ, pgsJ, HJ⟩ : ∃ esJ vJ pgsJ, Hid (LSt w P O tb W2 g c sts up q esJ vJ pgsJ ∧ HoI (pg pgsJ) q up pre esJ post psc N ∧ esJ = es.take (cnt k es) ++ es.drop (cntE k es (hasB k es)) ∧ (∀ r ∈ fars (pre ++ esJ ++ post), pg pgsJ r = pg pgs r) ∧ somes pgsJ ≤ somes pgs) := by
      refine ⟨es, _, pgs, hid ⟨hL2, hH, ?_, fun _ _ => rfl, Nat.le_refl _⟩⟩
      rw [hb]
      simp [cntE]
    rw [hb]
    clear hm ht hto hN2 hlt htb hkl hvl hD hul hE hsid hnd hin hlen hsl hcap hH hL2 hb2 hEn' hrow' hb l1' l2' hfz' hg2'
    go_wp2_with fail
    obtain ⟨WJ, hWJ⟩ : ∃ WJ, W2 = WJ := ⟨_, rfl⟩
    rw [hWJ]
    rw [hWJ] at HJ
    clear hWJ
  all_goals
    obtain ⟨hLJ, hHJ, hesJ, hFJ, hsmJ⟩ := HJ.out
    obtain ⟨hm, ht, hto, hN2, hlt, htb, hkl, hvl, hD⟩ := HX.out
    have HST := hid (store_any hLJ.ht hto hLJ.hp (k := k) hvl (by omega))
    clear hLJ hHJ hesJ hFJ hsmJ hm ht hto hN2 hlt htb hkl hvl hD
    (with_reducible refine HST.out.mono ?_)
    rintro e W5 ⟨x, O1, pgs5, rfl, hxk5, hx5, hp5, hk5, hg5⟩
    unfold enV
    obtain ⟨hLJ, hHJ, hesJ, hFJ, hsmJ⟩ := HJ.out
    obtain ⟨hm, ht, hto, hN2, hlt, htb, hkl, hvl, hD⟩ := HX.out
    -- the world behind store
    have hL5 : WayI W5 w.heap.size (.slice (some ⟨g, 0, none⟩) (sts.length + 1) c) (sts ++ [⟨q, ⟨true, esJ⟩, vJ, 0⟩]) := hLJ.way.kp hk5 hlt
    have hk05 : Kp O w W5 := hLJ.kp.trans hk5
    have ht5 : TrI W5 P tb := Blk.kp hLJ.ht hk5 hto
    have hg5' : Gr O w.heap.size O1 := hg5.mono hLJ.kp.size
    obtain ⟨W6, hW6⟩ : ∃ W6, W6 = W5.alloc (.cells #[.string (S x.key), .string (S x.val), .int .i64 x.far] 299) := ⟨_, rfl⟩
    have hb6 : Below W5.heap.size W5 W6 := by rw [hW6]; exact (Below.refl _ W5).alloc (Nat.le_refl _) _
    have hs6 : W6.heap.size = W5.heap.size + 1 := by rw [hW6]; simp
    have hX6 : Blk W6 W5.heap.size 299 #[.string (S x.key), .string (S x.val), .int .i64 x.far] := by rw [hW6]; exact Blk.new W5 _ _
    have hL6 : LSt w P O tb W6 g c sts up q esJ vJ pgsJ ∨ True := .inr trivial
    have hway6 : WayI W6 w.heap.size (.slice (some ⟨g, 0, none⟩) (sts.length + 1) c) (sts ++ [⟨q, ⟨true, esJ⟩, vJ, 0⟩]) := hL5.of_blocks (fun b _ hb => hb6.block b hb)
    obtain ⟨g', c', tpJ, tcJ, e1, hvJ, _, hgw, hg5w, cell5, _⟩ := way_last hL5
    injection e1 with e1 _ e1c
    injection e1 with e1
    injection e1 with e1
    subst e1 e1c
    simp only at hvJ
    subst hvJ
    have A1 : W6.cell? ⟨g, sts.length * 4 + 1 + 1, none⟩ = some (.slice tpJ esJ.length tcJ) := (hb6.cell (p := ⟨g, _, none⟩) hg5w).trans (cell5 2 _ rfl)
    have hrowJ : W6.ownsRow w.heap.size 299 3 (.slice tpJ esJ.length tcJ) esJ.length (rowV enC esJ) := hway6.row ⟨q, ⟨true, esJ⟩, .slice tpJ esJ.length tcJ, 0⟩ (by simp)
    have hrow5 : W5.ownsRow w.heap.size 299 3 (.slice tpJ esJ.length tcJ) esJ.length (rowV enC esJ) := hL5.row ⟨q, ⟨true, esJ⟩, .slice tpJ esJ.length tcJ, 0⟩ (by simp)
    have hszw : w.heap.size ≤ W5.heap.size := hk05.size
    obtain ⟨hul, hE, hsid, hnd, hin, hlen, hsl, hcap, hH⟩ := HY.out
    have hcl := cnt_le k es
    have htk : (es.take (cnt k es)).length = cnt k es := by simp; omega
    have hlJ : cnt k es ≤ esJ.length ∧ esJ.length ≤ 40 := by
      rw [hesJ, List.length_append, htk, List.length_drop]
      have : cnt k es ≤ cntE k es (hasB k es) := by unfold cntE; split <;> omega
      omega
    have hins : insL esJ (cnt k es) x = es.take (cnt k es) ++ x :: es.drop (cntE k es (hasB k es)) := by
      unfold insL
      rw [hesJ, List.take_append_of_le_length (by omega), List.take_of_length_le (by omega), List.drop_append, List.drop_of_length_le (l := List.take (cnt k es) es) (by omega), htk, Nat.sub_self, List.drop_zero, List.nil_append]
    have HINS : Hid (∀ W, Below W6.heap.size W6 W → Calls Tryz.prog 170 #[.slice tpJ esJ.length tcJ, .int .i64 (cnt k es), .slice (some ⟨W.heap.size, 0, none⟩) 1 1] (W.alloc (.cells #[.string (S x.key), .string (S x.val), .int .i64 x.far] 299)) fun e w' => ∃ v', e = .returned v' ∧
        w'.ownsRow w.heap.size 299 3 v' (esJ.length + 1) (rowV enC (es.take (cnt k es) ++ x :: es.drop (cntE k es (hasB k es)))) ∧ Kp (Value.slice tpJ esJ.length tcJ).ownBlock.toList (W.alloc (.cells #[.string (S x.key), .string (S x.val), .int .i64 x.far] 299)) w' ∧ (∀ g, v'.ownBlock = some g → (Value.slice tpJ esJ.length tcJ).ownBlock = some g ∨ (W.alloc (.cells #[.string (S x.key), .string (S x.val), .int .i64 x.far] 299)).heap.size ≤ g)) := hid fun W hW => by
      have hWs := hW.size
      have := insertE_any (w := W.alloc (.cells #[.string (S x.key), .string (S x.val), .int .i64 x.far] 299)) (B := w.heap.size) (vb := W.heap.size) (i := cnt k es) (x := x) (row_of hrowJ (fun b hb => (Below.heap_alloc W _ b (by have := (hrowJ.lt b hb).2; omega)).trans (hW.block b (hrowJ.lt b hb).2))) (Blk.new W _ _) (fun e => by have := (hrowJ.lt _ e).2; omega) (by simp; omega) (by omega) (by omega)
      rw [hins] at this
      exact this
    have hvl6 : ∀ b, (Value.slice tpJ esJ.length tcJ).ownBlock = some b → b < W5.heap.size ∧ b ≠ g ∧ w.heap.size ≤ b := fun b hb => ⟨(hrow5.lt b hb).2, fun e => own_apart hrow5 hL5.own (by decide) b hb (by rw [e]; rfl), (hrow5.lt b hb).1⟩
    have stay : ∀ {W W' : World} {p : Addr} {u : Value}, Below W6.heap.size W6 W → Kp (Value.slice tpJ esJ.length tcJ).ownBlock.toList (W.alloc (.cells #[.string (S x.key), .string (S x.val), .int .i64 x.far] 299)) W' → W6.cell? p = some u → (p.block = g ∨ W5.heap.size ≤ p.block) → W'.cell? p = some u := fun {W W' p u} hW hkk h1 h2 => by
      have hlt := block_lt_of_cell h1
      have hWs := hW.size
      rw [hkk.cell (by simp; omega) (fun hm => by
        rw [Option.mem_toList] at hm
        have := hvl6 _ hm
        omega)]
      exact ((World.cell?_of_block (Below.heap_alloc W _ p.block (by omega))).trans (hW.cell hlt)).trans h1
    have x0 : W6.cell? ⟨W5.heap.size, 0, none⟩ = some (.string (S x.key)) := hX6.cell 0
    have x1 : W6.cell? ⟨W5.heap.size, 1, none⟩ = some (.string (S x.val)) := hX6.cell 1
    have x2 : W6.cell? ⟨W5.heap.size, 2, none⟩ = some (.int .i64 x.far) := hX6.cell 2
    have hlt6 := hX6.lt
    have HS4 : Hid (∀ W, Below W6.heap.size W6 W → W.cell? ⟨W5.heap.size, 0, none⟩ = some (.string (S x.key)) ∧ W.cell? ⟨W5.heap.size, 1, none⟩ = some (.string (S x.val)) ∧ W.cell? ⟨W5.heap.size, 2, none⟩ = some (.int .i64 x.far)) := hid fun W hW => ⟨(hW.cell hlt6).trans x0, (hW.cell hlt6).trans x1, (hW.cell hlt6).trans x2⟩
    have HS5 : Hid (∀ W W', Below W6.heap.size W6 W → Kp (Value.slice tpJ esJ.length tcJ).ownBlock.toList (W.alloc (.cells #[.string (S x.key), .string (S x.val), .int .i64 x.far] 299)) W' → W'.cell? ⟨W5.heap.size, 0, none⟩ = some (.string (S x.key)) ∧ W'.cell? ⟨W5.heap.size, 1, none⟩ = some (.string (S x.val)) ∧ W'.cell? ⟨W5.heap.size, 2, none⟩ = some (.int .i64 x.far)) := hid fun W W' hW hkk =>
      ⟨stay hW hkk x0 (.inr (Nat.le_refl _)), stay hW hkk x1 (.inr (Nat.le_refl _)), stay hW hkk x2 (.inr (Nat.le_refl _))⟩
    have HFR : Hid (∀ W W', Below W6.heap.size W6 W → Kp (Value.slice tpJ esJ.length tcJ).ownBlock.toList (W.alloc (.cells #[.string (S x.key), .string (S x.val), .int .i64 x.far] 299)) W' → W'.frozen? ⟨g, sts.length * 4 + 1 + 1, none⟩ = false) := hid fun W W' hW hkk => by
      have hWs := hW.size
      rw [hkk.frozen (p := ⟨g, _, none⟩) (by simp; omega) (fun hm => by
        rw [Option.mem_toList] at hm
        exact (hvl6 _ hm).2.1 rfl)]
      exact ((World.frozen?_of_block (Below.heap_alloc W _ g (by omega))).trans (World.frozen?_of_block (hW.block g (by omega)))).trans (own_frozen hway6.own _)
    have HS6 : Hid (∀ (W : World) u, W.cell? ⟨W5.heap.size, 0, none⟩ = some (.string (S x.key)) ∧ W.cell? ⟨W5.heap.size, 1, none⟩ = some (.string (S x.val)) ∧ W.cell? ⟨W5.heap.size, 2, none⟩ = some (.int .i64 x.far) → (W.setCell ⟨g, sts.length * 4 + 1 + 1, none⟩ u).cell? ⟨W5.heap.size, 0, none⟩ = some (.string (S x.key)) ∧ (W.setCell ⟨g, sts.length * 4 + 1 + 1, none⟩ u).cell? ⟨W5.heap.size, 1, none⟩ = some (.string (S x.val)) ∧ (W.setCell ⟨g, sts.length * 4 + 1 + 1, none⟩ u).cell? ⟨W5.heap.size, 2, none⟩ = some (.int .i64 x.far)) := hid fun W u hs =>
      ⟨(World.cell?_of_block (Below.heap_setCell W ⟨g, _, none⟩ u W5.heap.size (by show W5.heap.size ≠ g; omega))).trans hs.1, (World.cell?_of_block (Below.heap_setCell W ⟨g, _, none⟩ u W5.heap.size (by show W5.heap.size ≠ g; omega))).trans hs.2.1, (World.cell?_of_block (Below.heap_setCell W ⟨g, _, none⟩ u W5.heap.size (by show W5.heap.size ≠ g; omega))).trans hs.2.2⟩
    have HA1 : Hid (∀ W W', Below W6.heap.size W6 W → Kp (Value.slice tpJ esJ.length tcJ).ownBlock.toList (W.alloc (.cells #[.string (S x.key), .string (S x.val), .int .i64 x.far] 299)) W' → W'.cell? ⟨g, sts.length * 4 + 1 + 1, none⟩ = some (.slice tpJ esJ.length tcJ)) := hid fun W W' hW hkk => stay hW hkk A1 (.inl rfl)
    have HR6 := hid (⟨hxk5, hx5, hp5.below hb6, hk05.trans (Kp.of_below hb6), Blk.below ht5 hb6 (Blk.lt ht5), hg5', hway6, hrowJ, hs6, hg5w, hgw, hlJ, hvl6, hins, hszw⟩ : _ ∧ _ ∧ _ ∧ _ ∧ _ ∧ _ ∧ _ ∧ _ ∧ _ ∧ _ ∧ _ ∧ _ ∧ _ ∧ _ ∧ _)
    have HGO := hid hg5
    clear hm ht hto hN2 hlt htb hkl hvl hD hul hE hsid hnd hin hlen hsl hcap hH hLJ hHJ hesJ hFJ hsmJ hxk5 hx5 hp5 hk5 hg5 hL5 hk05 ht5 hg5' hb6 hX6 hL6 hway6 hrowJ hrow5 hszw hcl htk hlJ hins hvl6 stay cell5 x0 x1 x2
    go_wp2
    rw [← hW6]
    clear hW6 hs6
    have hgw6 : g < W6.heap.size := by obtain ⟨_, _, _, _, _, _, _, _, h1, h2, _⟩ := HR6.out; omega
    have hx6 := HS4.out W6 (Below.refl _ _)
    obtain ⟨x0, x1, x2⟩ := hx6
    go_region_law (first
        | (go_simp; refine (HINS.out _ (Below.refl _ _).drew).mono ?_; rintro e w1 ⟨v', rfl, ho', hk', hat'⟩; have hfr := HFR.out _ _ (Below.refl _ _).drew hk'; have q1 := HA1.out _ _ (Below.refl _ _).drew hk'; have hb7 := ((Below.refl W6.heap.size W6).drew).alloc (Nat.le_refl _) (.cells #[.string (S x.key), .string (S x.val), .int .i64 x.far] 299); obtain ⟨va', vc', rfl⟩ := own_slice2 ho'; dsimp only)
        | (go_simp; refine (HINS.out _ (Below.refl _ _)).mono ?_; rintro e w1 ⟨v', rfl, ho', hk', hat'⟩; have hfr := HFR.out _ _ (Below.refl _ _) hk'; have q1 := HA1.out _ _ (Below.refl _ _) hk'; have hb7 := ((Below.refl W6.heap.size W6)).alloc (Nat.le_refl _) (.cells #[.string (S x.key), .string (S x.val), .int .i64 x.far] 299); obtain ⟨va', vc', rfl⟩ := own_slice2 ho'; dsimp only))
    all_goals
      obtain ⟨hLJ, hHJ, hesJ, hFJ, hsmJ⟩ := HJ.out
      obtain ⟨hm, ht, hto, hN2, hlt, htb, hkl, hvl, hD⟩ := HX.out
      obtain ⟨hul, hE, hsid, hnd, hin, hlen, hsl, hcap, hH⟩ := HY.out
      obtain ⟨hxk5, hx5, hp6, hk06, ht6, hg5', hway6, hrowJ, hs6, hg5w, hgw, hlJ, hvl6, hins, hszw⟩ := HR6.out
      have h7s := hb7.size
      have h17s := hk'.size
      have hI7 := hway6.of_blocks (fun b _ hlt => hb7.block b hlt)
      have hls : (es.take (cnt k es) ++ x :: es.drop (cntE k es (hasB k es))).length = esJ.length + 1 := by rw [hesJ]; simp; omega
      have hI8 := hI7.setv (w' := w1) (n2 := ⟨true, es.take (cnt k es) ++ x :: es.drop (cntE k es (hasB k es))⟩) (v2 := .slice va' (esJ.length + 1) vc') rfl (by simp only; rw [hls]; exact ho') (fun b _ hlt hne => hk'.block b hlt (fun hm => hne (Option.mem_toList.1 hm)))
        (fun t ht b hb e => (hat' b e).elim (fun h => (List.pairwise_append.1 hway6.nd).2.2 t ht _ (List.mem_singleton_self _) b hb h) (fun h => by have := ((hway6.row t (List.mem_append_left _ ht)).lt b hb).2; omega))
        (fun e => (hat' g e).elim (fun h => (hvl6 g h).2.1 rfl) (fun h => by omega))
      have hblk : ∀ b, b < W5.heap.size → b ≠ g → (∀ b', (Value.slice tpJ esJ.length tcJ).ownBlock = some b' → b ≠ b') → (w1.setCell ⟨g, sts.length * 4 + 1 + 1, none⟩ (.slice va' (esJ.length + 1) vc')).heap[b]? = W6.heap[b]? := fun b hb hbg hbv => by
        rw [Below.heap_setCell _ ⟨g, _, none⟩ _ b hbg]
        exact (hk'.block b (by omega) (fun hm => hbv b (Option.mem_toList.1 hm) rfl)).trans (hb7.block b (by omega))
      have hbase : ∀ b, b < w.heap.size → (w1.setCell ⟨g, sts.length * 4 + 1 + 1, none⟩ (.slice va' (esJ.length + 1) vc')).heap[b]? = W6.heap[b]? := fun b hb => hblk b (by omega) (by omega) (fun b' hb' e => by have := (hvl6 b' hb').2.2; omega)
      have hsz8 : (w1.setCell ⟨g, sts.length * 4 + 1 + 1, none⟩ (.slice va' (esJ.length + 1) vc')).heap.size = w1.heap.size := by simp [World.setCell]
      have hk8 : Kb w.heap.size O w (w1.setCell ⟨g, sts.length * 4 + 1 + 1, none⟩ (.slice va' (esJ.length + 1) vc')) :=
        ⟨(hk'.os.trans hb7.os).trans hk06.os, (hk'.tape.trans hb7.tape).trans hk06.tape, (hk'.output.trans hb7.output).trans hk06.output, by rw [hsz8]; omega, fun b hb ho => (hbase b hb).trans (hk06.block b hb ho)⟩
      have hnO1 : ∀ b, w.heap.size ≤ b → b < WJ.heap.size → b ∉ O1 := fun b h1 h2 hb => by
        rcases HGO.out b hb with h | h
        · have := hlt b h; omega
        · omega
      have hvO : ∀ b, (Value.slice tpJ esJ.length tcJ).ownBlock = some b → b < WJ.heap.size := fun b hb => by
        obtain ⟨_, _, ev, _, _, _, _, _, hr, _⟩ := hLJ.cells
        exact (hr.lt b hb).2
      have hgJ : g < WJ.heap.size := by
        obtain ⟨_, _, _, _, h, _⟩ := hLJ.cells
        exact h
      have hrows : ∀ s ∈ sts, ∀ b, s.v.ownBlock = some b → w.heap.size ≤ b ∧ b < WJ.heap.size := fun s hs b hb => (hLJ.way.row s (List.mem_append_left _ hs)).lt b hb
      have hp8 : PoI (w1.setCell ⟨g, sts.length * 4 + 1 + 1, none⟩ (.slice va' (esJ.length + 1) vc')) P O1 pgs5 := hp6.of_blocks (fun b hb => by
        have h1 := hp6.lts b hb
        rw [Below.heap_setCell _ ⟨g, _, none⟩ _ b (fun e => hnO1 g hgw hgJ (by rw [← show b = g from e]; exact hb))]
        exact (hk'.block b (by omega) (fun hm => hnO1 b (hvl6 b (Option.mem_toList.1 hm)).2.2 (hvO b (Option.mem_toList.1 hm)) hb)).trans (hb7.block b h1))
      have htr8 : TrI (w1.setCell ⟨g, sts.length * 4 + 1 + 1, none⟩ (.slice va' (esJ.length + 1) vc')) P tb := (hbase tb htb).trans ht6
      have hto8 : tb ∉ O1 := hg5'.out htb hto
      have hlaid : Laid (pg pgsJ) k v x (pg pgs5) := by
        rcases hx5 with ⟨h1, h2, _, h3⟩ | ⟨h1, p, h2, h3, h4, h5, _⟩
        · exact .inl ⟨h1, h2, by rw [h3]⟩
        · exact .inr ⟨h1, p, h2, h3, h4, h5⟩
      have hs58 : somes pgs5 ≤ somes pgs + 1 := by
        rcases hx5 with ⟨_, _, _, h3⟩ | ⟨_, p, _, _, _, _, h6⟩
        · rw [h3]; omega
        · omega
      obtain ⟨g1, g2⟩ := cnt_split hnd.2.1.2 k
      have hgt := filter_gt hnd.2.1.2 k (hasB k es) (hasB_iff k es)
      have hb8 : ∀ y ∈ es.drop (cntE k es (hasB k es)), k < y.key := fun y hy => by
        rw [← hgt] at hy
        simpa using (List.mem_filter.1 hy).2
      obtain ⟨hH8, hF8⟩ := hHJ.put hesJ hlaid hkl hvl g1 hb8 hin
      have hnB : nB (es.take (cnt k es) ++ x :: es.drop (cntE k es (hasB k es))) ≤ 302 := by
        have h1 := rightE_enB (hlaid.right hkl).1
        have h2 := hnd.2.2
        have h3 : nB (es.take (cnt k es)) + nB (es.drop (cntE k es (hasB k es))) ≤ nB es := by
          have := nB_take_drop es (cnt k es)
          have h4 : nB (es.drop (cntE k es (hasB k es))) ≤ nB (es.drop (cnt k es)) := by
            unfold cntE
            split
            · have := nB_take_drop (es.drop (cnt k es)) 1
              rw [List.drop_drop] at this
              omega
            · exact Nat.le_refl _
          omega
        rw [nB_append, nB_cons]
        simp only at h2
        omega
      have hsst := hH8.sst (by simp) hnB
      have hset := settle_any (up := up) htb htr8 hto8 hp8 hI8 hLJ.fms ⟨fun b hb => by
          have e : some g = some b := hb
          injection e with e
          rw [← e]; exact hnO1 g hgw hgJ, fun s hs b hb => by
          rcases List.mem_append.1 hs with hs | hs
          · exact hnO1 b (hrows s hs b hb).1 (hrows s hs b hb).2
          · rw [List.mem_singleton.1 hs] at hb
            rcases hat' b hb with h | h
            · exact hnO1 b (hvl6 b h).2.2 (hvO b h)
            · intro hm
              have := hp6.lts b hm
              omega⟩ (by omega) hsst (by omega) (by omega)
      have HSET := hid hset
      have HZ := hid (⟨hH8, hF8, hlaid, hk8, hto8, htr8⟩ : _ ∧ _ ∧ _ ∧ _ ∧ _ ∧ _)
      clear hm ht hto hN2 hlt htb hkl hvl hD hul hE hsid hnd hin hlen hsl hcap hH hLJ hHJ hesJ hFJ hsmJ hxk5 hx5 hp6 hk06 ht6 hg5' hway6 hrowJ hs6 hg5w hgw hlJ hvl6 hins hszw h7s h17s hI7 hls hI8 hblk hbase hk8 hnO1 hvO hgJ hrows hp8 htr8 hto8 hlaid hs58 g1 g2 hgt hb8 hH8 hF8 hnB hsst hset hsz8 hat' ho' hk' hb7
      go_wp2_with fail
      (with_reducible refine HSET.out.mono ?_)
      rintro e W9 ⟨O', pgs', D', ps', rfl, hp9, hsd9, hkb9, hgr9, hs9⟩
      have fin : ∃ O', TreeI W9 P O' tb (N + 1) (setM (kvs (pg pgs) E) k v) ∧ Kp O w W9 ∧ Gr O w.heap.size O' := by
        obtain ⟨hH8, hF8, hlaid, hk8, hto8, htr8⟩ := HZ.out
        obtain ⟨hLJ, hHJ, hesJ, hFJ, hsmJ⟩ := HJ.out
        obtain ⟨hm, ht, hto, hN2, hlt, htb, hkl, hvl, hD⟩ := HX.out
        obtain ⟨hul, hE, hsid, hnd, hin, hlen, hsl, hcap, hH⟩ := HY.out
        obtain ⟨hxk5, hx5, hp6, hk06, ht6, hg5', _⟩ := HR6.out
        rw [Nat.zero_add] at hsd9
        obtain ⟨hM9, hF9⟩ := hH8.done hsd9
        have hkv := kvs_set (m := pg pgs) hE hsid.1 hsid.2 hnd.2.1.2 (hasB_iff k es) (fun r hr => (hF8 r hr).trans (hFJ r (by rw [hesJ]; exact hr))) hF9 (hlaid.kv hvl)
        exact ⟨O', ⟨pgs', D', _, ps', hp9, (hkb9.block tb htb hto8).trans htr8, hgr9.out (Blk.lt htr8) hto8, hM9, by omega, hkv⟩, (hk8.trans_gr hg5' (Nat.le_refl _) hkb9).to_kp, hg5'.trans hgr9 hk8.size⟩
      have FIN := hid fin
      clear fin hp9 hsd9 hkb9 hgr9 hs9
      go_wp2
      go_ret
      obtain ⟨O', h1, h2, h3⟩ := FIN.out
      exact ⟨O', rfl, h1, h2, h3⟩
end
end Go.Proofs.YtnnghcooidjlhaaGreat
end
