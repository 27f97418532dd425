/- Parts of the proof: Ih. -/
import Derived.Deep.RegionLaw
import Derived.Test.YtnnghcooidjlhaaGreatD19
set_option linter.all false
set_option maxRecDepth 100000
namespace Go.Proofs.YtnnghcooidjlhaaGreat
section
open Go.RowKit Go.Lib
def NoO (O : List Nat) (v : Value) (sts : List St) : Prop := (∀ g, v.ownBlock = some g → g ∉ O) ∧ ∀ s ∈ sts, ∀ g, s.v.ownBlock = some g → g ∉ O
theorem EnI.of_own' {w : World} {B n : Nat} {v : Value} {l : List En} (h : w.ownsRow B 299 3 v n (rowV enC l)) : EnI w v l := by
 have hn : n = l.length := by
  have := h.1
  rw [rowV_length enC_len] at this
  omega
 subst hn
 exact EnI.of_own h
theorem SSt.strip_eq {m : Mp} {d q : Nat} {n : Nd} {up : List Fm} {E : List En} {ps : List PN} (h : SSt m d q n up E ps) : strip n = n := by
 obtain ⟨_, _, _, _, _, _, h2, _⟩ := h.x
 exact h2.strip_eq
theorem SSt.len {m : Mp} {d q : Nat} {n : Nd} {up : List Fm} {E : List En} {ps : List PN} (h : SSt m d q n up E ps) : n.l.length ≤ 43 := by
 have hb := h.big
 have : ∀ l : List En, 7 * l.length ≤ nB l := fun l => by
  induction l with
  | nil => simp
  | cons x t ih => simp [enB]; omega
 have := this n.l
 split at hb <;> omega
theorem strip_take {n : Nd} {i : Nat} (h : strip n = n) (hi : 0 < i) : strip ⟨n.leaf, n.l.take i⟩ = ⟨n.leaf, n.l.take i⟩ := by
 obtain ⟨lf, l⟩ := n
 cases lf with
 | true => rfl
 | false =>
  cases l with
  | nil => simp [strip]
  | cons x t =>
   obtain ⟨i, rfl⟩ : ∃ k, i = k + 1 := ⟨i - 1, by omega⟩
   rw [strip_inner] at h
   simp only [List.take_succ_cons]
   rw [strip_inner]
   injection h with _ h
   injection h with h _
   rw [h]
def slOf (W : World) (p : Addr) : Value := (W.cell? p).getD (.bool false)
attribute [irreducible] slOf
theorem own_frozen {w : World} {B g n c s m : Nat} {T : TypeId} {xs : List Value} (h : w.ownsRow B T s (.slice (some ⟨g, 0, none⟩) n c) m xs) (i : Nat) : w.frozen? ⟨g, i, none⟩ = false := by
 rcases h.2 with ⟨h', _⟩ | ⟨g', c', cur, e, h1, h2, h3, h4, h5, h6⟩
 ·cases h'
 ·injection e with e1 e2 e3
  injection e1 with e1
  injection e1 with e1 _ _
  subst e1
  exact Blk.frozen (t := T) (cs := cur) h2 i
theorem WayI.kpo {w w' : World} {B : Nat} {O : List Nat} {v : Value} {sts : List St} (h : WayI w B v sts) (hk : Kp O w w') (ho : NoO O v sts) : WayI w' B v sts :=
 ⟨row_of h.own (fun b hb => hk.block b (h.own.lt b hb).2 (ho.1 b hb)), fun s hs => row_of (h.row s hs) (fun b hb => hk.block b ((h.row s hs).lt b hb).2 (ho.2 s hs b hb)), h.nd⟩
def SetPost (P : PL) (B : Nat) (O : List Nat) (pgs : List (Option Bs)) (d h : Nat) (ps : List PN) (E : List En) (w : World) (e : Ending) (w' : World) : Prop :=
 ∃ O' pgs' D ps', e = .returned (.int .i64 0) ∧ PoI w' P O' pgs' ∧ SDn (pg pgs) d h ps (pg pgs') D E ps' ∧ Kb B O w w' ∧ Gr O w.heap.size O' ∧ somes pgs' ≤ somes pgs + (h - d) + 2
theorem way_last {w : World} {B : Nat} {v : Value} {sts : List St} {s : St} (hW : WayI w B v (sts ++ [s])) : ∃ g c tp tc, v = .slice (some ⟨g, 0, none⟩) (sts.length + 1) c ∧ s.v = .slice tp s.n.l.length tc ∧ sts.length + 1 ≤ c ∧ B ≤ g ∧ g < w.heap.size ∧
  (∀ i u, (stC s)[i]? = some u → w.cell? ⟨g, sts.length * 4 + i, none⟩ = some u) ∧ EnI w s.v s.n.l := by
 obtain ⟨g, c, rfl, hg1, hg2, hg3⟩ := own_form hW.own (by simp)
 have hln : (sts ++ [s]).length = sts.length + 1 := by simp
 have hown := hW.own
 rw [hln] at hown hg3 ⊢
 have hrl : w.ownsRow B 299 3 s.v s.n.l.length (rowV enC s.n.l) := hW.row s (by simp)
 obtain ⟨tp, tc, e⟩ := own_slice2 hrl
 refine ⟨g, c, tp, tc, rfl, e, by assumption, by assumption, by assumption, fun i u hi => own_at hown rfl (j := sts.length * 4 + i) ?_, EnI.of_own' hrl⟩
 rw [rowV_append, List.getElem?_append_right (by rw [rowV_length stC_len]; omega), rowV_length stC_len, Nat.add_sub_cancel_left]
 have hlt : i < 4 := by
  have := (List.getElem?_eq_some_iff.1 hi).1
  rw [stC_len] at this
  exact this
 simpa using hi
set_option maxHeartbeats 8000000 in
theorem settle_fits {w : World} {P : PL} {O : List Nat} {pgs : List (Option Bs)} {tb d q at_ B : Nat} {n : Nd} {v vl : Value} {sts : List St} {E : List En} {ps : List PN} {up : List Fm}
  (ht : TrI w P tb) (htB : tb < B) (hp : PoI w P O pgs) (hW : WayI w B v (sts ++ [⟨q, n, vl, at_⟩])) (hsl : sts.length = up.length) (hBw : B ≤ w.heap.size) (hS : SSt (pg pgs) d q n up E ps) (hul : up.length ≤ 100) (hfit : nB n.l ≤ 223) :
  Calls Tryz.prog 171 #[.pointer (some ⟨tb, 0, none⟩), v] w fun e w' => SetPost P B O pgs d (d + up.length) ps E w e w' := by
 obtain ⟨g, c, tp, tc, rfl, hvl, hg1, hg2, hg3, cell, hEn⟩ := way_last hW
 simp only at hvl hEn
 subst hvl
 have l0 := cell 0 _ rfl
 have l1 := cell 1 _ rfl
 have l2 := cell 2 _ rfl
 have l3 := cell 3 _ rfl
 rw [Nat.add_zero] at l0
 simp only at l0 l1 l2 l3
 obtain ⟨bq, hbq⟩ := hS.al
 have hst := hS.strip_eq
 have hnl := hS.len
 have w9 : IntKind.i64.wrap ((sts.length : Int) + 1 - 1) = (sts.length : Int) := by rw [IntKind.wrap_i64]; omega
 have hbA : Below w.heap.size w (w.alloc (.cells #[.int .i64 q, .bool n.leaf, .slice tp n.l.length tc, .int .i64 at_] 294)) := (Below.refl _ w).alloc (Nat.le_refl _) _
 have hsz : (sts.length : Int) + 1 < 1000 := by omega
 have HWR := hid (write_fits (w := w.alloc (.cells #[.int .i64 q, .bool n.leaf, .slice tp n.l.length tc, .int .i64 at_] 294)) (O := O) (q := q) (n := n) (ht.below hbA (Nat.lt_of_lt_of_le htB hBw)) (hp.below hbA) (pg_some.1 hbq) (by rw [hst]; exact hS.may) (hEn.below hbA) (by omega) (by rw [hst]; exact hfit))
 unfold ndV at HWR
 have HQL := hid (pg_lt hbq)
 have HSM := hid (somes_set_same pgs q bq (pgOf (strip n)) (pg_some.1 hbq))
 obtain ⟨ps', hdn⟩ := hS.fits hfit
 have HDN := hid hdn
 have HST := hid hst
 have HBW := hid hBw
 clear ht hp hS hW hul hst hEn hnl hbA cell hbq hdn htB hBw hfit hsl hg1 hg2 hg3
 go_enter Tryz.func171, Tryz.ntmps171
 go_wp2_with fail
 (with_reducible refine HWR.out.mono ?_)
 rintro e W1 ⟨rfl, hk1, hp1⟩
 have HK1 := hid hk1
 have HP1 := hid hp1
 clear hk1 hp1
 go_wp2
 go_ret
 refine ⟨O, _, d + up.length, ps', rfl, HP1.out, ?_, Kb.of_kp ((Kp.of_below ((Below.refl _ w).alloc (Nat.le_refl _) _)).trans HK1.out) HBW.out, Gr.refl _ _, ?_⟩
 ·rw [HST.out, pg_set HQL.out]
  exact HDN.out
 ·rw [HSM.out]; omega
set_option maxHeartbeats 8000000 in
theorem settle_full {w : World} {P : PL} {O : List Nat} {pgs : List (Option Bs)} {tb d q at_ B : Nat} {n : Nd} {v vl : Value} {sts : List St} {E : List En} {ps : List PN} {up : List Fm}
  (hto : tb ∉ O) (ht : TrI w P tb) (htB : tb < B) (hp : PoI w P O pgs) (hW : WayI w B v (sts ++ [⟨q, n, vl, at_⟩])) (hF : Fms sts up) (hNO : NoO O v (sts ++ [⟨q, n, vl, at_⟩])) (hBw : B ≤ w.heap.size) (hS : SSt (pg pgs) d q n up E ps) (hcap : somes pgs + up.length + 2 ≤ 300) (hul : up.length ≤ 100) (hfit : 223 < nB n.l)
  (ih : ∀ f up', up = f :: up' → ∀ {w : World} {O : List Nat} {pgs : List (Option Bs)} {d q at_ : Nat} {n : Nd} {v vl : Value} {sts : List St} {ps : List PN},
   TrI w P tb → tb ∉ O → PoI w P O pgs → WayI w B v (sts ++ [⟨q, n, vl, at_⟩]) → Fms sts up' → NoO O v (sts ++ [⟨q, n, vl, at_⟩]) → B ≤ w.heap.size → SSt (pg pgs) d q n up' E ps → somes pgs + up'.length + 2 ≤ 300 → up'.length ≤ 100 →
   Calls Tryz.prog 171 #[.pointer (some ⟨tb, 0, none⟩), v] w fun e w' => SetPost P B O pgs d (d + up'.length) ps E w e w') :
  Calls Tryz.prog 171 #[.pointer (some ⟨tb, 0, none⟩), v] w fun e w' => SetPost P B O pgs d (d + up.length) ps E w e w' := by
 have hsl := hF.length
 obtain ⟨g, c, tp, tc, rfl, hvl, hg1, hg2, hg3, cell, hEn⟩ := way_last hW
 simp only at hvl hEn
 subst hvl
 have l0 := cell 0 _ rfl
 have l1 := cell 1 _ rfl
 have l2 := cell 2 _ rfl
 have l3 := cell 3 _ rfl
 rw [Nat.add_zero] at l0
 simp only at l0 l1 l2 l3
 have hst := hS.strip_eq
 have hnl := hS.len
 have w9 : IntKind.i64.wrap ((sts.length : Int) + 1 - 1) = (sts.length : Int) := by rw [IntKind.wrap_i64]; omega
 have hbA : Below w.heap.size w (w.alloc (.cells #[.int .i64 q, .bool n.leaf, .slice tp n.l.length tc, .int .i64 at_] 294)) := (Below.refl _ w).alloc (Nat.le_refl _) _
 have hsz : (sts.length : Int) + 1 < 1000 := by omega
 have hmay : mayN (strip n) := by rw [hst]; exact hS.may
 have hfit' : 223 < nB (strip n).l := by rw [hst]; exact hfit
 have hn0 : n.l ≠ [] := fun e => by rw [e] at hfit; simp at hfit
 have HWR := hid (write_full (tb := tb) (w := w.alloc (.cells #[.int .i64 q, .bool n.leaf, .slice tp n.l.length tc, .int .i64 at_] 294)) (q := q) (n := n) hmay (hEn.below hbA) (by omega) hfit')
 unfold ndV at HWR
 have HEN := hid hEn
 have HT := hid ht
 have HP := hid hp
 have HS := hid hS
 have HW := hid hW
 have HF := hid hF
 have HNO := hid hNO
 have HIH := hid ih
 have HX := hid (⟨hto, htB, hBw, hcap, hul, hsl, hst, hnl, hg1, hg2, hg3, hmay, hfit', hfit, hbA⟩ : tb ∉ O ∧ tb < B ∧ B ≤ w.heap.size ∧ somes pgs + up.length + 2 ≤ 300 ∧ up.length ≤ 100 ∧ sts.length = up.length ∧ strip n = n ∧ n.l.length ≤ 43 ∧ sts.length + 1 ≤ c ∧ B ≤ g ∧ g < w.heap.size ∧ mayN (strip n) ∧ 223 < nB (strip n).l ∧ 223 < nB n.l ∧ Below w.heap.size w (w.alloc (.cells #[.int .i64 q, .bool n.leaf, .slice tp n.l.length tc, .int .i64 at_] 294)))
 have hst0 := Blk.new w 294 #[.int .i64 q, .bool n.leaf, .slice tp n.l.length tc, .int .i64 at_]
 have HST0 := hid hst0
 clear ht hp hS hW hF hNO hto htB hBw hcap hul hsl hst hnl hbA cell hEn hg1 hg2 hg3 hmay hfit' hfit hst0 ih
 go_enter Tryz.func171, Tryz.ntmps171
 go_wp2_with fail
 (with_reducible refine HWR.out.mono ?_)
 rintro e W1 ⟨rfl, hk1⟩
 have hN1 := HST0.out.below hk1 (by simp)
 have p0 : W1.cell? ⟨w.heap.size, 0, none⟩ = some (.int .i64 q) := hN1.cell 0
 have p1 : W1.cell? ⟨w.heap.size, 1, none⟩ = some (.bool n.leaf) := hN1.cell 1
 have p2 : W1.cell? ⟨w.heap.size, 2, none⟩ = some (.slice tp n.l.length tc) := hN1.cell 2
 have hlt1 := hN1.lt
 have hb1 : Below w.heap.size w W1 := HX.out.2.2.2.2.2.2.2.2.2.2.2.2.2.2.trans (hk1.mono (by simp))
 have hFI := fits_any (w := W1) (n := n) HX.out.2.2.2.2.2.2.2.2.2.2.2.1 (HEN.out.below hb1) (by have := HX.out.2.2.2.2.2.2.2.1; omega)
 rw [decide_eq_false (by have := HX.out.2.2.2.2.2.2.2.2.2.2.2.2.1; omega)] at hFI
 unfold ndV at hFI
 have HFI := hid hFI
 have HN1 := hid hN1
 have HB1 := hid hb1
 clear hk1 hN1 hb1 hFI
 go_wp2_with fail
 (with_reducible refine HFI.out.mono ?_)
 rintro e W2 ⟨rfl, hk2⟩
 have hN2 := HN1.out.below hk2 hlt1
 have r0 : W2.cell? ⟨w.heap.size, 0, none⟩ = some (.int .i64 q) := hN2.cell 0
 have r1 : W2.cell? ⟨w.heap.size, 1, none⟩ = some (.bool n.leaf) := hN2.cell 1
 have r2 : W2.cell? ⟨w.heap.size, 2, none⟩ = some (.slice tp n.l.length tc) := hN2.cell 2
 have hlt2 := hN2.lt
 have hb2 : Below w.heap.size w W2 := HB1.out.trans (hk2.mono HB1.out.size)
 have HN2 := hid hN2
 have HB2 := hid hb2
 clear hk2 hN2 hb2 p0 p1 p2
 have hrE : ∀ x ∈ n.l, enB x ≤ 79 := fun x hx => rightE_enB ((HX.out.2.2.2.2.2.2.1 ▸ HX.out.2.2.2.2.2.2.2.2.2.2.2.1 : mayN n).1 x hx)
 have h2l : 2 ≤ n.l.length := by
  have h223 := HX.out.2.2.2.2.2.2.2.2.2.2.2.2.2.1
  match hnl : n.l with
  | [] => rw [hnl] at h223; simp at h223
  | [x] =>
   rw [hnl] at h223
   have := hrE x (by rw [hnl]; simp)
   simp at h223
   omega
  | _ :: _ :: _ => simp
 have HH := hid (halves_any (w := W2) (HEN.out.below HB2.out) h2l (by have := HX.out.2.2.2.2.2.2.2.1; omega) hrE)
 unfold ndV at HH
 clear hrE h2l
 go_wp2_with fail
 (with_reducible refine HH.out.mono ?_)
 rintro e W3 ⟨i, v1, v2, hhf, rfl, ho1, ho2, hv12, hk3⟩
 obtain ⟨a1, c1, rfl⟩ := own_slice2 ho1
 obtain ⟨gq2, c2, rfl, hgq1, hgq2, hgq3⟩ := own_form ho2 (by have := hhf.2.1; omega)
 have hb3 : Below w.heap.size w W3 := HB2.out.trans (hk3.mono HB2.out.size)
 have HB3 := hid hb3
 have HO1 := hid ho1
 have HO2 := hid ho2
 have HV12 := hid hv12
 have HHF := hid hhf
 have hsz3 : W2.heap.size ≤ W3.heap.size := hk3.size
 have HN3 := hid (HN2.out.below hk3 hlt2)
 have HGQ := hid (⟨hgq1, hgq2, hgq3⟩ : W2.heap.size ≤ gq2 ∧ gq2 < W3.heap.size ∧ n.l.length - i ≤ c2)
 clear hk3 hb3 ho1 ho2 hv12 hhf r0 r1 r2 hgq1 hgq2 hgq3
 rcases up with _ | ⟨f, up⟩
 ·obtain rfl := HF.out.nil_inv
  have hsl0 : ([] : List St).length = 0 := rfl
  obtain ⟨hto, htB, hBw, hcap, hul, hsl, hst, hnl, hg1, hg2, hg3, hmay, hfit', hfit, hbA⟩ := HX.out
  obtain ⟨rfl, x, t, hdr, hma, hna, hmb, hnb, hsa, hroot⟩ := HS.out.root hfit HHF.out
  have hbN : Below w.heap.size w ((W3.alloc (.cells #[.bool n.leaf, .slice a1 i c1] 292)).alloc (.cells #[.bool n.leaf, .slice (some ⟨gq2, 0, none⟩) (n.l.length - i) c2] 292)) := (HB3.out.alloc HB3.out.size _).alloc (by simp; have := HB3.out.size; omega) _
  have hbN3 : Below W3.heap.size W3 ((W3.alloc (.cells #[.bool n.leaf, .slice a1 i c1] 292)).alloc (.cells #[.bool n.leaf, .slice (some ⟨gq2, 0, none⟩) (n.l.length - i) c2] 292)) := ((Below.refl _ W3).alloc (Nat.le_refl _) _).alloc (by simp) _
  obtain ⟨b0, hb0⟩ := HS.out.al
  have hsz2 := HB2.out.size
  have hi := HHF.out
  have hnO : ∀ {v : Value} {k : Nat} {xs : List Value}, W3.ownsRow W2.heap.size 299 3 v k xs → ∀ g, v.ownBlock = some g → g ∉ O := fun h g hg hgo => by
   have h1 := (h.lt g hg).1
   have h2 := HP.out.lts g hgo
   omega
  have HG := hid (grow_any (w := (W3.alloc (.cells #[.bool n.leaf, .slice a1 i c1] 292)).alloc (.cells #[.bool n.leaf, .slice (some ⟨gq2, 0, none⟩) (n.l.length - i) c2] 292)) (P := P) (O := O) (pgs := pgs) (tb := tb) (HT.out.below hbN (Nat.lt_of_lt_of_le htB hBw)) hto (HP.out.below hbN)
   (a := ⟨n.leaf, n.l.take i⟩) (b := ⟨n.leaf, n.l.drop i⟩) (va := .slice a1 i c1) (vb := .slice (some ⟨gq2, 0, none⟩) (n.l.length - i) c2) (x := x) (t := t)
   (by rw [hsa]; exact hma) ((EnI.of_own' HO1.out).below hbN3) (hnO HO1.out) (by simp; omega) (by rw [hsa]; exact hna)
   hmb ((EnI.of_own' HO2.out).below hbN3) (hnO HO2.out) (by simp; omega) hnb hdr hb0 (by simp at hcap; omega) (fun l r h1 h2 h3 h4 => by
    rw [hsa] at h2
    exact ⟨(hroot l r h1 h2 h3 h4).1, (hroot l r h1 h2 h3 h4).2.1⟩))
  unfold ndV at HG
  simp only [hsa] at HG
  have HR := hid (fun l r h1 h2 h3 h4 => (hroot l r h1 h2 h3 h4).2.2)
  have HBN := hid hbN
  clear hto htB hBw hcap hul hsl hst hnl hg1 hg2 hg3 hmay hfit' hfit hbA hroot hbN hbN3 hb0 hnO hdr hma hna hmb hnb hsa hi hsz2 HIH
  go_wp2_with fail
  (with_reducible refine HG.out.mono ?_)
  rintro e W4 ⟨l, r, O', pgs', rfl, hp4, h1, h2, h3, h4, h5, hk4, hg4, hs4⟩
  obtain ⟨ps', hdn⟩ := HR.out l r h1 h2 h3 h4
  rw [← h5] at hdn
  have HSD := hid hdn
  have HP4 := hid hp4
  have HK4 := hid hk4
  have HG4 := hid hg4
  have HS4 := hid hs4
  clear h1 h2 h3 h4 h5 hdn hp4 hk4 hg4 hs4
  go_wp2
  go_ret
  have hBw := HX.out.2.2.1
  refine ⟨O', pgs', d + 1, ps', rfl, HP4.out, HSD.out, (Kb.of_kp ((Kp.of_below HBN.out).trans HK4.out) hBw), HG4.out.mono HBN.out.size, ?_⟩
  rw [HS4.out]; omega
 ·obtain ⟨sts', vf, hse, hF'⟩ := HF.out.inv
  obtain ⟨hto, htB, hBw, hcap, hul, hsl, hst, hnl, hg1, hg2, hg3, hmay, hfit', hfit, hbA⟩ := HX.out
  obtain ⟨x, t, hdr, hma, hna, hmb, hnb, hne0, hmf, hsplit⟩ := HS.out.split hfit HHF.out
  have hk : sts.length = sts'.length + 1 := by rw [hse]; simp
  have hi := HHF.out
  have hsa := strip_take (i := i) hst hi.1
  have hbN : Below w.heap.size w ((W3.alloc (.cells #[.bool n.leaf, .slice a1 i c1] 292)).alloc (.cells #[.bool n.leaf, .slice (some ⟨gq2, 0, none⟩) (n.l.length - i) c2] 292)) := (HB3.out.alloc HB3.out.size _).alloc (by simp; have := HB3.out.size; omega) _
  have hbN3 : Below W3.heap.size W3 ((W3.alloc (.cells #[.bool n.leaf, .slice a1 i c1] 292)).alloc (.cells #[.bool n.leaf, .slice (some ⟨gq2, 0, none⟩) (n.l.length - i) c2] 292)) := ((Below.refl _ W3).alloc (Nat.le_refl _) _).alloc (by simp) _
  obtain ⟨b0, hb0⟩ := HS.out.al
  have hsz2 := HB2.out.size
  have hnO : ∀ {v : Value} {k : Nat} {xs : List Value}, W3.ownsRow W2.heap.size 299 3 v k xs → ∀ g, v.ownBlock = some g → g ∉ O := fun h g hg hgo => by
   have h1 := (h.lt g hg).1
   have h2 := HP.out.lts g hgo
   omega
  have hM := make_any (w := ((W3.alloc (.cells #[.bool n.leaf, .slice a1 i c1] 292)).alloc (.cells #[.bool n.leaf, .slice (some ⟨gq2, 0, none⟩) (n.l.length - i) c2] 292))) (P := P) (O := O) (pgs := pgs) (tb := tb) (HT.out.below hbN (Nat.lt_of_lt_of_le htB hBw)) (HP.out.below hbN) (n := ⟨n.leaf, n.l.drop i⟩) (v := .slice (some ⟨gq2, 0, none⟩) (n.l.length - i) c2) hmb ((EnI.of_own' HO2.out).below hbN3) (by simp; omega) hnb (by simp at hcap; omega)
  unfold ndV at hM
  have HM := hid hM
  have hne : sts ≠ [] := by rw [hse]; simp
  have hsn : ¬ sts.length = 0 := by omega
  have w8 : IntKind.i64.wrap ((sts.length : Int) + 1 - 2) = ((sts'.length : Nat) : Int) := by rw [IntKind.wrap_i64]; omega
  have hb8 : (sts'.length : Int) < (sts.length : Int) + 1 := by omega
  have HQ := hid (⟨hse, hF', hma, hna, hmf, hsplit, hk, hi, hsa, hbN, hbN3, hb0, hdr⟩ : _ ∧ _ ∧ _ ∧ _ ∧ _ ∧ _ ∧ _ ∧ _ ∧ _ ∧ _ ∧ _ ∧ _ ∧ _)
  have HNO1 := hid (hnO HO1.out)
  have HNO2 := hid (hnO HO2.out)
  clear hto htB hBw hcap hul hsl hst hnl hg1 hg2 hg3 hmay hfit' hfit hbA hsplit hbN hbN3 hb0 hnO hdr hma hna hmb hnb hsa hi hsz2 hne0 hmf hM hse hF' hk
  go_wp2_with fail
  (with_reducible refine HM.out.mono ?_)
  rintro e W5 ⟨r, O1, rfl, hr1, hr2, hp5, hk5, hg5⟩
  obtain ⟨hse, hF', hma, hna, hmf, hsplit, hk, hi, hsa, hbN, hbN3, hb0, hdr⟩ := HQ.out
  obtain ⟨hto, htB, hBw, hcap, hul, hsl, hst, hnl, hg1, hg2, hg3, hmay, hfit', hfit, hbA⟩ := HX.out
  have hkW5 : Kp O w W5 := (Kp.of_below hbN).trans hk5
  have hgr5 : Gr O w.heap.size O1 := hg5.mono hbN.size
  have hb8N : Blk ((W3.alloc (.cells #[.bool n.leaf, .slice a1 i c1] 292)).alloc (.cells #[.bool n.leaf, .slice (some ⟨gq2, 0, none⟩) (n.l.length - i) c2] 292)) (W3.heap.size + 1) 292 #[.bool n.leaf, .slice (some ⟨gq2, 0, none⟩) (n.l.length - i) c2] := by
   have := Blk.new (W3.alloc (.cells #[.bool n.leaf, .slice a1 i c1] 292)) 292 #[.bool n.leaf, .slice (some ⟨gq2, 0, none⟩) (n.l.length - i) c2]
   simpa using this
  have hb7N : Blk ((W3.alloc (.cells #[.bool n.leaf, .slice a1 i c1] 292)).alloc (.cells #[.bool n.leaf, .slice (some ⟨gq2, 0, none⟩) (n.l.length - i) c2] 292)) W3.heap.size 292 #[.bool n.leaf, .slice a1 i c1] := (Blk.new W3 292 #[.bool n.leaf, .slice a1 i c1]).alloc _
  have hszB3 := HB3.out.size
  have hNN : ∀ k, w.heap.size ≤ k → k ∉ O := fun k hk hko => by have := HP.out.lts k hko; omega
  have hb85 := hb8N.kp hk5 (hNN _ (by omega))
  have hb75 := hb7N.kp hk5 (hNN _ (by omega))
  have z0 : W5.cell? ⟨W3.heap.size, 0, none⟩ = some (.bool n.leaf) := hb75.cell 0
  have z1 : W5.cell? ⟨W3.heap.size, 1, none⟩ = some (.slice a1 i c1) := hb75.cell 1
  have hz0 := hb75.lt
  have hS5 := ((HN3.out.alloc (.cells #[.bool n.leaf, .slice a1 i c1] 292)).alloc (.cells #[.bool n.leaf, .slice (some ⟨gq2, 0, none⟩) (n.l.length - i) c2] 292)).kp hk5 (hNN _ (by omega))
  have z2 : W5.cell? ⟨w.heap.size, 0, none⟩ = some (.int .i64 q) := hS5.cell 0
  have hz2 := hS5.lt
  have hrq : r ≠ q := fun e => by
   have h1 : pg pgs r = none := pg_free hr2
   rw [e, hb0] at h1
   cases h1
  have hq5 : pg (newAt pgs r (pgOf (strip ⟨n.leaf, n.l.drop i⟩))) q = some b0 := by rw [pg_new hr1, upd_ne _ _ (Ne.symm hrq)]; exact hb0
  have hWf := write_fits (w := W5) (P := P) (O := O1) (tb := tb) (q := q) (n := ⟨n.leaf, n.l.take i⟩) (v := .slice a1 i c1) (HT.out.kp hkW5 hto) hp5 (pg_some.1 hq5) (by rw [hsa]; exact hma) (((EnI.of_own' HO1.out).below hbN3).kp hk5 HNO1.out) (by simp; omega) (by rw [hsa]; exact hna)
  unfold ndV at hWf
  rw [hsa] at hWf
  have HWF := hid hWf
  have H5 := hid (⟨hr1, hr2, hp5, hkW5, hgr5, hb85, hrq, hq5, hNN, hk5, hg5⟩ : _ ∧ _ ∧ _ ∧ _ ∧ _ ∧ _ ∧ _ ∧ _ ∧ _ ∧ _ ∧ _)
  clear hr1 hr2 hp5 hk5 hg5 hse hF' hma hna hmf hsplit hk hi hsa hbN hbN3 hb0 hdr hto htB hBw hcap hul hsl hst hnl hg1 hg2 hg3 hmay hfit' hfit hbA hkW5 hgr5 hb8N hb7N hszB3 hNN hb85 hb75 hS5 hrq hq5 hWf HM
  go_wp2_with fail
  (with_reducible refine HWF.out.mono ?_)
  rintro e W6 ⟨rfl, hk6, hp6⟩
  obtain ⟨hse, hF', hma, hna, hmf, hsplit, hk, hi, hsa, hbN, hbN3, hb0, hdr⟩ := HQ.out
  obtain ⟨hto, htB, hBw, hcap, hul, hsl, hst, hnl, hg1, hg2, hg3, hmay, hfit', hfit, hbA⟩ := HX.out
  obtain ⟨hr1, hr2, hp5, hkW5, hgr5, hb85, hrq, hq5, hNN, hk5, hg5⟩ := H5.out
  have hk06 : Kp O w W6 := hkW5.trans_gr hgr5 hk6
  have hnI : NoO O (.slice (some ⟨g, 0, none⟩) (sts'.length + 1) c) (sts' ++ [⟨f.page, f.nd, vf, f.L.length⟩]) := ⟨fun b hb => HNO.out.1 b hb, fun s hs => HNO.out.2 s (by rw [hse]; exact List.mem_append_left _ hs)⟩
  have hI := HW.out.init rfl
  rw [hk, hse] at hI
  have hI6 := hI.kpo hk06 hnI
  obtain ⟨g', c', fp, fc, e1, e2, _, _, _, cell6, _⟩ := way_last hI6
  simp only at e2
  subst e2
  injection e1 with e1 e1n e1c
  injection e1 with e1
  injection e1 with e1 _ _
  subst e1 e1c
  clear e1n
  have A1 : W6.cell? ⟨g, sts'.length * 4 + 2, none⟩ = some (.slice fp f.nd.l.length fc) := cell6 2 _ rfl
  have A2 : W6.cell? ⟨g, sts'.length * 4 + 3, none⟩ = some (.int .i64 f.L.length) := cell6 3 _ rfl
  have hnO1 : ∀ z, w.heap.size ≤ z → z < W3.heap.size + 2 → z ∉ O1 := fun z h1 h2 hz => by
   rcases hg5 z hz with h | h
   ·exact hNN z h1 h
   ·simp at h; omega
  have hszB3 := HB3.out.size
  have A3 : W6.cell? ⟨W3.heap.size + 1, 1, none⟩ = some (.slice (some ⟨gq2, 0, none⟩) (n.l.length - i) c2) := (hb85.kp hk6 (hnO1 _ (by omega) (by omega))).cell 1
  have A4 : W6.cell? ⟨gq2, 0, none⟩ = some (.string (S x.key)) := by
   have h1 : W3.cell? ⟨gq2, 0, none⟩ = some (.string (S x.key)) := own_at HO2.out rfl (j := 0) (by rw [hdr]; rfl)
   have hq1 := HGQ.out.1
   have hq2 := HGQ.out.2.1
   have hs2 := HB2.out.size
   have h2 : ((W3.alloc (.cells #[.bool n.leaf, .slice a1 i c1] 292)).alloc (.cells #[.bool n.leaf, .slice (some ⟨gq2, 0, none⟩) (n.l.length - i) c2] 292)).cell? ⟨gq2, 0, none⟩ = some (.string (S x.key)) := (hbN3.cell (p := ⟨gq2, 0, none⟩) hq2).trans h1
   have h3 := (hk5.cell (p := ⟨gq2, 0, none⟩) (by show gq2 < _; have := hbN3.size; omega) (hNN _ (by show w.heap.size ≤ gq2; omega))).trans h2
   exact (hk6.cell (p := ⟨gq2, 0, none⟩) (by show gq2 < _; have := hbN3.size; have := hk5.size; omega) (hnO1 _ (by show w.heap.size ≤ gq2; omega) (by show gq2 < _; omega))).trans h3
  have hr5 : r < 512 := Nat.lt_of_lt_of_le (newAt_len hr1) (hp5.len)
  obtain ⟨ps2, hS2, hT2, hP2⟩ := hsplit r (pg_free hr2) hr5
  have hml := hS2.len
  have hfl : f.nd.l.length = f.L.length + 1 + f.R.length := by simp [Fm.nd]; omega
  have hmore : (f.more x r).l = insL f.nd.l (f.L.length + 1) ⟨x.key, [], r⟩ := by
   have h1 : List.take (f.L.length + 1) (f.L.map Ch.en) = f.L.map Ch.en := List.take_of_length_le (by simp)
   have h2 : List.drop (f.L.length + 1) (f.L.map Ch.en) = [] := List.drop_eq_nil_of_le (by simp)
   simp [Fm.more, Fm.nd, insL, List.take_append, List.drop_append, h1, h2]
  have hml2 : (f.more x r).l.length = f.nd.l.length + 1 := by rw [hmore, insL_length _ _ _ (by omega)]
  have w10 : IntKind.i64.wrap ((f.L.length : Int) + 1) = (f.L.length : Int) + 1 := by rw [IntKind.wrap_i64]; omega
  have hrowf : W6.ownsRow B 299 3 (.slice fp f.nd.l.length fc) f.nd.l.length (rowV enC f.nd.l) := hI6.row ⟨f.page, f.nd, .slice fp f.nd.l.length fc, f.L.length⟩ (by simp)
  have hB6 : B ≤ W6.heap.size := Nat.le_trans hBw hk06.size
  have HINS : Hid (∀ W, Below W6.heap.size W6 W → Calls Tryz.prog 170 #[.slice fp f.nd.l.length fc, .int .i64 ((f.L.length : Int) + 1), .slice (some ⟨W.heap.size, 0, none⟩) 1 1] (W.alloc (.cells #[.string (S x.key), .string ⟨#[]⟩, .int .i64 r] 299)) fun e w' => ∃ v', e = .returned v' ∧
    w'.ownsRow B 299 3 v' (f.nd.l.length + 1) (rowV enC (f.more x r).l) ∧ Kp (Value.slice fp f.nd.l.length fc).ownBlock.toList (W.alloc (.cells #[.string (S x.key), .string ⟨#[]⟩, .int .i64 r] 299)) w' ∧ (∀ g, v'.ownBlock = some g → (Value.slice fp f.nd.l.length fc).ownBlock = some g ∨ (W.alloc (.cells #[.string (S x.key), .string ⟨#[]⟩, .int .i64 r] 299)).heap.size ≤ g)) := hid fun W hW => by
   have hWs := hW.size
   have := insertE_any (w := W.alloc (.cells #[.string (S x.key), .string ⟨#[]⟩, .int .i64 r] 299)) (B := B) (vb := W.heap.size) (i := f.L.length + 1) (x := ⟨x.key, [], r⟩) (row_of hrowf (fun b hb => (Below.heap_alloc W _ b (by have := (hrowf.lt b hb).2; omega)).trans (hW.block b (hrowf.lt b hb).2))) (Blk.new W _ _) (fun e => by have := (hrowf.lt _ e).2; omega) (by simp; omega) (by omega) (by omega)
   rw [hmore]
   simpa using this
  have HS4 : Hid (∀ W, Below W6.heap.size W6 W → W.cell? ⟨g, sts'.length * 4 + 3, none⟩ = some (.int .i64 f.L.length) ∧ W.cell? ⟨W3.heap.size + 1, 1, none⟩ = some (.slice (some ⟨gq2, 0, none⟩) (n.l.length - i) c2) ∧ W.cell? ⟨gq2, 0, none⟩ = some (.string (S x.key))) := hid fun W hW => ⟨(hW.cell (block_lt_of_cell A2)).trans A2, (hW.cell (block_lt_of_cell A3)).trans A3, (hW.cell (block_lt_of_cell A4)).trans A4⟩
  have HS5 : Hid (∀ W W', Below W6.heap.size W6 W → Kp (Value.slice fp f.nd.l.length fc).ownBlock.toList (W.alloc (.cells #[.string (S x.key), .string ⟨#[]⟩, .int .i64 r] 299)) W' → W'.cell? ⟨g, sts'.length * 4 + 3, none⟩ = some (.int .i64 f.L.length) ∧ W'.cell? ⟨W3.heap.size + 1, 1, none⟩ = some (.slice (some ⟨gq2, 0, none⟩) (n.l.length - i) c2) ∧ W'.cell? ⟨gq2, 0, none⟩ = some (.string (S x.key))) := hid fun W W' hW hkk => by
   have hWs := hW.size
   have hwa := HW.out.init rfl
   have hfw : ∀ b, (Value.slice fp f.nd.l.length fc).ownBlock = some b → b < w.heap.size ∧ b ≠ g := fun b hb => ⟨(hI.row ⟨f.page, f.nd, .slice fp f.nd.l.length fc, f.L.length⟩ (by simp)).lt b hb |>.2, fun e => own_apart (hI.row ⟨f.page, f.nd, .slice fp f.nd.l.length fc, f.L.length⟩ (by simp)) hI.own (by decide) b hb (by rw [e]; rfl)⟩
   have stay : ∀ {p : Addr} {u : Value}, W6.cell? p = some u → (p.block = g ∨ w.heap.size ≤ p.block) → W'.cell? p = some u := fun {p u} h1 h2 => by
    have hlt := block_lt_of_cell h1
    rw [hkk.cell (by simp; omega) (fun hm => by
     rw [Option.mem_toList] at hm
     have := hfw _ hm
     omega)]
    exact ((World.cell?_of_block (Below.heap_alloc W _ p.block (by omega))).trans (hW.cell hlt)).trans h1
   exact ⟨stay A2 (.inl rfl), stay A3 (.inr (by show w.heap.size ≤ W3.heap.size + 1; omega)), stay A4 (.inr (by show w.heap.size ≤ gq2; have := HGQ.out.1; have := HB2.out.size; omega))⟩
  have HFR : Hid (∀ W W', Below W6.heap.size W6 W → Kp (Value.slice fp f.nd.l.length fc).ownBlock.toList (W.alloc (.cells #[.string (S x.key), .string ⟨#[]⟩, .int .i64 r] 299)) W' → W'.frozen? ⟨g, sts'.length * 4 + 2, none⟩ = false) := hid fun W W' hW hkk => by
   have hWs := hW.size
   have hlt := (hI6.own.lt g rfl).2
   rw [hkk.frozen (p := ⟨g, _, none⟩) (by simp; omega) (fun hm => by
    rw [Option.mem_toList] at hm
    exact own_apart hrowf hI6.own (by decide) g hm rfl)]
   exact ((World.frozen?_of_block (Below.heap_alloc W _ g (by omega))).trans (World.frozen?_of_block (hW.block g hlt))).trans (own_frozen hI6.own _)
  have HS6 : Hid (∀ (W : World) u, W.cell? ⟨g, sts'.length * 4 + 3, none⟩ = some (.int .i64 f.L.length) ∧ W.cell? ⟨W3.heap.size + 1, 1, none⟩ = some (.slice (some ⟨gq2, 0, none⟩) (n.l.length - i) c2) ∧ W.cell? ⟨gq2, 0, none⟩ = some (.string (S x.key)) → (W.setCell ⟨g, sts'.length * 4 + 2, none⟩ u).cell? ⟨g, sts'.length * 4 + 3, none⟩ = some (.int .i64 f.L.length) ∧ (W.setCell ⟨g, sts'.length * 4 + 2, none⟩ u).cell? ⟨W3.heap.size + 1, 1, none⟩ = some (.slice (some ⟨gq2, 0, none⟩) (n.l.length - i) c2) ∧ (W.setCell ⟨g, sts'.length * 4 + 2, none⟩ u).cell? ⟨gq2, 0, none⟩ = some (.string (S x.key))) := hid fun W u hs => by
   have hq1 := HGQ.out.1
   have hq2 := HB2.out.size
   have hq3 := HB3.out.size
   refine ⟨?_, (World.cell?_of_block (Below.heap_setCell W ⟨g, _, none⟩ u (W3.heap.size + 1) (by show W3.heap.size + 1 ≠ g; omega))).trans hs.2.1, (World.cell?_of_block (Below.heap_setCell W ⟨g, _, none⟩ u gq2 (by show gq2 ≠ g; omega))).trans hs.2.2⟩
   exact (World.cell?_setCell_other W (a := ⟨g, sts'.length * 4 + 2, none⟩) (b := ⟨g, sts'.length * 4 + 3, none⟩) u (by intro e; injection e with _ e _; omega)).trans hs.1
  have HA1 : Hid (∀ W W', Below W6.heap.size W6 W → Kp (Value.slice fp f.nd.l.length fc).ownBlock.toList (W.alloc (.cells #[.string (S x.key), .string ⟨#[]⟩, .int .i64 r] 299)) W' → W'.cell? ⟨g, sts'.length * 4 + 2, none⟩ = some (.slice fp f.nd.l.length fc)) := hid fun W W' hW hkk => by
   have hWs := hW.size
   have hlt := (hI6.own.lt g rfl).2
   rw [hkk.cell (p := ⟨g, _, none⟩) (by simp; omega) (fun hm => by
    rw [Option.mem_toList] at hm
    exact own_apart hrowf hI6.own (by decide) g hm rfl)]
   exact ((World.cell?_of_block (Below.heap_alloc W _ g (by omega))).trans (hW.cell (p := ⟨g, _, none⟩) hlt)).trans A1
  have HFL : Hid (0 < n.l.length - i ∧ n.l.length - i ≤ c2) := hid ⟨by have := hi.2.1; omega, HGQ.out.2.2⟩
  have hpos : 0 < n.l.length - i := HFL.out.1
  have H6 := hid (⟨hk06, hnI, hI6, hr5, hS2, hT2, hP2, hmore, hml2, hrowf, hB6, hk6, hp6, hnO1⟩ : _ ∧ _ ∧ _ ∧ _ ∧ _ ∧ _ ∧ _ ∧ _ ∧ _ ∧ _ ∧ _ ∧ _ ∧ _ ∧ _)
  clear hse hF' hma hna hmf hsplit hk hi hsa hbN hbN3 hb0 hdr hto htB hBw hcap hul hsl hst hnl hg1 hg2 hg3 hmay hfit' hfit hbA hr1 hr2 hp5 hkW5 hgr5 hb85 hrq hq5 hNN hk5 hg5 hk06 hnI hI hI6 cell6 hszB3 hr5 hS2 hT2 hP2 hml hfl hmore hml2 hrowf hB6 hk6 hp6 hnO1 A2 A3 A4
  go_wp2
  obtain ⟨A2, A3, A4⟩ := HS4.out W6 (Below.refl _ _)
  have hl1 : g < W6.heap.size := block_lt_of_cell A2
  have hl2 : W3.heap.size + 1 < W6.heap.size := block_lt_of_cell A3
  have hl3 : gq2 < W6.heap.size := block_lt_of_cell A4
  go_region_law (first
   | (go_simp; refine (HINS.out _ (Below.refl _ _).drew).mono ?_; rintro e w1 ⟨v', rfl, ho', hk', hat'⟩; have HS5' := HS5.out _ _ (Below.refl _ _).drew hk'; have hfr := HFR.out _ _ (Below.refl _ _).drew hk'; have q1 := HA1.out _ _ (Below.refl _ _).drew hk'; have hb7 := ((Below.refl W6.heap.size W6).drew).alloc (Nat.le_refl _) (.cells #[.string (S x.key), .string ⟨#[]⟩, .int .i64 r] 299); obtain ⟨va', vc', rfl⟩ := own_slice2 ho'; have HS6' := HS6.out w1 (.slice va' (f.nd.l.length + 1) vc') HS5'; dsimp only)
   | (go_simp; refine (HINS.out _ (Below.refl _ _)).mono ?_; rintro e w1 ⟨v', rfl, ho', hk', hat'⟩; have HS5' := HS5.out _ _ (Below.refl _ _) hk'; have hfr := HFR.out _ _ (Below.refl _ _) hk'; have q1 := HA1.out _ _ (Below.refl _ _) hk'; have hb7 := (Below.refl W6.heap.size W6).alloc (Nat.le_refl _) (.cells #[.string (S x.key), .string ⟨#[]⟩, .int .i64 r] 299); obtain ⟨va', vc', rfl⟩ := own_slice2 ho'; have HS6' := HS6.out w1 (.slice va' (f.nd.l.length + 1) vc') HS5'; dsimp only))
  all_goals
   obtain ⟨hse, hF', hma, hna, hmf, hsplit, hk, hi, hsa, hbN, hbN3, hb0, hdr⟩ := HQ.out
   obtain ⟨hto, htB, hBw, hcap, hul, hsl, hst, hnl, hg1, hg2, hg3, hmay, hfit', hfit, hbA⟩ := HX.out
   obtain ⟨hr1, hr2, hp5, hkW5, hgr5, hb85, hrq, hq5, hNN, hk5, hg5⟩ := H5.out
   obtain ⟨hk06, hnI, hI6, hr5, hS2, hT2, hP2, hmore, hml2, hrowf, hB6, hk6, hp6, hnO1⟩ := H6.out
   have hown : ∀ b, b ∈ (Value.slice fp f.nd.l.length fc).ownBlock.toList → B ≤ b ∧ b < W6.heap.size ∧ b ∉ O1 ∧ b ≠ g := fun b hb => by
    rw [Option.mem_toList] at hb
    have hm : (⟨f.page, f.nd, .slice fp f.nd.l.length fc, f.L.length⟩ : St) ∈ sts' ++ [⟨f.page, f.nd, .slice fp f.nd.l.length fc, f.L.length⟩] := by simp
    have hIw := HW.out.init rfl
    rw [hk, hse] at hIw
    exact ⟨(hrowf.lt b hb).1, (hrowf.lt b hb).2, hgr5.notin ((hIw.row _ hm).lt b hb).2 (hnI.2 _ hm b hb), fun e => own_apart hrowf hI6.own (by decide) b hb (by rw [e]; rfl)⟩
   have hgO : g ∉ O1 := hgr5.notin hg3 (hnI.1 g rfl)
   have hgW6 : g < W6.heap.size := (hI6.own.lt g rfl).2
   have h7s := hb7.size
   have hI7 := hI6.of_blocks (fun b _ hlt => hb7.block b hlt)
   have hI8 := hI7.setv (w' := w1) (n2 := f.more x r) (v2 := .slice va' (f.nd.l.length + 1) vc') rfl (by rw [hml2]; exact ho') (fun b _ hlt hne => hk'.block b hlt (fun hm => hne (Option.mem_toList.1 hm)))
    (fun t ht b hb e => (hat' b e).elim (fun h => (List.pairwise_append.1 hI6.nd).2.2 t ht _ (List.mem_singleton_self _) b hb h) (fun h => by have := ((hI6.row t (List.mem_append_left _ ht)).lt b hb).2; omega))
    (fun e => (hat' g e).elim (fun h => own_apart hrowf hI6.own (by decide) g h rfl) (fun h => by omega))
   have hkb1 : Kb B O1 W6 w1 := ⟨hk'.os.trans hb7.os, hk'.tape.trans hb7.tape, hk'.output.trans hb7.output, Nat.le_trans hb7.size hk'.size, fun b hb _ => (hk'.block b (by omega) (fun hm => by have := (hown b hm).1; omega)).trans (hb7.block b (by omega))⟩
   have hkb2 := hkb1.setCell (p := ⟨g, sts'.length * 4 + 2, none⟩) hg2 (.slice va' (f.nd.l.length + 1) vc')
   have hkb3 : Kb B O w _ := (Kb.of_kp hk06 hBw).trans_gr (Gr.refl O w.heap.size) hBw (Kb.mk hkb2.os hkb2.tape hkb2.output hkb2.size (fun b hb ho => hkb2.block b hb (hgr5.notin (by omega) ho)))
   have hpo := hp6.of_blocks (w' := w1.setCell ⟨g, sts'.length * 4 + 2, none⟩ (.slice va' (f.nd.l.length + 1) vc')) (fun b hb => by
    have hlt := hp6.lts b hb
    rw [Below.heap_setCell _ ⟨g, _, none⟩ _ b (fun e => hgO (by rw [← show b = g from e]; exact hb))]
    exact (hk'.block b (by omega) (fun hm => (hown b hm).2.2.1 hb)).trans (hb7.block b hlt))
   have htr : TrI (w1.setCell ⟨g, sts'.length * 4 + 2, none⟩ (.slice va' (f.nd.l.length + 1) vc')) P tb := (hkb3.block tb htB hto).trans HT.out
   have hpg : pg ((newAt pgs r (pgOf (strip ⟨n.leaf, n.l.drop i⟩))).set q (some (pgOf ⟨n.leaf, n.l.take i⟩))) = upd (upd (pg pgs) r (some (pgOf (strip ⟨n.leaf, n.l.drop i⟩)))) q (some (pgOf ⟨n.leaf, n.l.take i⟩)) := by
    rw [pg_set (pg_lt hq5), pg_new hr1]
   have hsm : somes ((newAt pgs r (pgOf (strip ⟨n.leaf, n.l.drop i⟩))).set q (some (pgOf ⟨n.leaf, n.l.take i⟩))) = somes pgs + 1 := by
    rw [somes_set_same _ q b0 _ (pg_some.1 hq5), somes_new hr2]
   rw [List.length_cons] at hcap hul
   have hih := HIH.out f up rfl (w := w1.setCell ⟨g, sts'.length * 4 + 2, none⟩ (.slice va' (f.nd.l.length + 1) vc')) (O := O1) htr (hgr5.notin (Nat.lt_of_lt_of_le htB hBw) hto) hpo hI8 hF' ⟨fun b hb => by
     have e : some g = some b := hb
     injection e with e
     rw [← e]; exact hgO, fun s hs b hb => by
     have hIw := HW.out.init rfl
     rw [hk, hse] at hIw
     rcases List.mem_append.1 hs with hs | hs
     ·exact hgr5.notin ((hIw.row s (List.mem_append_left _ hs)).lt b hb).2 (hnI.2 s (List.mem_append_left _ hs) b hb)
     ·rw [List.mem_singleton.1 hs] at hb
      rcases hat' b hb with h | h
      ·exact (hown b (Option.mem_toList.2 h)).2.2.1
      ·intro hm
       have := hp6.lts b hm
       omega⟩ (by have := hkb3.size; omega) (by rw [hpg]; exact hS2) (by rw [hsm]; omega) (by omega)
   rw [← hk] at hih
   have hcp9 : sts.length ≤ c := by omega
   have HIH2 := hid hih
   have HR9 := hid (⟨hT2, hP2, hkb3, hgr5, hpg, hsm, hBw⟩ : _ ∧ _ ∧ _ ∧ _ ∧ _ ∧ _ ∧ _)
   clear hse hF' hma hna hmf hsplit hk hi hsa hbN hbN3 hb0 hdr hto htB hBw hcap hul hsl hst hnl hg1 hg2 hg3 hmay hfit' hfit hbA hr1 hr2 hp5 hkW5 hgr5 hb85 hrq hq5 hNN hk5 hg5 hk06 hnI hI6 hr5 hS2 hT2 hP2 hmore hml2 hrowf hB6 hk6 hp6 hnO1 hown hgO hgW6 h7s hI7 hI8 hkb1 hkb2 hkb3 hpo htr hpg hsm hih hat'
   go_wp2_with fail
   (with_reducible refine HIH2.out.mono ?_)
   rintro e W9 ⟨O', pgs', D, ps', rfl, hpo9, hsd9, hkb9, hgr9, hs9⟩
   have fin : SetPost P B O pgs d (d + (f :: up).length) ps E w (.returned (.int .i64 0)) W9 := by
    obtain ⟨hT2, hP2, hkb3, hgr5, hpg, hsm, hBw⟩ := HR9.out
    rw [hpg] at hsd9
    rw [hsm] at hs9
    have h1 := hsd9.after hT2 hP2
    have e1 : d + (f :: up).length = d + 1 + up.length := by simp; omega
    rw [← e1] at h1
    refine ⟨O', pgs', D, ps', rfl, hpo9, h1, hkb3.trans_gr hgr5 hBw hkb9, hgr5.trans hgr9 hkb3.size, ?_⟩
    simp
    omega
   have FIN := hid fin
   clear fin hpo9 hsd9 hkb9 hgr9 hs9
   go_wp2
   go_ret
   exact FIN.out
theorem settle_any {P : PL} {tb B : Nat} {E : List En} (up : List Fm) : ∀ {w : World} {O : List Nat} {pgs : List (Option Bs)} {d q at_ : Nat} {n : Nd} {v vl : Value} {sts : List St} {ps : List PN}, tb < B →
  TrI w P tb → tb ∉ O → PoI w P O pgs → WayI w B v (sts ++ [⟨q, n, vl, at_⟩]) → Fms sts up → NoO O v (sts ++ [⟨q, n, vl, at_⟩]) → B ≤ w.heap.size → SSt (pg pgs) d q n up E ps → somes pgs + up.length + 2 ≤ 300 → up.length ≤ 100 →
  Calls Tryz.prog 171 #[.pointer (some ⟨tb, 0, none⟩), v] w fun e w' => SetPost P B O pgs d (d + up.length) ps E w e w' := by
 induction up with
 | nil =>
  intro w O pgs d q at_ n v vl sts ps htB ht hto hp hW hF hNO hBw hS hcap hul
  by_cases hfit : nB n.l ≤ 223
  ·exact settle_fits ht htB hp hW hF.length hBw hS hul hfit
  ·exact settle_full hto ht htB hp hW hF hNO hBw hS hcap hul (by omega) (fun f up' e => by cases e)
 | cons f up ih =>
  intro w O pgs d q at_ n v vl sts ps htB ht hto hp hW hF hNO hBw hS hcap hul
  by_cases hfit : nB n.l ≤ 223
  ·exact settle_fits ht htB hp hW hF.length hBw hS hul hfit
  ·refine settle_full hto ht htB hp hW hF hNO hBw hS hcap hul (by omega) (fun f' up' e => ?_)
   injection e with e1 e2
   subst e2
   intro w O pgs d q at_ n v vl sts ps h1 h2 h3 h4 h5 h6 h7 h8 h9 h10
   exact ih htB h1 h2 h3 h4 h5 h6 h7 h8 h9 h10
end
end Go.Proofs.YtnnghcooidjlhaaGreat
