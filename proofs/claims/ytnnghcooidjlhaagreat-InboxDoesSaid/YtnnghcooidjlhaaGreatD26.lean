/- Parts of the proof: Me Mg Mh. -/
import Derived.Test.YtnnghcooidjlhaaGreatD24
import Derived.Test.YtnnghcooidjlhaaGreatD25
set_option linter.all false
set_option maxRecDepth 100000
namespace Go.Proofs.YtnnghcooidjlhaaGreat
section
open Go.RowKit Go.Lib
def strC (b : Bs) : List Value := [.string (S b)]
theorem strC_len (a : Bs) : (strC a).length = 1 := rfl
theorem strC_one (a : Bs) : ∀ u ∈ strC a, u.oneCell' = true := by
 intro u hu
 simp [strC] at hu
 subst hu
 rfl
theorem infStr1 : (Tryz.prog.info? 9).map (fun i => (i.zero, i.size, i.bytes)) = some (some (.string ⟨#[]⟩), 1, 16) := by kernel_rfl
def ClR (lb : Nat) (xs : List En) (W : World) (Z : List Nat) : Prop :=
 ∃ v, Blk W lb 36 #[v] ∧ W.ownsRow (lb + 1) 9 1 v xs.length (rowV strC (xs.map En.key)) ∧ Z = lb :: v.ownBlock.toList
set_option maxHeartbeats 4000000 in
theorem clear1_any (lb : Nat) (xs : List En) (x : En) (W : World) (Z : List Nat) (h : ClR lb xs W Z) (hx : xs.length ≤ 90000) :
  Calls Tryz.prog 187 (#[enV x] ++ #[.pointer (some ⟨lb, 0, none⟩)]) W fun e w' => ∃ Z', e = .returned (.bool true) ∧ ClR lb (xs ++ [x]) w' Z' ∧ Kp Z W w' ∧ Gr Z W.heap.size Z' := by
 obtain ⟨v, hL, hO, rfl⟩ := h
 obtain ⟨k, hk⟩ : ∃ k, k = xs.length := ⟨_, rfl⟩
 rw [← hk] at hO
 obtain ⟨a1, c1, rfl⟩ := own_slice2 hO
 have l0 : W.cell? ⟨lb, 0, none⟩ = some (.slice a1 k c1) := hL.cell 0
 have lf := hL.frozen 0
 have hlt := hL.lt
 have HX := hid (⟨hL, hO, hk, hx⟩ : _ ∧ _ ∧ _ ∧ _)
 unfold enV
 clear hL hO hk hx
 go_enter Tryz.func187, Tryz.ntmps187
 go_wp2_with (with_reducible refine stopAt .append rfl ?_)
 with_reducible refine goOn ?_
 obtain ⟨W1, hW1⟩ : ∃ W1, W1 = W.alloc (.cells #[.string (S x.key), .string (S x.val), .int .i64 x.far] 299) := ⟨_, rfl⟩
 have hs1 : W1.heap.size = W.heap.size + 1 := by rw [hW1]; simp
 have hb1 : Below W.heap.size W W1 := by rw [hW1]; exact (Below.refl _ W).alloc (Nat.le_refl _) _
 rw [← hW1, ← hs1]
 clear hW1
 obtain ⟨hL, hO, hk, hx⟩ := HX.out
 have hO1 : W1.ownsRow (lb + 1) 9 1 (.slice a1 k c1) k (rowV strC (xs.map En.key)) := row_of hO (fun b hb => hb1.block b (hO.lt b hb).2)
 refine app_one rfl _ _ 36 rfl strC infStr1 Tryz.underlying36 rfl (by decide) (by decide) strC_len strC_one x.key hO1 (by omega) (by omega) rfl rfl ?_
 intro v' W2 hO2 hk2 hg2
 obtain ⟨g2, c2, rfl, hg21, hg22, hg23⟩ := own_form hO2 (by omega)
 have hL1 : Blk W1 lb 36 #[.slice a1 k c1] := hL.below hb1 hlt
 have hno : ∀ b, b ≤ lb → b ∉ (Value.slice a1 k c1).ownBlock.toList := fun b hb hm => by
  have := (hO.lt b (Option.mem_toList.1 hm)).1
  omega
 have hL2 : Blk W2 lb 36 #[.slice a1 k c1] := hL1.kp hk2 (hno lb (Nat.le_refl _))
 have l2 : W2.cell? ⟨lb, 0, none⟩ = some (.slice a1 k c1) := hL2.cell 0
 have lf2 := hL2.frozen 0
 have lt2 := hL2.lt
 have hres : ∀ e, ClR lb (xs ++ [x]) (W2.setCell ⟨lb, 0, none⟩ (.slice (some ⟨g2, 0, none⟩) (k + 1) c2)) (lb :: [g2]) ∧ Kp (lb :: (Value.slice a1 k c1).ownBlock.toList) W (W2.setCell ⟨lb, 0, none⟩ (.slice (some ⟨g2, 0, none⟩) (k + 1) c2)) ∧ Gr (lb :: (Value.slice a1 k c1).ownBlock.toList) W.heap.size (lb :: [g2]) := fun (e : Unit) => by
  refine ⟨⟨_, by simpa using hL2.set_ 0 _, ?_, rfl⟩, ?_, ?_⟩
  ·have hl : (xs ++ [x]).length = k + 1 := by simp; omega
   rw [hl, List.map_append]
   exact row_of hO2 (fun b hb => by
    simp [Value.ownBlock] at hb
    subst hb
    exact Below.heap_setCell _ _ _ _ (by simp; omega))
  ·have hKA : Kp (lb :: (Value.slice a1 k c1).ownBlock.toList) W W2 := (Kp.of_below hb1).trans (hk2.mono (fun y hy => .inl (List.mem_cons_of_mem _ hy)))
   exact hKA.setCell (.inl (by simp)) _
  ·intro y hy
   simp only [List.mem_cons, List.not_mem_nil, or_false] at hy
   rcases hy with rfl | rfl
   ·exact .inl (by simp)
   ·rcases hg2 _ rfl with h | h
    ·exact .inl (by simp [h])
    ·exact .inr (Nat.le_trans (by omega) h)
 have HR := hid (hres ())
 clear hres hO1 hO hk hx hL hL1 hno hL2 hO2 hk2 hg2 hg21 hg22 hg23 hs1 hb1 l0 lf
 go_wp2
 go_ret
 exact ⟨_, rfl, HR.out⟩
theorem clear_do (lb : Nat) : DoI (fun _ => true) 187 #[.pointer (some ⟨lb, 0, none⟩)] (ClR lb) where
 keep := fun xs W W' Z h e => by
  obtain ⟨v, h2, h4, rfl⟩ := h
  exact ⟨v, (e lb (by simp)).trans h2, row_of h4 (fun b hb => e b (by simp [hb])), rfl⟩
 lts := fun xs W Z h b hb => by
  obtain ⟨v, h2, h4, rfl⟩ := h
  simp only [List.mem_cons, Option.mem_toList] at hb
  rcases hb with rfl | hb
  ·exact h2.lt
  ·exact (h4.lt b hb).2
 en := fun vs W => Tryz.call187 vs W
 go := fun xs x W Z h hx => clear1_any lb xs x W Z h hx
section
variable {w : World} {P : PL} {O : List Nat} {tb N : Nat} {M : List KV}
theorem getM_some_of {M : List KV} {a : KV} (h : a ∈ M) : ∃ v, getM M a.1 = some v := by
 cases e : getM M a.1 with
 | some v => exact ⟨v, rfl⟩
 | none => exact absurd rfl (getM_none_iff.1 e a h)
set_option maxHeartbeats 8000000 in
theorem tclear_any (h : TreeI w P O tb N M) (fr to : Bs) :
  Calls Tryz.prog 147 #[.pointer (some ⟨tb, 0, none⟩), .string (S fr), .string (S to)] w fun e w' => e = .returned (.tuple #[.int .i64 (M.filter fun a => inR fr to a.1).length, .int .i64 0]) ∧ TreeI w' P O tb N (M.filter fun a => !inR fr to a.1) ∧ Kp O w w' := by
 have hI := h
 have hA := h.asc
 obtain ⟨pgs, D, E, ps, hp, ht, hto, hm, hN, rfl⟩ := h
 have hD := hm.deep (by omega)
 obtain ⟨hps, hE⟩ := hm.small hp
 obtain ⟨W2, hW2⟩ : ∃ W2, W2 = w.alloc (.cells #[.slice none 0 0] 36) := ⟨_, rfl⟩
 have hs2 : W2.heap.size = w.heap.size + 1 := by rw [hW2]; simp
 have hb2 : Below w.heap.size w W2 := by
  rw [hW2]
  exact (Below.refl _ w).alloc (Nat.le_refl _) _
 have hR : ClR w.heap.size [] W2 [w.heap.size] := by
  refine ⟨.slice none 0 0, ?_, ⟨by simp, .inl ⟨rfl, by simp⟩⟩, rfl⟩
  rw [hW2]
  exact Blk.new w 36 #[.slice none 0 0]
 have hp2 := hp.below hb2
 have ht2 : TrI W2 P tb := Blk.below ht hb2 (Blk.lt ht)
 have HE := hid (each_any (fr := fr) (to := to) (clear_do w.heap.size) hp2 ht2 hto hm.rep (by omega) hR (fun z hz => by
  simp only [List.mem_cons, List.not_mem_nil, or_false] at hz
  have := Blk.lt ht
  refine ⟨fun hm => ?_, ?_⟩
  ·have := hp.lts z hm; omega
  ·omega) hps (by omega))
 rw [hW2] at HE
 have HX := hid (⟨hp, ht, hto, hm, hN, hE, hb2, hs2, hA⟩ : _ ∧ _ ∧ _ ∧ _ ∧ _ ∧ _ ∧ _ ∧ _ ∧ _)
 have HW2 := hid hW2
 clear hp ht hto hm hN hD hps hE hb2 hs2 hR hp2 ht2 hW2 hA hI
 go_enter Tryz.func147, Tryz.ntmps147
 go_wp2_with fail
 (with_reducible refine HE.out.mono ?_)
 rintro e W3 ⟨Z3, rfl, hR3, hp3, ht3, hk3, hg3, hz3⟩
 obtain ⟨v3, hL3, hO3, rfl⟩ := hR3
 obtain ⟨hp, ht, hto, hm, hN, hE, hb2, hs2, hA⟩ := HX.out
 rw [← HW2.out] at hk3 hg3
 rw [runF_whole (fun _ => rfl) hm.rep.asc] at hO3
 obtain ⟨M, hM⟩ : ∃ M, M = kvs (pg pgs) E := ⟨_, rfl⟩
 have hT3 : TreeI W3 P O tb N M := ⟨pgs, D, E, ps, hp3, ht3, hto, hm, hN, hM.symm⟩
 obtain ⟨l, hl⟩ : ∃ l, l = (M.filter fun a => inR fr to a.1).map Prod.fst := ⟨_, rfl⟩
 have hle : (E.filter (fun x => inR fr to x.key)).map En.key = l := by
  rw [hl, hM, ← kvs_filter (pg pgs) E (inR fr to)]
  unfold kvs
  rw [List.map_map]
  rfl
 have hll : (E.filter (fun x => inR fr to x.key)).length = l.length := by rw [← hle]; simp
 rw [hle, hll] at hO3
 rw [← hM] at hA
 have hlen : (M.filter fun a => inR fr to a.1).length = l.length := by rw [hl]; simp
 have hfin : l.foldl delM M = M.filter fun a => !inR fr to a.1 := by rw [fold_del, hl]; exact filter_out (inR fr to)
 have hgot : ∀ j k, l[j]? = some k → ∃ v, getM ((l.take j).foldl delM M) k = some v := fun j k hj => by
  have hka : ∃ a ∈ M, a.1 = k := by
   have := List.mem_of_getElem? hj
   rw [hl] at this
   obtain ⟨a, ha, e⟩ := List.mem_map.1 this
   exact ⟨a, (List.mem_filter.1 ha).1, e⟩
  obtain ⟨a, ha, rfl⟩ := hka
  rw [fold_del]
  refine getM_some_of (List.mem_filter.2 ⟨ha, ?_⟩)
  have hnd : l.Pairwise (· < ·) := by
   rw [hl, List.pairwise_map]
   exact hA.filter _
  have hlt := (List.getElem?_eq_some_iff.1 hj).1
  simp only [decide_eq_true_eq]
  intro hm
  obtain ⟨i, hi, e⟩ := List.mem_iff_getElem.1 hm
  have hil : i < j := by simp at hi; omega
  have h1 : l[i]'(by omega) < l[j]'hlt := (List.pairwise_iff_getElem.1 hnd) i j _ _ hil
  rw [List.getElem_take] at e
  rw [e, (List.getElem?_eq_some_iff.1 hj).2] at h1
  exact blt_irrefl _ h1
 have hllen : l.length ≤ 20480 := by
  rw [← hll]
  have := List.length_filter_le (fun x => inR fr to x.key) E
  omega
 obtain ⟨nl, hnl2⟩ : ∃ nl, nl = l.length := ⟨_, rfl⟩
 rw [← hnl2] at hO3 hlen
 have HF : Hid ((nl = l.length) ∧ (((kvs (pg pgs) E).filter fun a => inR fr to a.1).length = nl) ∧ l.foldl delM M = (kvs (pg pgs) E).filter fun a => !inR fr to a.1) := hid ⟨hnl2, by rw [← hM]; exact hlen, by rw [← hM]; exact hfin⟩
 obtain ⟨a3, c3, rfl⟩ := own_slice2 hO3
 have hk03 : Kp O w W3 := ((Kp.of_below hb2).trans_gr (O' := [w.heap.size] ++ O) (fun x hx => by
  rcases List.mem_append.1 hx with hx | hx
  ·simp only [List.mem_cons, List.not_mem_nil, or_false] at hx
   exact .inr (by omega)
  ·exact .inl hx) hk3)
 have l3 : W3.cell? ⟨w.heap.size, 0, none⟩ = some (.slice a3 nl c3) := hL3.cell 0
 have hli : (nl : Int) ≤ 20480 := by omega
 have HG := hid (⟨hgot, hnl2, hp.lts⟩ : _ ∧ _ ∧ _)
 have HI0 : Hid (TreeI W3 P O tb N ((l.take 0).foldl delM M) ∧ Kp O w W3 ∧ W3.ownsRow (w.heap.size + 1) 9 1 (.slice a3 nl c3) nl (rowV strC l) ∧ Blk W3 w.heap.size 36 #[.slice a3 nl c3]) := hid ⟨hT3, hk03, hO3, hL3⟩
 clear hL3 hO3 hp3 ht3 hk3 hg3 hz3 hl hll hnl2 hk03 hp ht hto hm hN hE hb2 hs2 hA hM hT3 hle hlen hfin hgot hllen
 go_wp2
 go_loopg [26] nl (fun gg s26 wr => ∃ (j : Nat), j ≤ nl ∧ nl - j ≤ gg ∧ s26 = .int .i64 j ∧ Hid (TreeI wr P O tb N ((l.take j).foldl delM M) ∧ Kp O w wr ∧ wr.ownsRow (w.heap.size + 1) 9 1 (.slice a3 nl c3) nl (rowV strC l) ∧ Blk wr w.heap.size 36 #[.slice a3 nl c3]))
 case atStart => exact ⟨0, Nat.zero_le _, by omega, rfl, HI0⟩
 case round =>
  obtain ⟨j, hj, hgg, rfl, HI⟩ := hrel
  by_cases hje : j < nl
  ·obtain ⟨x, hx⟩ : ∃ x, l[j]? = some x := ⟨_, List.getElem?_eq_getElem (by rw [← HG.out.2.1]; exact hje)⟩
   obtain ⟨hTr, hkr, hOr, hLr⟩ := HI.out
   obtain ⟨g1, c1, e1, hg11, hg12, hg13⟩ := own_form hOr (by omega)
   injection e1 with e1 elen e3
   clear elen
   subst e1 e3
   have m0 : wr.cell? ⟨g1, j, none⟩ = some (.string (S x)) := own_at hOr rfl (j := j) (by
    have := rowV_get strC_len l j x hx 0 (by omega)
    rw [Nat.mul_one, Nat.add_zero] at this
    rw [this]; rfl)
   have hji : (j : Int) < (nl : Int) := by omega
   obtain ⟨vx, hvx⟩ := HG.out.1 j x hx
   have HD := hid (tdel_any hTr x)
   have H1 := hid (⟨hx, hvx⟩ : _ ∧ _)
   rw [hvx] at HD
   clear hx hvx hTr hkr hOr hLr
   go_wp2_with fail
   (with_reducible refine HD.out.mono ?_)
   rintro e W4 ⟨rfl, hT4, hk4⟩
   obtain ⟨hTr, hkr, hOr, hLr⟩ := HI.out
   have hno : ∀ b, w.heap.size ≤ b → b ∉ O := fun b hb hm => by have := HG.out.2.2 b hm; omega
   have hO4 := row_of hOr (fun b hb => hk4.block b (hOr.lt b hb).2 (hno b (by have := (hOr.lt b hb).1; omega)))
   have hL4 := hLr.kp hk4 (hno _ (Nat.le_refl _))
   have htk : (l.take (j + 1)).foldl delM M = delM ((l.take j).foldl delM M) x := by
    rw [List.take_add_one, H1.out.1, List.foldl_append]; rfl
   rw [← htk] at hT4
   have HI4 := hid (⟨hT4, hkr.trans hk4, hO4, hL4⟩ : _ ∧ _ ∧ _ ∧ _)
   clear hTr hkr hOr hLr hno hO4 hL4 htk hT4 hk4 m0
   unfold delR
   go_wp2
   go_roundg (nl - (j + 1))
   case measure => omega
   case rel => exact ⟨j + 1, by omega, by omega, by go_num, HI4⟩
  ·have hjl : j = nl := by omega
   have HJ := hid hjl
   have hji : ¬ ((j : Int) < (nl : Int)) := by omega
   have l4 : wr.cell? ⟨w.heap.size, 0, none⟩ = some (.slice a3 nl c3) := HI.out.2.2.2.cell 0
   clear hjl
   go_wp2
   go_ret2
   obtain ⟨hTr, hkr, hOr, hLr⟩ := HI.out
   rw [HJ.out, HF.out.1, List.take_length, HF.out.2.2] at hTr
   rw [HF.out.2.1]
   exact ⟨rfl, hTr, hkr⟩
end
end
section
open Go.RowKit Go.Lib
def hdP (sp lp : Int) : Bs := [UInt8.ofNat (65 + sp).toNat, UInt8.ofNat lp.toNat]
theorem hdP_len (sp lp : Int) : (hdP sp lp).length = 2 := rfl
set_option maxHeartbeats 2000000 in
theorem head_any (sp lp : Int) (h : 0 ≤ sp ∧ sp ≤ 7 ∧ 0 ≤ lp ∧ lp ≤ 6) (w : World) :
  Calls Tryz.prog 131 #[.agg #[.int .i64 sp, .int .i64 lp]] w fun e w' => e = .returned (.string (S (hdP sp lp))) ∧ Below w.heap.size w w' := by
 obtain ⟨h1, h2, h3, h4⟩ := h
 have w1 : IntKind.i64.wrap (65 + sp) = 65 + sp := by rw [IntKind.wrap_i64]; omega
 have w2 : IntKind.u8.wrap (65 + sp) = 65 + sp := by rw [IntKind.wrap_u8]; omega
 have w3 : IntKind.u8.wrap lp = lp := by rw [IntKind.wrap_u8]; omega
 have hcv := cv_bytes (l := hdP sp lp) (Blk.new (w.alloc (.cells #[.int .i64 sp, .int .i64 lp] 234)) 5 #[.int .u8 (65 + sp), .int .u8 lp]) (by
  simp [bA, cB, hdP]
  omega) 2 2 rfl
 have hz : (w.alloc (.cells #[.int .i64 sp, .int .i64 lp] 234)).heap.size = w.heap.size + 1 := by simp
 rw [hz] at hcv
 clear hz
 go_enter Tryz.func131, Tryz.ntmps131
 go_wp2
 go_ret
 exact ⟨rfl, ((Below.refl _ w).alloc (Nat.le_refl _) _).alloc (by simp) _⟩
theorem next_any (sp lp : Int) (h : 0 ≤ sp ∧ sp ≤ 7 ∧ 0 ≤ lp ∧ lp ≤ 5) (w : World) :
  Calls Tryz.prog 172 #[.agg #[.int .i64 sp, .int .i64 lp]] w fun e w' => e = .returned (.string (S (hdP sp (lp + 1)))) ∧ Below w.heap.size w w' := by
 have w1 : IntKind.i64.wrap (lp + 1) = lp + 1 := by rw [IntKind.wrap_i64]; omega
 have H := hid (head_any sp (lp + 1) ⟨h.1, h.2.1, by omega, by omega⟩)
 go_enter Tryz.func172, Tryz.ntmps172
 go_wp2_with fail
 (with_reducible refine (H.out _).mono ?_)
 rintro e w' ⟨rfl, hb⟩
 have HB : Hid (Below w.heap.size w w') := hid (((Below.refl _ w).alloc (Nat.le_refl _) _).trans (hb.mono (by simp)))
 clear hb
 go_wp2
 go_ret
 exact ⟨rfl, HB.out⟩
theorem hdP_next {sp lp : Int} (h : 0 ≤ lp ∧ lp ≤ 5) : toK (hdP sp lp) [] = hdP sp (lp + 1) := by
 unfold toK hdP
 simp
 have h6 : lp = 0 ∨ lp = 1 ∨ lp = 2 ∨ lp = 3 ∨ lp = 4 ∨ lp = 5 := by omega
 rcases h6 with rfl | rfl | rfl | rfl | rfl | rfl <;> rfl
theorem hdP_byte {sp lp : Int} (h : 0 ≤ lp ∧ lp ≤ 5) : ∃ x y : UInt8, hdP sp lp = [x, y] ∧ y.toNat < 255 := ⟨_, _, rfl, by simp; omega⟩
set_option maxHeartbeats 4000000 in
theorem within_any (sp lp : Int) (h : 0 ≤ sp ∧ sp ≤ 7 ∧ 0 ≤ lp ∧ lp ≤ 5) (fr to : Bs) (hfl : (fr.length : Int) ≤ 8388608) (htl : (to.length : Int) ≤ 8388608) (w : World) :
  Calls Tryz.prog 132 #[.agg #[.int .i64 sp, .int .i64 lp], .string (S fr), .string (S to)] w fun e w' => e = .returned (.tuple #[.string (S (hdP sp lp ++ fr)), .string (S (toK (hdP sp lp) to))]) ∧ Below w.heap.size w w' := by
 have HH := hid (head_any sp lp ⟨h.1, h.2.1, h.2.2.1, by omega⟩)
 have HN := hid (next_any sp lp h)
 obtain ⟨W1, hW1⟩ : ∃ W1, W1 = w.alloc (.cells #[.int .i64 sp, .int .i64 lp] 234) := ⟨_, rfl⟩
 have hb1 : Below w.heap.size w W1 := by rw [hW1]; exact (Below.refl _ w).alloc (Nat.le_refl _) _
 have hB1 : Blk W1 w.heap.size 234 #[.int .i64 sp, .int .i64 lp] := by rw [hW1]; exact Blk.new w _ _
 obtain ⟨C, hC⟩ : ∃ C : World → Prop, Hid (∀ W, C W ↔ Below W1.heap.size W1 W) := ⟨_, hid fun _ => Iff.rfl⟩
 have HCL : Hid (∀ W, C W → W.cell? ⟨w.heap.size, 0, none⟩ = some (.int .i64 sp) ∧ W.cell? ⟨w.heap.size, 1, none⟩ = some (.int .i64 lp)) := hid fun W hW => by
  have h1 := hB1.below ((hC.out W).1 hW) hB1.lt
  exact ⟨h1.cell 0, h1.cell 1⟩
 have HC1 : Hid (∀ W, C W → Calls Tryz.prog 131 #[.agg #[.int .i64 sp, .int .i64 lp]] W fun e w' => e = .returned (.string (S (hdP sp lp))) ∧ C w') := hid fun W hW => by
  refine (HH.out W).mono ?_
  rintro e w' ⟨rfl, hb⟩
  have h1 := (hC.out W).1 hW
  exact ⟨rfl, (hC.out w').2 (h1.trans (hb.mono h1.size))⟩
 have HC2 : Hid (∀ W, C W → Calls Tryz.prog 172 #[.agg #[.int .i64 sp, .int .i64 lp]] W fun e w' => e = .returned (.string (S (hdP sp (lp + 1)))) ∧ C w') := hid fun W hW => by
  refine (HN.out W).mono ?_
  rintro e w' ⟨rfl, hb⟩
  have h1 := (hC.out W).1 hW
  exact ⟨rfl, (hC.out w').2 (h1.trans (hb.mono h1.size))⟩
 have HC0 : Hid (C W1.drew) := hid ((hC.out _).2 (below_drewN (Below.refl _ W1) 1))
 have HF : Hid (∀ W, C W → Below w.heap.size w W) := hid fun W hW => hb1.trans (((hC.out W).1 hW).mono hb1.size)
 have hl2 : ((hdP sp lp).length : Int) ≤ 8388608 := by rw [hdP_len]; decide
 have hs1 : ¬ 9223372036854775807 < (hdP sp lp).length + fr.length := by rw [hdP_len]; omega
 have hs2 : ¬ 9223372036854775807 < (hdP sp lp).length + to.length := by rw [hdP_len]; omega
 have HT := hid (hdP_next (sp := sp) ⟨h.2.2.1, h.2.2.2⟩)
 clear hb1 hB1 HH HN hC
 by_cases hto : to = []
 ·subst hto
  rw [HT.out]
  have htoe : ([] : Bs).isEmpty = true := rfl
  go_enter Tryz.func132, Tryz.ntmps132
  go_wp2
  rw [← hW1]
  refine qC_region (by kernel_rfl) (by kernel_rfl) C HC0.out ?_
  repeat (first | (refine qC_none rfl (fun K hK => ?_); apply Exists.intro; refine ⟨fun w0 hw0 => ?_, ?_⟩; (focus (obtain ⟨q0, q1⟩ := HCL.out w0 hw0; go_simp; first | exact rfl | exact ⟨rfl, rfl⟩ | (first | exact HC1.out w0 hw0 | exact HC2.out w0 hw0))); go_simp; refine hK _ ?_; clear hK K) | (refine qC_yes _ _ _ rfl rfl (by rfl) (fun K hK => ?_); apply Exists.intro; refine ⟨fun w0 hw0 => ?_, ?_⟩; (focus (obtain ⟨q0, q1⟩ := HCL.out w0 hw0; go_simp; first | exact rfl | exact ⟨rfl, rfl⟩ | (first | exact HC1.out w0 hw0 | exact HC2.out w0 hw0))); go_simp; refine hK _ ?_; clear hK K) | (refine qC_no _ _ _ rfl rfl (by rfl) (fun K hK => ?_); go_simp; refine hK _ ?_; clear hK K) | (refine qC_undef _ _ _ rfl rfl (by rfl) (fun K hK => ?_); go_simp; refine hK _ ?_; clear hK K))
  refine qC_nil ?_
  intro w5 hw5
  have H5 := hid (HF.out w5 hw5)
  clear hw5
  go_wp2
  go_ret2
  exact ⟨rfl, H5.out⟩
 ·have htoe : to.isEmpty = false := by cases to with
   | nil => exact absurd rfl hto
   | cons a t => rfl
  have htk : toK (hdP sp lp) to = hdP sp lp ++ to := by unfold toK; rw [if_neg hto]
  rw [htk]
  clear htk hto
  go_enter Tryz.func132, Tryz.ntmps132
  go_wp2
  rw [← hW1]
  refine qC_region (by kernel_rfl) (by kernel_rfl) C HC0.out ?_
  repeat (first | (refine qC_none rfl (fun K hK => ?_); apply Exists.intro; refine ⟨fun w0 hw0 => ?_, ?_⟩; (focus (obtain ⟨q0, q1⟩ := HCL.out w0 hw0; go_simp; first | exact rfl | exact ⟨rfl, rfl⟩ | (first | exact HC1.out w0 hw0 | exact HC2.out w0 hw0))); go_simp; refine hK _ ?_; clear hK K) | (refine qC_yes _ _ _ rfl rfl (by rfl) (fun K hK => ?_); apply Exists.intro; refine ⟨fun w0 hw0 => ?_, ?_⟩; (focus (obtain ⟨q0, q1⟩ := HCL.out w0 hw0; go_simp; first | exact rfl | exact ⟨rfl, rfl⟩ | (first | exact HC1.out w0 hw0 | exact HC2.out w0 hw0))); go_simp; refine hK _ ?_; clear hK K) | (refine qC_no _ _ _ rfl rfl (by rfl) (fun K hK => ?_); go_simp; refine hK _ ?_; clear hK K) | (refine qC_undef _ _ _ rfl rfl (by rfl) (fun K hK => ?_); go_simp; refine hK _ ?_; clear hK K))
  refine qC_nil ?_
  intro w5 hw5
  have H5 := hid (HF.out w5 hw5)
  clear hw5
  go_wp2
  go_ret2
  exact ⟨rfl, H5.out⟩
def mayE (nil : Bool) (sp lp : Int) (rests : List Bs) : Int := if nil = true then 1 else if sp < 0 ∨ 7 < sp ∨ lp < 0 ∨ 6 ≤ lp then 2 else if ∃ r ∈ rests, 30 < r.length then 2 else 0
theorem mayE_nil (sp lp : Int) (rests : List Bs) : mayE true sp lp rests = 1 := rfl
theorem mayE_bad {sp lp : Int} (h : sp < 0 ∨ 7 < sp ∨ lp < 0 ∨ 6 ≤ lp) (rests : List Bs) : mayE false sp lp rests = 2 := by unfold mayE; rw [if_neg (by simp), if_pos h]
theorem mayE_long {sp lp : Int} (h : ¬ (sp < 0 ∨ 7 < sp ∨ lp < 0 ∨ 6 ≤ lp)) {rests : List Bs} (hr : ∃ r ∈ rests, 30 < r.length) : mayE false sp lp rests = 2 := by unfold mayE; rw [if_neg (by simp), if_neg h, if_pos hr]
theorem mayE_ok {sp lp : Int} (h : ¬ (sp < 0 ∨ 7 < sp ∨ lp < 0 ∨ 6 ≤ lp)) {rests : List Bs} (hr : ¬ ∃ r ∈ rests, 30 < r.length) : mayE false sp lp rests = 0 := by unfold mayE; rw [if_neg (by simp), if_neg h, if_neg hr]
set_option maxHeartbeats 4000000 in
theorem smay_any (s : Option Addr) (sp lp : Int) (rests : List Bs) (g c : Nat) (w : World) (hr : ∀ (j : Nat) x, rests[j]? = some x → w.cell? ⟨g, j, none⟩ = some (.string (S x))) (hg : g < w.heap.size) (hl : rests.length ≤ 1000) :
  Calls Tryz.prog 129 #[.pointer s, .agg #[.int .i64 sp, .int .i64 lp], .slice (some ⟨g, 0, none⟩) rests.length c] w fun e w' => e = .returned (.int .i64 (mayE s.isNone sp lp rests)) ∧ Below w.heap.size w w' := by
 cases s with
 | none =>
  rw [show (none : Option Addr).isNone = true from rfl, mayE_nil]
  clear hr
  go_enter Tryz.func129, Tryz.ntmps129
  go_wp2
  go_ret
  exact ⟨rfl, (Below.refl _ w).alloc (Nat.le_refl _) _⟩
 | some s =>
  rw [show (some s).isNone = false from rfl]
  by_cases hb : sp < 0 ∨ 7 < sp ∨ lp < 0 ∨ 6 ≤ lp
  ·rw [mayE_bad hb]
   clear hr
   by_cases h1 : sp < 0
   ·clear hb
    go_enter Tryz.func129, Tryz.ntmps129
    go_wp2
    go_ret
    exact ⟨rfl, (Below.refl _ w).alloc (Nat.le_refl _) _⟩
   ·by_cases h2 : 7 < sp
    ·clear hb
     go_enter Tryz.func129, Tryz.ntmps129
     go_wp2
     go_ret
     exact ⟨rfl, (Below.refl _ w).alloc (Nat.le_refl _) _⟩
    ·by_cases h3 : lp < 0
     ·clear hb
      go_enter Tryz.func129, Tryz.ntmps129
      go_wp2
      go_ret
      exact ⟨rfl, (Below.refl _ w).alloc (Nat.le_refl _) _⟩
     ·have h4 : 6 ≤ lp := by omega
      clear hb
      go_enter Tryz.func129, Tryz.ntmps129
      go_wp2
      go_ret
      exact ⟨rfl, (Below.refl _ w).alloc (Nat.le_refl _) _⟩
  ·have h1 : ¬ sp < 0 := by omega
   have h2 : ¬ 7 < sp := by omega
   have h3 : ¬ lp < 0 := by omega
   have h4 : ¬ 6 ≤ lp := by omega
   have HB := hid hb
   have HR := hid hr
   clear hb hr
   obtain ⟨nl, hnl⟩ : ∃ nl, nl = rests.length := ⟨_, rfl⟩
   have HNL := hid hnl
   rw [← hnl] at hl ⊢
   clear hnl
   go_enter Tryz.func129, Tryz.ntmps129
   go_wp2
   have hsl : (nl : Int) ≤ 1000 := by omega
   go_loopg [8, 33] nl (fun gg s8 s33 wr => ∃ (j : Nat), j ≤ nl ∧ nl - j ≤ gg ∧ s33 = .int .i64 j ∧ Hid (Below w.heap.size w wr) ∧ Hid (∀ i x, i < j → rests[i]? = some x → x.length ≤ 30))
   case atStart => exact ⟨0, Nat.zero_le _, by omega, rfl, hid ((Below.refl _ w).alloc (Nat.le_refl _) _), hid (fun i x h => absurd h (by omega))⟩
   case round =>
    obtain ⟨j, hj, hgg, rfl, HI, HS⟩ := hrel
    by_cases hje : j < nl
    ·obtain ⟨x, hx⟩ : ∃ x, rests[j]? = some x := ⟨_, List.getElem?_eq_getElem (by rw [← HNL.out]; exact hje)⟩
     have c0 : wr.cell? ⟨g, j, none⟩ = some (.string (S x)) := (HI.out.cell hg).trans (HR.out j x hx)
     have hji : (j : Int) < (nl : Int) := by omega
     have HX := hid hx
     clear hx
     by_cases hlen : 30 < (x.length : Int)
     ·have HL := hid hlen
      go_wp2
      go_ret
      rw [mayE_long HB.out ⟨x, List.mem_of_getElem? HX.out, by have := HL.out; omega⟩]
      exact ⟨rfl, HI.out⟩
     ·have HL := hid hlen
      go_wp2
      go_roundg (nl - (j + 1))
      case measure => omega
      case rel =>
       refine ⟨j + 1, by omega, by omega, by go_num, HI, hid (fun i y hi hy => ?_)⟩
       rcases Nat.lt_succ_iff_lt_or_eq.1 hi with h | rfl
       ·exact HS.out i y h hy
       ·have := HX.out
        rw [this] at hy
        injection hy with hy
        subst hy
        have := HL.out
        omega
    ·have hji : ¬ ((j : Int) < (nl : Int)) := by omega
     go_wp2
     go_ret
     rw [mayE_ok HB.out (by
      rintro ⟨r, hr, h30⟩
      obtain ⟨i, hi, rfl⟩ := List.mem_iff_getElem.1 hr
      have := HS.out i _ (by have := HNL.out; omega) (List.getElem?_eq_getElem hi)
      omega)]
     exact ⟨rfl, HI.out⟩
end
section
open Go.RowKit Go.Lib
structure SL where
 sb : Nat
 tb : Nat
 P : PL
structure StI (w : World) (s : SL) (O : List Nat) (N : Nat) (M : List KV) : Prop where
 tree : TreeI w s.P O s.tb N M
 st : ∃ f, Blk w s.sb 238 #[.pointer (some ⟨s.tb, 0, none⟩), .pointer (some ⟨s.P.p, 0, none⟩), .bool f]
 no : s.sb ∉ O
section
variable {w w' : World} {s : SL} {O : List Nat} {N : Nat} {M : List KV}
theorem StI.of_blocks (h : StI w s O N M) (e : ∀ b ∈ s.sb :: s.tb :: O, w'.heap[b]? = w.heap[b]?) : StI w' s O N M := by
 obtain ⟨f, hf⟩ := h.st
 exact ⟨h.tree.of_blocks (fun b hb => e b (List.mem_cons_of_mem _ hb)), ⟨f, (e s.sb (by simp)).trans hf⟩, h.no⟩
theorem StI.lts (h : StI w s O N M) : ∀ b ∈ s.sb :: s.tb :: O, b < w.heap.size := by
 intro b hb
 rcases List.mem_cons.1 hb with rfl | hb
 ·obtain ⟨f, hf⟩ := h.st
  exact hf.lt
 ·exact h.tree.lts b hb
theorem StI.below (h : StI w s O N M) (hb : Below w.heap.size w w') : StI w' s O N M := h.of_blocks fun b hx => hb.block b (h.lts b hx)
theorem StI.kp {O' : List Nat} (h : StI w s O N M) (hk : Kp O' w w') (ho : ∀ b ∈ s.sb :: s.tb :: O, b ∉ O') : StI w' s O N M := h.of_blocks fun b hx => hk.block b (h.lts b hx) (ho b hx)
theorem StI.c0 (h : StI w s O N M) : w.cell? ⟨s.sb, 0, none⟩ = some (.pointer (some ⟨s.tb, 0, none⟩)) := by
 obtain ⟨f, hf⟩ := h.st
 exact hf.cell 0
theorem StI.sb_lt (h : StI w s O N M) : s.sb < w.heap.size := h.lts _ (by simp)
theorem StI.asc (h : StI w s O N M) : AscM M := h.tree.asc
theorem StI.turn (h : StI w s O N M) {O' : List Nat} {N' : Nat} {M' : List KV} (hk : Kp O w w') (hg : Gr O w.heap.size O') (ht : TreeI w' s.P O' s.tb N' M') : StI w' s O' N' M' := by
 obtain ⟨f, hf⟩ := h.st
 exact ⟨ht, ⟨f, hf.kp hk h.no⟩, hg.out hf.lt h.no⟩
end
theorem smay1 (s : Option Addr) (sp lp : Int) (k : Bs) (g c : Nat) (w : World) (hr : w.cell? ⟨g, 0, none⟩ = some (.string (S k))) (hg : g < w.heap.size) :
  Calls Tryz.prog 129 #[.pointer s, .agg #[.int .i64 sp, .int .i64 lp], .slice (some ⟨g, 0, none⟩) 1 c] w fun e w' => e = .returned (.int .i64 (mayE s.isNone sp lp [k])) ∧ Below w.heap.size w w' :=
 smay_any s sp lp [k] g c w (fun j x hx => by
  cases j with
  | zero => simp at hx; subst hx; exact hr
  | succ j => simp at hx) hg (by simp)
theorem smay2 (s : Option Addr) (sp lp : Int) (k k2 : Bs) (g c : Nat) (w : World) (hr : w.cell? ⟨g, 0, none⟩ = some (.string (S k))) (hr2 : w.cell? ⟨g, 1, none⟩ = some (.string (S k2))) (hg : g < w.heap.size) :
  Calls Tryz.prog 129 #[.pointer s, .agg #[.int .i64 sp, .int .i64 lp], .slice (some ⟨g, 0, none⟩) 2 c] w fun e w' => e = .returned (.int .i64 (mayE s.isNone sp lp [k, k2])) ∧ Below w.heap.size w w' :=
 smay_any s sp lp [k, k2] g c w (fun j x hx => by
  rcases j with _ | _ | j
  ·simp at hx; subst hx; exact hr
  ·simp at hx; subst hx; exact hr2
  ·simp at hx) hg (by simp)
def okP (sp lp : Int) : Prop := 0 ≤ sp ∧ sp ≤ 7 ∧ 0 ≤ lp ∧ lp ≤ 5
theorem okP.not {sp lp : Int} (h : okP sp lp) : ¬ (sp < 0 ∨ 7 < sp ∨ lp < 0 ∨ 6 ≤ lp) := by
 unfold okP at h
 omega
theorem mayE_ok1 {sp lp : Int} (h : okP sp lp) {k : Bs} (hk : k.length ≤ 30) : mayE false sp lp [k] = 0 := mayE_ok h.not (by simp; omega)
theorem mayE_ok2 {sp lp : Int} (h : okP sp lp) {k k2 : Bs} (hk : k.length ≤ 30) (hk2 : k2.length ≤ 30) : mayE false sp lp [k, k2] = 0 := mayE_ok h.not (by simp; omega)
structure Bef (w : World) (sp lp : Int) (k : Bs) (W2 : World) : Prop where
 b : Below w.heap.size w W2
 part : Blk W2 w.heap.size 234 #[.int .i64 sp, .int .i64 lp]
 key : W2.cell? ⟨w.heap.size + 1, 0, none⟩ = some (.string (S k))
 lt : w.heap.size + 1 < W2.heap.size
theorem bef1 (w : World) (sp lp : Int) (k : Bs) : Bef w sp lp k ((w.alloc (.cells #[.int .i64 sp, .int .i64 lp] 234)).alloc (.cells #[.string (S k)] 9)) := by
 refine ⟨((Below.refl _ w).alloc (Nat.le_refl _) _).alloc (by simp) _, (Blk.new w _ _).alloc _, ?_, by simp⟩
 have := (Blk.new (w.alloc (.cells #[.int .i64 sp, .int .i64 lp] 234)) 9 #[.string (S k)]).cell 0
 simpa using this
section
variable {w : World} {s : SL} {O : List Nat} {N : Nat} {M : List KV} {sp lp : Int} {k v : Bs}
set_option maxHeartbeats 4000000 in
theorem sset_any (h : StI w s O N M) (hp : okP sp lp) (hk : k.length ≤ 30) (hv : v.length ≤ 228) (hroom : Roomy N M.length (longs M)) :
  Calls Tryz.prog 80 #[.pointer (some ⟨s.sb, 0, none⟩), .int .i64 sp, .int .i64 lp, .string (S k), .string (S v)] w fun e w' => ∃ O', e = .returned (.int .i64 0) ∧ StI w' s O' (N + 1) (setM M (hdP sp lp ++ k) v) ∧ Kp O w w' ∧ Gr O w.heap.size O' := by
 have B2 := bef1 w sp lp k
 have HM := hid (smay1 (some ⟨s.sb, 0, none⟩) sp lp k (w.heap.size + 1) 1 _ B2.key B2.lt)
 rw [show (some (⟨s.sb, 0, none⟩ : Addr)).isNone = false from rfl, mayE_ok1 hp hk] at HM
 have HH := hid (head_any sp lp ⟨hp.1, hp.2.1, hp.2.2.1, by have := hp.2.2.2; omega⟩)
 have HSET := hid (fun W (hW : Below w.heap.size w W) => tset_any (k := hdP sp lp ++ k) (v := v) (h.tree.below hW) (by rw [List.length_append, hdP_len]; omega) hv hroom)
 have hs1 : ¬ 9223372036854775807 < (hdP sp lp).length + k.length := by rw [hdP_len]; omega
 have HX := hid (⟨h, B2⟩ : _ ∧ _)
 clear hp hk hv hroom h B2
 go_enter Tryz.func80, Tryz.ntmps80
 go_wp2_with fail
 (with_reducible refine HM.out.mono ?_)
 rintro e W3 ⟨rfl, hb3⟩
 obtain ⟨h, B2⟩ := HX.out
 have hb03 := B2.b.trans (hb3.mono (Nat.le_trans (Nat.le_succ _) (Nat.le_of_lt B2.lt)))
 have hP3 := B2.part.below hb3 B2.part.lt
 have h3 := h.below hb03
 have s0 := h3.c0
 have p0 : W3.cell? ⟨w.heap.size, 0, none⟩ = some (.int .i64 sp) := hP3.cell 0
 have p1 : W3.cell? ⟨w.heap.size, 1, none⟩ = some (.int .i64 lp) := hP3.cell 1
 have hlt3 := h3.sb_lt
 have hlp3 := hP3.lt
 have H3 := hid (⟨hb03, hP3, h3⟩ : _ ∧ _ ∧ _)
 have HKB : Hid (∀ W, Below W3.heap.size W3 W → W.cell? ⟨s.sb, 0, none⟩ = some (.pointer (some ⟨s.tb, 0, none⟩)) ∧ W.cell? ⟨w.heap.size, 0, none⟩ = some (.int .i64 sp) ∧ W.cell? ⟨w.heap.size, 1, none⟩ = some (.int .i64 lp)) := hid fun W hW => ⟨(h3.below hW).c0, (hP3.below hW hP3.lt).cell 0, (hP3.below hW hP3.lt).cell 1⟩
 have HKC : Hid (∀ W W', Below W3.heap.size W3 W → Kp O W W' → W'.cell? ⟨s.sb, 0, none⟩ = some (.pointer (some ⟨s.tb, 0, none⟩)) ∧ W'.cell? ⟨w.heap.size, 0, none⟩ = some (.int .i64 sp) ∧ W'.cell? ⟨w.heap.size, 1, none⟩ = some (.int .i64 lp)) := hid fun W W' hW hk => by
  obtain ⟨f, hf⟩ := (h3.below hW).st
  have h4 := (hP3.below hW hP3.lt).kp hk (fun hm => by have := h.lts w.heap.size (by simp [hm]); omega)
  exact ⟨(hf.kp hk h3.no).cell 0, h4.cell 0, h4.cell 1⟩
 have HS := hid (⟨s0, p0, p1⟩ : _ ∧ _ ∧ _)
 clear h B2 hb3 hb03 hP3 h3 s0 p0 p1
 go_wp2
 go_region_held3 (fun W => W.cell? ⟨s.sb, 0, none⟩ = some (.pointer (some ⟨s.tb, 0, none⟩)) ∧ W.cell? ⟨w.heap.size, 0, none⟩ = some (.int .i64 sp) ∧ W.cell? ⟨w.heap.size, 1, none⟩ = some (.int .i64 lp)) (first | with_reducible exact HS5 | with_reducible exact HS4 | exact HS.out)
  (first
   | (go_at_call 131; refine (HH.out _).mono ?_; rintro e W4 ⟨rfl, hb4⟩; have hb4' := below_undrew hb4; have HS4 := HKB.out W4 hb4')
   | (go_at_call 130; refine (HSET.out _ (H3.out.1.trans (hb4'.mono H3.out.1.size))).mono ?_; rintro e W5 ⟨O5, rfl, hT5, hk5, hg5⟩; have HS5 := HKC.out _ _ hb4' hk5))
 all_goals
  obtain ⟨hb03, hP3, h3⟩ := H3.out
  have h4 := h3.below hb4'
  have h5 := h4.turn hk5 hg5 hT5
  have HF := hid (⟨h5, (Kp.of_below (hb03.trans (hb4'.mono hb03.size))).trans hk5, hg5.mono (Nat.le_trans hb03.size hb4'.size)⟩ : _ ∧ _ ∧ _)
  clear h4 h5 hT5 hk5 hg5 HS5 HS4 hb4 hb4' hb03 hP3 h3
  go_wp2
  go_ret
  exact ⟨O5, rfl, HF.out⟩
set_option maxHeartbeats 4000000 in
theorem sget_any (h : StI w s O N M) (hp : okP sp lp) (hk : k.length ≤ 30) :
  Calls Tryz.prog 107 #[.pointer (some ⟨s.sb, 0, none⟩), .int .i64 sp, .int .i64 lp, .string (S k)] w fun e w' => e = .returned (getR (getM M (hdP sp lp ++ k))) ∧ StI w' s O N M ∧ Kp O w w' := by
 obtain ⟨ga, ge, hR⟩ : ∃ ga ge, getR (getM M (hdP sp lp ++ k)) = .tuple #[.string ga, .int .i64 ge] := by
  cases getM M (hdP sp lp ++ k) with
  | none => exact ⟨_, _, rfl⟩
  | some x => exact ⟨_, _, rfl⟩
 have B2 := bef1 w sp lp k
 have HM := hid (smay1 (some ⟨s.sb, 0, none⟩) sp lp k (w.heap.size + 1) 1 _ B2.key B2.lt)
 rw [show (some (⟨s.sb, 0, none⟩ : Addr)).isNone = false from rfl, mayE_ok1 hp hk] at HM
 have HH := hid (head_any sp lp ⟨hp.1, hp.2.1, hp.2.2.1, by have := hp.2.2.2; omega⟩)
 have HSET := hid (fun W (hW : Below w.heap.size w W) => tget_any (h.tree.below hW) (hdP sp lp ++ k))
 rw [hR] at HSET ⊢
 have hs1 : ¬ 9223372036854775807 < (hdP sp lp).length + k.length := by rw [hdP_len]; omega
 have HX := hid (⟨h, B2⟩ : _ ∧ _)
 clear hp hk h B2 hR
 go_enter Tryz.func107, Tryz.ntmps107
 go_wp2_with fail
 (with_reducible refine HM.out.mono ?_)
 rintro e W3 ⟨rfl, hb3⟩
 obtain ⟨h, B2⟩ := HX.out
 have hb03 := B2.b.trans (hb3.mono (Nat.le_trans (Nat.le_succ _) (Nat.le_of_lt B2.lt)))
 have hP3 := B2.part.below hb3 B2.part.lt
 have h3 := h.below hb03
 have s0 := h3.c0
 have p0 : W3.cell? ⟨w.heap.size, 0, none⟩ = some (.int .i64 sp) := hP3.cell 0
 have p1 : W3.cell? ⟨w.heap.size, 1, none⟩ = some (.int .i64 lp) := hP3.cell 1
 have hlt3 := h3.sb_lt
 have hlp3 := hP3.lt
 have H3 := hid (⟨hb03, hP3, h3⟩ : _ ∧ _ ∧ _)
 have HKB : Hid (∀ W, Below W3.heap.size W3 W → W.cell? ⟨s.sb, 0, none⟩ = some (.pointer (some ⟨s.tb, 0, none⟩)) ∧ W.cell? ⟨w.heap.size, 0, none⟩ = some (.int .i64 sp) ∧ W.cell? ⟨w.heap.size, 1, none⟩ = some (.int .i64 lp)) := hid fun W hW => ⟨(h3.below hW).c0, (hP3.below hW hP3.lt).cell 0, (hP3.below hW hP3.lt).cell 1⟩
 have HKC : Hid (∀ W W', Below W3.heap.size W3 W → Kp O W W' → W'.cell? ⟨s.sb, 0, none⟩ = some (.pointer (some ⟨s.tb, 0, none⟩)) ∧ W'.cell? ⟨w.heap.size, 0, none⟩ = some (.int .i64 sp) ∧ W'.cell? ⟨w.heap.size, 1, none⟩ = some (.int .i64 lp)) := hid fun W W' hW hk => by
  obtain ⟨f, hf⟩ := (h3.below hW).st
  have h4 := (hP3.below hW hP3.lt).kp hk (fun hm => by have := h.lts w.heap.size (by simp [hm]); omega)
  exact ⟨(hf.kp hk h3.no).cell 0, h4.cell 0, h4.cell 1⟩
 have HS := hid (⟨s0, p0, p1⟩ : _ ∧ _ ∧ _)
 clear h B2 hb3 hb03 hP3 h3 s0 p0 p1
 go_wp2
 go_region_held3 (fun W => W.cell? ⟨s.sb, 0, none⟩ = some (.pointer (some ⟨s.tb, 0, none⟩)) ∧ W.cell? ⟨w.heap.size, 0, none⟩ = some (.int .i64 sp) ∧ W.cell? ⟨w.heap.size, 1, none⟩ = some (.int .i64 lp)) (first | with_reducible exact HS5 | with_reducible exact HS4 | exact HS.out)
  (first
   | (go_at_call 131; refine (HH.out _).mono ?_; rintro e W4 ⟨rfl, hb4⟩; have hb4' := below_undrew hb4; have HS4 := HKB.out W4 hb4')
   | (go_at_call 154; refine (HSET.out _ (H3.out.1.trans (hb4'.mono H3.out.1.size))).mono ?_; rintro e W5 ⟨rfl, hk5, hT5⟩; have HS5 := HKC.out _ _ hb4' hk5))
 all_goals
  obtain ⟨hb03, hP3, h3⟩ := H3.out
  have h4 := h3.below hb4'
  have h5 := h4.turn hk5 (Gr.refl _ _) hT5
  have HF := hid (⟨h5, (Kp.of_below (hb03.trans (hb4'.mono hb03.size))).trans hk5⟩ : _ ∧ _)
  clear h4 h5 hT5 hk5 HS5 HS4 hb4 hb4' hb03 hP3 h3
  go_wp2
  go_ret2
  exact ⟨rfl, HF.out⟩
set_option maxHeartbeats 4000000 in
theorem sdel_any (h : StI w s O N M) (hp : okP sp lp) (hk : k.length ≤ 30) :
  Calls Tryz.prog 105 #[.pointer (some ⟨s.sb, 0, none⟩), .int .i64 sp, .int .i64 lp, .string (S k)] w fun e w' => e = .returned (delR (getM M (hdP sp lp ++ k))) ∧ StI w' s O N (delM M (hdP sp lp ++ k)) ∧ Kp O w w' := by
 obtain ⟨ge, hR⟩ : ∃ ge, delR (getM M (hdP sp lp ++ k)) = .int .i64 ge := by
  cases getM M (hdP sp lp ++ k) with
  | none => exact ⟨_, rfl⟩
  | some x => exact ⟨_, rfl⟩
 have B2 := bef1 w sp lp k
 have HM := hid (smay1 (some ⟨s.sb, 0, none⟩) sp lp k (w.heap.size + 1) 1 _ B2.key B2.lt)
 rw [show (some (⟨s.sb, 0, none⟩ : Addr)).isNone = false from rfl, mayE_ok1 hp hk] at HM
 have HH := hid (head_any sp lp ⟨hp.1, hp.2.1, hp.2.2.1, by have := hp.2.2.2; omega⟩)
 have HSET := hid (fun W (hW : Below w.heap.size w W) => tdel_any (h.tree.below hW) (hdP sp lp ++ k))
 rw [hR] at HSET ⊢
 have hs1 : ¬ 9223372036854775807 < (hdP sp lp).length + k.length := by rw [hdP_len]; omega
 have HX := hid (⟨h, B2⟩ : _ ∧ _)
 clear hp hk h B2 hR
 go_enter Tryz.func105, Tryz.ntmps105
 go_wp2_with fail
 (with_reducible refine HM.out.mono ?_)
 rintro e W3 ⟨rfl, hb3⟩
 obtain ⟨h, B2⟩ := HX.out
 have hb03 := B2.b.trans (hb3.mono (Nat.le_trans (Nat.le_succ _) (Nat.le_of_lt B2.lt)))
 have hP3 := B2.part.below hb3 B2.part.lt
 have h3 := h.below hb03
 have s0 := h3.c0
 have p0 : W3.cell? ⟨w.heap.size, 0, none⟩ = some (.int .i64 sp) := hP3.cell 0
 have p1 : W3.cell? ⟨w.heap.size, 1, none⟩ = some (.int .i64 lp) := hP3.cell 1
 have hlt3 := h3.sb_lt
 have hlp3 := hP3.lt
 have H3 := hid (⟨hb03, hP3, h3⟩ : _ ∧ _ ∧ _)
 have HKB : Hid (∀ W, Below W3.heap.size W3 W → W.cell? ⟨s.sb, 0, none⟩ = some (.pointer (some ⟨s.tb, 0, none⟩)) ∧ W.cell? ⟨w.heap.size, 0, none⟩ = some (.int .i64 sp) ∧ W.cell? ⟨w.heap.size, 1, none⟩ = some (.int .i64 lp)) := hid fun W hW => ⟨(h3.below hW).c0, (hP3.below hW hP3.lt).cell 0, (hP3.below hW hP3.lt).cell 1⟩
 have HKC : Hid (∀ W W', Below W3.heap.size W3 W → Kp O W W' → W'.cell? ⟨s.sb, 0, none⟩ = some (.pointer (some ⟨s.tb, 0, none⟩)) ∧ W'.cell? ⟨w.heap.size, 0, none⟩ = some (.int .i64 sp) ∧ W'.cell? ⟨w.heap.size, 1, none⟩ = some (.int .i64 lp)) := hid fun W W' hW hk => by
  obtain ⟨f, hf⟩ := (h3.below hW).st
  have h4 := (hP3.below hW hP3.lt).kp hk (fun hm => by have := h.lts w.heap.size (by simp [hm]); omega)
  exact ⟨(hf.kp hk h3.no).cell 0, h4.cell 0, h4.cell 1⟩
 have HS := hid (⟨s0, p0, p1⟩ : _ ∧ _ ∧ _)
 clear h B2 hb3 hb03 hP3 h3 s0 p0 p1
 go_wp2
 go_region_held3 (fun W => W.cell? ⟨s.sb, 0, none⟩ = some (.pointer (some ⟨s.tb, 0, none⟩)) ∧ W.cell? ⟨w.heap.size, 0, none⟩ = some (.int .i64 sp) ∧ W.cell? ⟨w.heap.size, 1, none⟩ = some (.int .i64 lp)) (first | with_reducible exact HS5 | with_reducible exact HS4 | exact HS.out)
  (first
   | (go_at_call 131; refine (HH.out _).mono ?_; rintro e W4 ⟨rfl, hb4⟩; have hb4' := below_undrew hb4; have HS4 := HKB.out W4 hb4')
   | (go_at_call 153; refine (HSET.out _ (H3.out.1.trans (hb4'.mono H3.out.1.size))).mono ?_; rintro e W5 ⟨rfl, hT5, hk5⟩; have HS5 := HKC.out _ _ hb4' hk5))
 all_goals
  obtain ⟨hb03, hP3, h3⟩ := H3.out
  have h4 := h3.below hb4'
  have h5 := h4.turn hk5 (Gr.refl _ _) hT5
  have HF := hid (⟨h5, (Kp.of_below (hb03.trans (hb4'.mono hb03.size))).trans hk5⟩ : _ ∧ _)
  clear h4 h5 hT5 hk5 HS5 HS4 hb4 hb4' hb03 hP3 h3
  go_wp2
  go_ret
  exact ⟨rfl, HF.out⟩
end
end
end Go.Proofs.YtnnghcooidjlhaaGreat
