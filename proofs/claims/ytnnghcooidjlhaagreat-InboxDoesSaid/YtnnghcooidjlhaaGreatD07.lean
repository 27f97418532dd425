/- Parts of the proof: Sd Po Pp. -/
import Derived.Deep.AppendLies
import Derived.Deep.LoopGhost
import Derived.Lib.Hide
import Derived.Shelf.Abstract
import Derived.Test.YtnnghcooidjlhaaGreatD01
import Derived.Test.YtnnghcooidjlhaaGreatD06
set_option linter.all false
set_option maxRecDepth 100000
namespace Go.Proofs.YtnnghcooidjlhaaGreat
section
open Go.RowKit Go.Lib
section
variable {w : World} {L : ShL} {G : ShG} {pgs : List (Option Bs)}
theorem DkI.lts_mem {D : DkL} {n : Nat} {sec : Nat → Bs} (h : DkI w D n sec) (q : Nat) (hq : q ∈ dkOwn D) : q < w.heap.size := by
 have hl := h.lts
 simp [dkOwn] at hq
 rcases hq with rfl | rfl | rfl | rfl <;> omega
theorem sh_new_end {W3 : World} {b : Bs} {p g cap l : Nat} {tv : Value} (H : ShI w L G pgs) (hb : b.length ≤ 232) (hsm : somes pgs < 300) (hpK : G.K[p]? = some 0) (hl : pgs[l]? = some none ∨ (l = pgs.length ∧ ∀ (j : Nat), pgs[j]? ≠ some none)) (hlT : l ≤ pgs.length) (hgs : g ≠ L.s)
  (hB3 : Blk W3 L.s 257 (shCells L tv)) (hO3 : W3.ownsRow 0 3 1 (.slice (some ⟨g, 0, none⟩) (tabAt G.T l p).length cap) (tabAt G.T l p).length (cI (tabAt G.T l p))) (hK3 : Kp (shOwn L G) w W3)
  (hg : g ∉ dkOwn L.D ++ [L.m, L.ml, L.s]) (hgo : g ∈ shOwn L G ∨ w.heap.size ≤ g) (hd : DkI W3 L.D 1202 (secK G.sec p (pageB p 2 2 b) 4)) (hm : MpI W3 L.m L.ml (G.K.set p 2)) :
  ∃ (l' : Nat) (G' : ShG), Ending.returned (.tuple #[.int .i64 (l : Int), .int .i64 0]) = Ending.returned (.tuple #[.int .i64 l', .int .i64 0]) ∧ l' ≤ pgs.length ∧ (pgs[l']? = some none ∨ l' = pgs.length) ∧
   ShI ((W3.setCell ⟨L.s, 2, none⟩ (.slice (some ⟨g, 0, none⟩) (tabAt G.T l p).length cap)).setCell ⟨g, l, none⟩ (.int .i64 p)) L G' (newAt pgs l' (pad b)) ∧
   Kp (shOwn L G) w ((W3.setCell ⟨L.s, 2, none⟩ (.slice (some ⟨g, 0, none⟩) (tabAt G.T l p).length cap)).setCell ⟨g, l, none⟩ (.int .i64 p)) ∧ Gr (shOwn L G) w.heap.size (shOwn L G') := by
 have hlT' : l ≤ G.T.length := by rw [H.tl]; exact hlT
 have e : ∀ q, q ≠ L.s → q ≠ g → ((W3.setCell ⟨L.s, 2, none⟩ (.slice (some ⟨g, 0, none⟩) (tabAt G.T l p).length cap)).setCell ⟨g, l, none⟩ (.int .i64 p)).heap[q]? = W3.heap[q]? := fun q h1 h2 =>
  (Below.heap_setCell _ ⟨g, l, none⟩ _ q h2).trans (Below.heap_setCell _ ⟨L.s, 2, none⟩ _ q h1)
 have hgm : g ∉ dkOwn L.D ∧ g ≠ L.m ∧ g ≠ L.ml := by simp at hg; exact ⟨hg.1, hg.2.1, hg.2.2.1⟩
 refine ⟨l, ⟨secK G.sec p (pageB p 2 2 b) 4, G.K.set p 2, tabAt G.T l p, .slice (some ⟨g, 0, none⟩) (tabAt G.T l p).length cap⟩, rfl, hlT, hl.imp id (fun h => h.1), H.new_ hb hpK hl hsm ?_ ?_ ?_ ?_ ?_, ?_, ?_⟩
 ·have h1 := (hB3.set_ 2 (.slice (some ⟨g, 0, none⟩) (tabAt G.T l p).length cap)).far (p := ⟨g, l, none⟩) (Ne.symm hgs) (.int .i64 p)
  simpa [shCells] using h1
 ·exact hd.of_blocks fun q hq => e q (fun h1 => H.s_dk (h1 ▸ hq)) (fun h1 => hgm.1 (h1 ▸ hq))
 ·exact hm.of_blocks (e _ (Ne.symm H.s_m) (Ne.symm hgm.2.1)) (e _ (Ne.symm H.s_ml) (Ne.symm hgm.2.2))
 ·have h1 := ownsRow_setCell_other hO3 (a := ⟨L.s, 2, none⟩) (by simpa [Value.ownBlock] using hgs) (.slice (some ⟨g, 0, none⟩) (tabAt G.T l p).length cap)
  have h2 := (h1.stored l (.int .i64 p)).1
  refine own_eq h2 rfl ?_
  have h3 := tabAt_get hlT' (p := (p : Int)) l
  rw [if_pos rfl] at h3
  have hll := (List.getElem?_eq_some_iff.1 h3).1
  apply List.ext_getElem?
  intro j
  rw [List.getElem?_set]
  by_cases hj : l = j
  ·subst hj
   rw [if_pos rfl, if_pos (by simpa using hll)]
   simp [cI, h3]
  ·rw [if_neg hj]
 ·unfold shOwn
  rw [List.nodup_append]
  have hp := H.parts
  refine ⟨by rw [List.nodup_append]; exact ⟨hp.1, hp.2.1, hp.2.2.1⟩, by simp [Value.ownBlock], fun a ha q hq => ?_⟩
  have : q = g := by simpa [Value.ownBlock] using hq
  subst this
  intro h1
  exact hg (h1 ▸ ha)
 ·refine (hK3.setCell (.inl (by simp [shOwn])) _).setCell ?_ _
  exact hgo
 ·intro x hx
  unfold shOwn at hx
  rcases List.mem_append.1 hx with h1 | h1
  ·exact .inl (List.mem_append.2 (.inl h1))
  ·have : x = g := by simpa [Value.ownBlock] using h1
   rw [this]; exact hgo
set_option maxHeartbeats 1000000 in
theorem sh_new (h : ShI w L G pgs) (b : Bs) (hb : b.length ≤ 232) (hsm : somes pgs < 300) :
  Calls Tryz.prog 216 #[.pointer (some ⟨L.s, 0, none⟩), .string (S b)] w fun e w' => ∃ (l : Nat) (G' : ShG), e = .returned (.tuple #[.int .i64 l, .int .i64 0]) ∧ l ≤ pgs.length ∧ (pgs[l]? = some none ∨ l = pgs.length) ∧
   ShI w' L G' (newAt pgs l (pad b)) ∧ Kp (shOwn L G) w w' ∧ Gr (shOwn L G) w.heap.size (shOwn L G') := by
 have h0 : (0 : Int) ∈ G.K := by
  have := h.cnt
  exact List.count_pos_iff.1 (by omega)
 have hn : G.T.length ≤ 512 := by rw [h.tl]; exact h.pl
 have HW := hid (sh_works h)
 have HX := hid (index_any w G.tv G.T (-1) (sl_of_own h.tb) (by omega))
 have HF := hid (sh_fresh h h0 b hb)
 have c2 := h.cell2
 obtain ⟨tp, tc, htv⟩ := own_slice2 h.tb
 rw [htv] at c2 HX
 have H := hid h
 have HTV := hid htv
 clear h h0 htv
 go_enter Tryz.func216, Tryz.ntmps216
 go_wp2_with (go_at_call 241; refine HW.out.mono ?_; rintro e w' ⟨rfl, rfl⟩)
 refine HX.out.mono ?_
 rintro e w' ⟨rfl, ⟨rfl, hx⟩ | ⟨k, rfl, hk, hx⟩⟩
 ·have hall : ∀ (j : Nat), pgs[j]? ≠ some none := fun j hj => hx (List.mem_of_getElem? (H.out.none_ j hj))
  have hlen : G.T.length < 300 := by have := somes_all pgs hall; have := H.out.tl; omega
  have HALL := hid hall
  clear hx hall
  go_wp2_with fail
  refine HF.out.mono ?_
  rintro e W2 ⟨p, hp, hpK, rfl, hd2, hm2, hk2⟩
  have hso : L.s ∉ L.ml :: dkOwn L.D := by simp [H.out.s_ml, H.out.s_dk]
  have q2 : W2.cell? ⟨L.s, 2, none⟩ = some (.slice tp G.T.length tc) := (hk2.cell (p := ⟨L.s, 2, none⟩) H.out.c.lt hso).trans c2
  have HC2 := hid (H.out.c.kp hk2 hso)
  have f2 := HC2.out.frozen 2
  have hs2 : L.s < W2.heap.size := Nat.lt_of_lt_of_le H.out.c.lt hk2.size
  have hO2 : W2.ownsRow 0 3 1 (.slice tp G.T.length tc) G.T.length (cI G.T) := by
   have := row_of (w' := W2) H.out.tb (fun b hb => hk2.block b (H.out.tb.lt b hb).2 (fun hx => H.out.tv_out hb (by simp at hx ⊢; rcases hx with hx | hx <;> simp [hx])))
   rwa [HTV.out] at this
  have HO2 := hid hO2
  have HD2 := hid hd2
  have HM2 := hid hm2
  have HK2 := hid hk2
  have HP := hid hpK
  clear hO2 hd2 hm2 hk2 hpK hso c2
  obtain ⟨i0, hi, hz0, hz1, hz2⟩ := info_parts inf3
  go_wp2_with (with_reducible refine stopAt .append rfl ?_)
  with_reducible refine goOn ?_
  refine wpList_append_lies _ rfl _ _ 27 rfl 0 3 i0 (.int .i64 0) 1 8 Tryz.underlying27 hi hz0 hz1 hz2 rfl (by decide) _ _ _ rfl (HO2.out.alloc _) ⟨W2.heap.size, 0, none⟩ 1 1 [.int .i64 p] rfl rfl (news1 _ _ _ rfl) (one1 rfl) (by omega) (by unfold maxLen; omega) (by omega) (Nat.zero_le _) (W2.heap.size + 1) (by simp) ?_
  intro g cap W3 hO3 hgr hat hlt
  have hgs : g ≠ L.s := by
   rcases hat with h1 | h1
   ·intro e; exact H.out.tv_out (b := g) (by rw [HTV.out]; exact h1) (by simp [e])
   ·omega
  have hrow : ∀ b, (Value.slice tp G.T.length tc).ownBlock = some b → b ∉ dkOwn L.D ++ [L.m, L.ml, L.s] := fun b hb => H.out.tv_out (by rw [HTV.out]; exact hb)
  have hmem : ∀ b, (Value.slice tp G.T.length tc).ownBlock = some b → b ∈ shOwn L G := fun b hb => by
   unfold shOwn
   refine List.mem_append.2 (.inr ?_)
   rw [HTV.out, hb]; simp
  have hk3 : Kp (shOwn L G) w W3 := by
   have h1 : Kp (shOwn L G) w W2 := HK2.out.mono (fun x hx => .inl (by simp at hx; rcases hx with hx | hx <;> simp [shOwn, hx]))
   refine (h1.alloc _).grown hgr (fun q hq => .inl ?_)
   exact hmem q (by first | exact hq | exact hq.symm)
  have e23 : ∀ q, q < W2.heap.size → (Value.slice tp G.T.length tc).ownBlock ≠ some q → W3.heap[q]? = W2.heap[q]? := fun q hq hne =>
   (hgr.block q (by simp; omega) (Ne.symm hne)).trans (Below.heap_alloc W2 _ q hq)
  have hsr : (Value.slice tp G.T.length tc).ownBlock ≠ some L.s := fun e => hrow _ e (by simp)
  have hB3 : Blk W3 L.s 257 (shCells L (.slice tp G.T.length tc)) := by
   have := (e23 L.s hs2 hsr).trans HC2.out
   rwa [HTV.out] at this
  have r2 : W3.cell? ⟨L.s, 2, none⟩ = some (.slice tp G.T.length tc) := by rw [hB3.cell]; rfl
  have rf2 := hB3.frozen 2
  have rg : W3.cell? ⟨g, G.T.length, none⟩ = some (.int .i64 p) := by
   have := hO3.cells (g := g) rfl G.T.length (.int .i64 p) (by simp [cI])
   rwa [Addr.add_mid, Nat.zero_add] at this
  have rfg : W3.frozen? ⟨g, G.T.length, none⟩ = false := hO3.frozenAt _
  have HB3 := hid hB3
  have HO3 := hid hO3
  have HK3 := hid hk3
  have HAT := hid hat
  have HE := hid e23
  have HROW := hid hrow
  clear hB3 hO3 hk3 hat e23 hrow hgr q2 f2 hsr
  have hgo : g ∉ dkOwn L.D ++ [L.m, L.ml, L.s] := fun hx => by
   rcases HAT.out with h1 | h1
   ·exact HROW.out g h1 hx
   ·have := HK2.out.size
    have h2 := H.out.lts g (by simp only [shOwn, List.mem_append]; exact .inl (by simpa using hx))
    omega
  have hgp : g ∈ shOwn L G ∨ w.heap.size ≤ g := by
   rcases HAT.out with h1 | h1
   ·exact .inl (hmem g h1)
   ·have := HK2.out.size; exact .inr (by omega)
  have hd3 := HD2.out.of_blocks fun q hq => HE.out q (HD2.out.lts_mem q hq) (fun e => HROW.out q e (by simp [hq]))
  have hm3 := HM2.out.of_blocks (HE.out _ HM2.out.c.lt (fun e => HROW.out _ e (by simp))) (HE.out _ HM2.out.l.lt (fun e => HROW.out _ e (by simp)))
  have htl : tabAt G.T G.T.length (p : Int) = G.T ++ [(p : Int)] := by simp [tabAt]
  have hO4 : W3.ownsRow 0 3 1 (.slice (some ⟨g, 0, none⟩) (tabAt G.T G.T.length p).length cap) (tabAt G.T G.T.length p).length (cI (tabAt G.T G.T.length p)) := by
   rw [htl]
   have := HO3.out
   simpa [cI] using this
  have hend := sh_new_end H.out hb hsm HP.out (.inr ⟨H.out.tl, HALL.out⟩) (Nat.le_of_eq H.out.tl) hgs HB3.out hO4 HK3.out hgo hgp hd3 hm3
  have HEND := hid hend
  have hl1 : (tabAt G.T G.T.length (p : Int)).length = G.T.length + 1 := by rw [htl]; simp
  rw [hl1] at HEND
  clear hend hO4 hd3 hm3
  go_wp2
  go_ret2
  exact HEND.out
 ·have hkT : k < G.T.length := (List.getElem?_eq_some_iff.1 hk).1
  have hkn : pgs[k]? = some none := by
   have hkp : k < pgs.length := by rw [← H.out.tl]; exact hkT
   rcases hq : pgs[k]'hkp with _ | b0
   ·rw [List.getElem?_eq_getElem hkp, hq]
   ·exfalso
    have h1 : pgs[k]? = some (some b0) := by rw [List.getElem?_eq_getElem hkp, hq]
    obtain ⟨_, p, h2, _⟩ := H.out.some_ k b0 h1
    rw [hk] at h2
    have h3 := Option.some.inj h2
    omega
  obtain ⟨g, c, htv, hc, hf⟩ := H.out.tv_form hkT
  have htv2 := htv
  rw [HTV.out] at htv2
  injection htv2 with e1 e2 e3
  subst e1 e3
  have hTd : G.T.getD k 0 = (-1 : Int) := by simp [List.getD, hk]
  rw [hTd] at hc
  have hk0 : (0 : Int) ≤ (k : Int) := by omega
  have hk1 : (k : Int) < (G.T.length : Int) := by omega
  have hkne : (k : Int) ≠ (G.T.length : Int) := by omega
  have hk5 : (k : Int) < 512 := by omega
  have HKN := hid hkn
  have HKT := hid hkT
  clear hk hx hkn htv e2 hTd hkT
  go_wp2_with fail
  refine HF.out.mono ?_
  rintro e W2 ⟨p, hp, hpK, rfl, hd2, hm2, hk2⟩
  have hso : L.s ∉ L.ml :: dkOwn L.D := by simp [H.out.s_ml, H.out.s_dk]
  have hgo : g ∉ dkOwn L.D ++ [L.m, L.ml, L.s] := H.out.tv_out (by rw [HTV.out]; rfl)
  have hgo2 : g ∉ L.ml :: dkOwn L.D := fun hx => hgo (by simp at hx ⊢; rcases hx with hx | hx <;> simp [hx])
  have hgs : g ≠ L.s := fun e => hgo (by simp [e])
  have q2 : W2.cell? ⟨L.s, 2, none⟩ = some (.slice (some ⟨g, 0, none⟩) G.T.length tc) := (hk2.cell (p := ⟨L.s, 2, none⟩) H.out.c.lt hso).trans c2
  have q3 : W2.cell? ⟨g, k, none⟩ = some (.int .i64 (-1)) := (hk2.cell (p := ⟨g, k, none⟩) (block_lt_of_cell hc) hgo2).trans hc
  have q4 : W2.frozen? ⟨g, k, none⟩ = false := (hk2.frozen (p := ⟨g, k, none⟩) (block_lt_of_cell hc) hgo2).trans hf
  have hO2 : W2.ownsRow 0 3 1 (.slice (some ⟨g, 0, none⟩) G.T.length tc) G.T.length (cI G.T) := by
   have := row_of (w' := W2) H.out.tb (fun b hb => hk2.block b (H.out.tb.lt b hb).2 (fun hx => H.out.tv_out hb (by simp at hx ⊢; rcases hx with hx | hx <;> simp [hx])))
   rwa [HTV.out] at this
  have HO2 := hid hO2
  have HC2 := hid (H.out.c.kp hk2 hso)
  have HD2 := hid hd2
  have HM2 := hid hm2
  have HK2 := hid hk2
  have HP := hid hpK
  have HGO := hid hgo
  have HGS := hid hgs
  clear hO2 hd2 hm2 hk2 hpK hso c2 hgo hgo2 hgs
  go_wp2
  go_ret2
  have hlp : tabAt G.T k (p : Int) = G.T.set k p := by unfold tabAt; rw [if_pos HKT.out]
  have e : ∀ q, q ≠ g → (W2.setCell ⟨g, k, none⟩ (.int .i64 p)).heap[q]? = W2.heap[q]? := fun q h1 => Below.heap_setCell _ ⟨g, k, none⟩ _ q h1
  refine ⟨k, ⟨secK G.sec p (pageB p 2 2 b) 4, G.K.set p 2, tabAt G.T k p, .slice (some ⟨g, 0, none⟩) G.T.length tc⟩, rfl, ?_, .inl HKN.out, H.out.new_ hb HP.out (.inl HKN.out) hsm ?_ ?_ ?_ ?_ ?_, ?_, ?_⟩
  ·rw [← H.out.tl]; exact Nat.le_of_lt HKT.out
  ·have := (e L.s (Ne.symm HGS.out)).trans HC2.out
   rwa [HTV.out] at this
  ·exact HD2.out.of_blocks fun q hq => e q (fun h1 => HGO.out (by simp [← h1, hq]))
  ·exact HM2.out.of_blocks (e _ (fun h1 => HGO.out (by simp [← h1]))) (e _ (fun h1 => HGO.out (by simp [← h1])))
  ·have := HO2.out.stored k (.int .i64 (p : Int))
   rw [hlp]
   refine own_eq this.1 (by simp) ?_
   simp [cI, List.map_set]
  ·have := H.out.nd
   simpa [shOwn, HTV.out, Value.ownBlock] using this
  ·refine (HK2.out.mono (fun x hx => .inl ?_)).setCell (.inl ?_) _
   ·simp at hx; rcases hx with hx | hx <;> simp [shOwn, hx]
   ·simp [shOwn, HTV.out, Value.ownBlock]
  ·intro x hx
   simp only [shOwn, HTV.out] at hx ⊢
   exact .inl hx
end
end
section
open Go.RowKit Go.Lib
structure Fr where
 page : Int
 pay : Bs
 held : Int
 dirty : Bool
 used : Bool
def frC (x : Fr) : List Value := [.int .i64 x.page, .string (S x.pay), .int .i64 x.held, .bool x.dirty, .bool x.used]
theorem frC_len (x : Fr) : (frC x).length = 5 := rfl
structure PL where
 S : ShL
 p : Nat
 f : Nat
 cap : Nat
structure FrI (w : World) (P : PL) (l : List Fr) (hand : Nat) : Prop where
 c : Blk w P.p 267 #[.pointer (some ⟨P.S.s, 0, none⟩), .slice (some ⟨P.f, 0, none⟩) 5 P.cap, .int .i64 hand]
 r : w.ownsRow 0 269 5 (.slice (some ⟨P.f, 0, none⟩) 5 P.cap) 5 (rowV frC l)
 n : l.length = 5
 h : hand < 5
 ne : P.p ≠ P.f
section
variable {w w' : World} {P : PL} {l : List Fr} {hand : Nat}
theorem FrI.of_blocks (h : FrI w P l hand) (e1 : w'.heap[P.p]? = w.heap[P.p]?) (e2 : w'.heap[P.f]? = w.heap[P.f]?) : FrI w' P l hand :=
 ⟨e1.trans h.c, row_of h.r (fun b hb => by
  have : P.f = b := by simpa [Value.ownBlock] using hb
  subst this
  exact e2), h.n, h.h, h.ne⟩
theorem FrI.f_lt (h : FrI w P l hand) : P.f < w.heap.size := (h.r.lt P.f rfl).2
theorem FrI.cell (h : FrI w P l hand) {i j : Nat} {x : Fr} {v : Value} (hi : l[i]? = some x) (hj : j < 5) (hv : (frC x)[j]? = some v) : w.cell? ⟨P.f, i * 5 + j, none⟩ = some v := by
 have := h.r.cells (g := P.f) rfl (i * 5 + j) v (by rw [rowV_get frC_len l i x hi j hj]; exact hv)
 rwa [Addr.add_mid, Nat.zero_add] at this
theorem FrI.frozen (h : FrI w P l hand) (j : Nat) : w.frozen? ⟨P.f, j, none⟩ = false := h.r.frozenAt _
theorem FrI.c0 (h : FrI w P l hand) : w.cell? ⟨P.p, 0, none⟩ = some (.pointer (some ⟨P.S.s, 0, none⟩)) := by rw [h.c.cell]; rfl
theorem FrI.c1 (h : FrI w P l hand) : w.cell? ⟨P.p, 1, none⟩ = some (.slice (some ⟨P.f, 0, none⟩) 5 P.cap) := by rw [h.c.cell]; rfl
theorem FrI.c2 (h : FrI w P l hand) : w.cell? ⟨P.p, 2, none⟩ = some (.int .i64 hand) := by rw [h.c.cell]; rfl
theorem FrI.below (h : FrI w P l hand) (hb : Below w.heap.size w w') : FrI w' P l hand := h.of_blocks (hb.block _ h.c.lt) (hb.block _ h.f_lt)
theorem FrI.kp {O : List Nat} (h : FrI w P l hand) (hk : Kp O w w') (h1 : P.p ∉ O) (h2 : P.f ∉ O) : FrI w' P l hand := h.of_blocks (hk.block _ h.c.lt h1) (hk.block _ h.f_lt h2)
theorem FrI.set_ (h : FrI w P l hand) {i j : Nat} {x y : Fr} {v : Value} (hi : l[i]? = some x) (hj : j < 5) (hy : frC y = (frC x).set j v) : FrI (w.setCell ⟨P.f, i * 5 + j, none⟩ v) P (l.set i y) hand := by
 refine ⟨h.c.far (p := ⟨P.f, i * 5 + j, none⟩) h.ne v, ?_, by simpa using h.n, h.h, h.ne⟩
 have := (h.r.stored (i * 5 + j) v).1
 refine own_eq this rfl ?_
 exact rowV_set frC_len l i x y j v hi hj hy
theorem FrI.hand_ (h : FrI w P l hand) {m : Nat} (hm : m < 5) : FrI (w.setCell ⟨P.p, 2, none⟩ (.int .i64 m)) P l m :=
 ⟨by simpa using h.c.set_ 2 (.int .i64 m), row_of h.r (fun b hb => by
  have : P.f = b := by simpa [Value.ownBlock] using hb
  subst this
  exact Below.heap_setCell _ ⟨P.p, 2, none⟩ _ _ (Ne.symm h.ne)), h.n, hm, h.ne⟩
theorem FrI.get (h : FrI w P l hand) {i : Nat} (hi : i < 5) : ∃ x, l[i]? = some x := ⟨l[i]'(by rw [h.n]; exact hi), List.getElem?_eq_getElem _⟩
end
set_option maxHeartbeats 1000000 in
theorem frames_index (g : Nat) (lb : Array Value) (p : Fr → Bool) (eg : ∀ args w, (callFunc g args).run Tryz.prog w = .ok (.enter g args) w) (b c : Nat) (zs : List Fr) (w : World) (hb : b < w.heap.size) (hn : zs.length = 5)
  (hp : ∀ (W : World) (x : Fr), Below w.heap.size w W → Calls Tryz.prog g (#[.agg (frC x).toArray] ++ lb) W fun e w' => e = .returned (.bool (p x)) ∧ Below w.heap.size w w')
  (hc : ∀ (j : Nat) u, (rowV frC zs)[j]? = some u → w.cell? ⟨b, j, none⟩ = some u) :
  Calls Tryz.prog 270 #[.slice (some ⟨b, 0, none⟩) 5 c, .func (.func g) #[] lb] w fun e w' => Below w.heap.size w w' ∧
   ((e = .returned (.int .i64 (-1)) ∧ ∀ (j : Nat) x, zs[j]? = some x → p x = false) ∨ ∃ (k : Nat) (x : Fr), k < 5 ∧ e = .returned (.int .i64 k) ∧ zs[k]? = some x ∧ p x = true) := by
 have hrow : ∀ (W : World), Below w.heap.size w W → ∀ (j : Nat) x, zs[j]? = some x → ∀ (i : Nat) v, (frC x)[i]? = some v → W.cell? ⟨b, j * 5 + i, none⟩ = some v := fun W hW j x hj i v hi => by
  have hi5 : i < 5 := by have := (List.getElem?_eq_some_iff.1 hi).1; rwa [frC_len] at this
  rw [hW.cell (p := ⟨b, j * 5 + i, none⟩) hb]
  exact hc _ v (by rw [rowV_get frC_len zs j x hj i hi5]; exact hi)
 clear hc
 have HP := hid hp
 have HR := hid hrow
 clear hp hrow
 go_enter Tryz.func270, Tryz.ntmps270
 go_wp2
 go_loopg [5, 8] 5 (fun gg _ s8 wr => ∃ kk : Nat, kk ≤ 5 ∧ 5 - kk ≤ gg ∧ s8 = .int .i64 kk ∧ Hid (Below w.heap.size w wr) ∧ Hid (∀ (j : Nat) x, j < kk → zs[j]? = some x → p x = false))
 case atStart => exact ⟨0, Nat.zero_le _, by omega, rfl, Below.refl _ w, fun j x hj => absurd hj (Nat.not_lt_zero _)⟩
 case round =>
  obtain ⟨kk, hkk, hg, rfl, BW, A⟩ := hrel
  by_cases hlt : kk < 5
  ·have hltz : (kk : Int) < 5 := by omega
   obtain ⟨x, hx⟩ : ∃ x, zs[kk]? = some x := ⟨zs[kk]'(by omega), List.getElem?_eq_getElem _⟩
   have l0 : wr.cell? ⟨b, kk * 5, none⟩ = some (.int .i64 x.page) := HR.out wr BW.out kk x hx 0 _ rfl
   have l1 : wr.cell? ⟨b, kk * 5 + 1, none⟩ = some (.string (S x.pay)) := HR.out wr BW.out kk x hx 1 _ rfl
   have l2 : wr.cell? ⟨b, kk * 5 + 2, none⟩ = some (.int .i64 x.held) := HR.out wr BW.out kk x hx 2 _ rfl
   have l3 : wr.cell? ⟨b, kk * 5 + 3, none⟩ = some (.bool x.dirty) := HR.out wr BW.out kk x hx 3 _ rfl
   have l4 : wr.cell? ⟨b, kk * 5 + 4, none⟩ = some (.bool x.used) := HR.out wr BW.out kk x hx 4 _ rfl
   have hcall := HP.out wr x BW.out
   have hcall : Calls Tryz.prog g (#[.agg #[.int .i64 x.page, .string (S x.pay), .int .i64 x.held, .bool x.dirty, .bool x.used]] ++ lb) wr fun e w' => e = .returned (.bool (p x)) ∧ Below w.heap.size w w' := hcall
   have HX := hid hx
   clear hx
   cases hq : p x with
   | true =>
    rw [hq] at hcall
    go_wp2_with (go_at_fn g; refine hcall.mono ?_; rintro e w' ⟨rfl, hb'⟩)
    go_ret
    exact ⟨hb', .inr ⟨kk, x, hlt, rfl, HX.out, hq⟩⟩
   | false =>
    rw [hq] at hcall
    go_wp2_with (go_at_fn g; refine hcall.mono ?_; rintro e w' ⟨rfl, hb'⟩)
    go_roundg (5 - (kk + 1))
    case measure => omega
    case rel =>
     refine ⟨kk + 1, by omega, by omega, by go_num, hid hb', hid (fun j y hj hy => ?_)⟩
     by_cases e : j = kk
     ·subst e
      rw [HX.out] at hy
      injection hy with hy
      rw [← hy]; exact hq
     ·exact A.out j y (by omega) hy
  ·have hltz : ¬ (kk : Int) < 5 := by omega
   go_wp2
   go_ret
   exact ⟨BW.out, .inl ⟨rfl, fun j x hj => A.out j x (by
    have := (List.getElem?_eq_some_iff.1 hj).1
    omega) hj⟩⟩
theorem find1 (l : Int) (B : Nat) (w0 : World) (hB : B < w0.heap.size) (hcell : w0.cell? ⟨B, 0, none⟩ = some (.int .i64 l)) (W : World) (x : Fr) (hb : Below w0.heap.size w0 W) :
  Calls Tryz.prog 271 (#[.agg (frC x).toArray] ++ #[.pointer (some ⟨B, 0, none⟩)]) W fun e w' => e = .returned (.bool (decide (x.page = l))) ∧ Below w0.heap.size w0 w' := by
 have hc : W.cell? ⟨B, 0, none⟩ = some (.int .i64 l) := (hb.cell (p := ⟨B, 0, none⟩) hB).trans hcell
 have hBW : B < W.heap.size := Nat.lt_of_lt_of_le hB hb.size
 have hne : B ≠ W.heap.size := by omega
 have HB := hid hb
 clear hb hcell
 show Calls Tryz.prog 271 #[.agg #[.int .i64 x.page, .string (S x.pay), .int .i64 x.held, .bool x.dirty, .bool x.used], .pointer (some ⟨B, 0, none⟩)] W _
 go_enter Tryz.func271, Tryz.ntmps271
 go_wp2
 go_ret
 exact ⟨rfl, HB.out.alloc HB.out.size _⟩
theorem victim1 (w0 : World) (W : World) (x : Fr) (hb : Below w0.heap.size w0 W) :
  Calls Tryz.prog 285 (#[.agg (frC x).toArray] ++ #[]) W fun e w' => e = .returned (.bool (decide (x.page < 0))) ∧ Below w0.heap.size w0 w' := by
 have HB := hid hb
 clear hb
 show Calls Tryz.prog 285 #[.agg #[.int .i64 x.page, .string (S x.pay), .int .i64 x.held, .bool x.dirty, .bool x.used]] W _
 go_enter Tryz.func285, Tryz.ntmps285
 go_wp2
 go_ret
 exact ⟨rfl, HB.out.alloc HB.out.size _⟩
section
variable {w : World} {P : PL} {l : List Fr} {hand : Nat}
theorem FrI.row (h : FrI w P l hand) : ∀ (j : Nat) u, (rowV frC l)[j]? = some u → w.cell? ⟨P.f, j, none⟩ = some u := fun j u hu => by
 have := h.r.cells (g := P.f) rfl j u hu
 rwa [Addr.add_mid, Nat.zero_add] at this
theorem po_find (h : FrI w P l hand) (q : Nat) :
  Calls Tryz.prog 247 #[.pointer (some ⟨P.p, 0, none⟩), .int .i64 q] w fun e w' => Below w.heap.size w w' ∧
   ((e = .returned (.int .i64 (-1)) ∧ ∀ (j : Nat) x, l[j]? = some x → x.page ≠ q) ∨ ∃ (k : Nat) (x : Fr), k < 5 ∧ e = .returned (.int .i64 k) ∧ l[k]? = some x ∧ x.page = q) := by
 have c1 := h.c1
 have hpl := h.c.lt
 have eg : ∀ args w, (callFunc 271 args).run Tryz.prog w = .ok (.enter 271 args) w := enters_of Tryz.func271 (by kernel_rfl) rfl
 have hB : Below w.heap.size w (w.alloc (.cells #[.int .i64 q] 3)) := (Below.refl _ w).alloc (Nat.le_refl _) _
 have hq : (w.alloc (.cells #[.int .i64 q] 3)).cell? ⟨w.heap.size, 0, none⟩ = some (.int .i64 q) := by simp [go_sem]
 have hcon := frames_index 271 #[.pointer (some ⟨w.heap.size, 0, none⟩)] (fun x => decide (x.page = q)) eg P.f P.cap l (w.alloc (.cells #[.int .i64 q] 3)) (by have := h.f_lt; simp; omega) h.n
  (fun W x hb => find1 q w.heap.size _ (by simp) hq W x hb) (h.below hB).row
 have HC := hid hcon
 have HB := hid hB
 clear hcon hB eg hq h
 have hq0 : ¬ (q : Int) < 0 := by omega
 go_enter Tryz.func247, Tryz.ntmps247
 go_wp2_with fail
 refine HC.out.mono ?_
 rintro e w' ⟨hb, hx⟩
 have hb2 : Below w.heap.size w w' := HB.out.trans (hb.mono (by simp))
 rcases hx with ⟨rfl, hx⟩ | ⟨k, x, hk, rfl, hx, hx2⟩
 ·go_wp2
  go_ret
  exact ⟨hb2, .inl ⟨rfl, fun j x hj => by simpa using hx j x hj⟩⟩
 ·go_wp2
  go_ret
  exact ⟨hb2, .inr ⟨k, x, hk, rfl, hx, by simpa using hx2⟩⟩
end
end
section
open Go.RowKit Go.Lib
section
variable {w : World} {P : PL} {l : List Fr} {hand : Nat}
theorem victim2 (h : FrI w P l hand) (B : Nat) (hB : w.cell? ⟨B, 0, none⟩ = some (.pointer (some ⟨P.p, 0, none⟩))) :
  Calls Tryz.prog 286 #[.pointer (some ⟨B, 0, none⟩)] w fun e w' => e = .returned (.pointer (some ⟨P.f, hand * 5, none⟩)) ∧ FrI w' P l ((hand + 1) % 5) ∧ Kp [P.p] w w' := by
 have c1 := h.c1
 have c2 := h.c2
 have f2 := h.c.frozen 2
 have hlt := h.h
 have hm : (hand + 1) % 5 < 5 := by omega
 have hN := hid (fun n => (h.of_blocks (w' := w.drewN n) rfl rfl).hand_ hm)
 have hk := hid (fun n => ((Kp.refl [P.p] w).drewN n).setCell (p := ⟨P.p, 2, none⟩) (.inl (by simp)) (.int .i64 ((hand + 1) % 5 : Nat)))
 clear h
 have hl2 : hand = 0 ∨ hand = 1 ∨ hand = 2 ∨ hand = 3 ∨ hand = 4 := by omega
 rcases hl2 with rfl | rfl | rfl | rfl | rfl <;>
 ·go_enter Tryz.func286, Tryz.ntmps286
  go_wp2
  go_quiet (fail)
  go_wp2
  go_region
  all_goals
   go_wp2
   go_ret
   exact ⟨rfl, hN.out (nq + 1), hk.out (nq + 1)⟩
def clr (x : Fr) : Fr := { x with used := false }
theorem clr_get {l l' : List Fr} (h : l'.map clr = l.map clr) {i : Nat} {x' : Fr} (hi : l'[i]? = some x') : ∃ x, l[i]? = some x ∧ clr x = clr x' := by
 have h1 : (l'.map clr)[i]? = some (clr x') := by simp [hi]
 rw [h] at h1
 simpa using h1
theorem clr_set {l : List Fr} {i : Nat} {x : Fr} (hi : l[i]? = some x) (u : Bool) : (l.set i { x with used := u }).map clr = l.map clr := by
 rw [List.map_set]
 apply List.ext_getElem?
 intro j
 rw [List.getElem?_set]
 by_cases hj : i = j
 ·subst hj
  obtain ⟨h1, h2⟩ := List.getElem?_eq_some_iff.1 hi
  subst h2
  simp [h1, clr]
 ·rw [if_neg hj]
set_option maxHeartbeats 1000000 in
theorem po_victim (h : FrI w P l hand) (h0 : ∀ (i : Nat) x, l[i]? = some x → x.held = 0) :
  Calls Tryz.prog 279 #[.pointer (some ⟨P.p, 0, none⟩)] w fun e w' => ∃ (i : Nat) (l' : List Fr) (hand' : Nat), i < 5 ∧ e = .returned (.int .i64 i) ∧ FrI w' P l' hand' ∧ l'.map clr = l.map clr ∧ Kp [P.p, P.f] w w' := by
 have c1 := h.c1
 have hpl := h.c.lt
 have hfl := h.f_lt
 have eg : ∀ args w, (callFunc 285 args).run Tryz.prog w = .ok (.enter 285 args) w := enters_of Tryz.func285 (by kernel_rfl) rfl
 have hB : Below w.heap.size w (w.alloc (.cells #[.pointer (some ⟨P.p, 0, none⟩)] 189)) := (Below.refl _ w).alloc (Nat.le_refl _) _
 have hq : (w.alloc (.cells #[.pointer (some ⟨P.p, 0, none⟩)] 189)).cell? ⟨w.heap.size, 0, none⟩ = some (.pointer (some ⟨P.p, 0, none⟩)) := by simp [go_sem]
 have hcon := frames_index 285 #[] (fun x => decide (x.page < 0)) eg P.f P.cap l (w.alloc (.cells #[.pointer (some ⟨P.p, 0, none⟩)] 189)) (by simp; omega) h.n
  (fun W x hb => victim1 _ W x hb) (h.below hB).row
 have HC := hid hcon
 have HB := hid hB
 have HQ := hid hq
 have H := hid h
 have H0 := hid h0
 clear hcon hB eg hq h h0
 go_enter Tryz.func279, Tryz.ntmps279
 go_wp2
 go_step3
 go_wp2_with fail
 refine HC.out.mono ?_
 rintro e W1 ⟨hb, hx⟩
 have hb2 : Below w.heap.size w W1 := HB.out.trans (hb.mono (by simp))
 have HW := hid (H.out.below hb2)
 have HB1 := hid hb2
 have q0 : W1.cell? ⟨w.heap.size, 0, none⟩ = some (.pointer (some ⟨P.p, 0, none⟩)) := (hb.cell (p := ⟨w.heap.size, 0, none⟩) (by simp)).trans HQ.out
 have hsz : w.heap.size < W1.heap.size := Nat.lt_of_lt_of_le (by simp) hb.size
 rcases hx with ⟨rfl, hx⟩ | ⟨k, x, hk, rfl, hx, hx2⟩
 ·clear hx hb hb2
  have c1' := HW.out.c1
  go_wp2
  go_step3
  go_wp2
  have Q0 := hid q0
  clear q0 c1'
  go_loopg [5, 24] 6 (fun gg s5 s24 wr => ∃ kk : Nat, kk ≤ 5 ∧ 6 - kk ≤ gg ∧ s24 = .int .i64 kk ∧ s5 = .int .i64 (-1) ∧ ∃ l', Hid (FrI wr P l' ((hand + kk) % 5)) ∧ Hid (l'.map clr = l.map clr) ∧ Hid (∀ (j : Nat) x, j < kk → l'[(hand + j) % 5]? = some x → x.used = false) ∧ Hid (Kp [P.p, P.f] W1 wr))
  case atStart => exact ⟨0, by omega, by omega, rfl, rfl, l, by rw [Nat.add_zero, Nat.mod_eq_of_lt HW.out.h]; exact HW, rfl, hid (fun j x hj => absurd hj (Nat.not_lt_zero _)), Kp.refl _ _⟩
  case round =>
   obtain ⟨kk, hkk, hg, rfl, rfl, l', HF, HL, HU, HK⟩ := hrel
   obtain ⟨x, hx⟩ := HF.out.get (i := (hand + kk) % 5) (by omega)
   have q0 : wr.cell? ⟨w.heap.size, 0, none⟩ = some (.pointer (some ⟨P.p, 0, none⟩)) := (HK.out.cell (p := ⟨w.heap.size, 0, none⟩) hsz (by simp; omega)).trans Q0.out
   have d2 := HF.out.c2
   have hlt : (kk : Int) < 11 := by omega
   have HV := hid (victim2 HF.out w.heap.size q0)
   have HX := hid hx
   obtain ⟨x0, hx0, hc0⟩ := clr_get HL.out hx
   have hh : x.held = 0 := by rw [← show (clr x).held = x.held from rfl, ← hc0]; exact H0.out _ x0 hx0
   clear hx hx0 hc0
   cases hu : x.used with
   | true =>
    have hk5 : kk < 5 := by
     rcases Nat.lt_or_ge kk 5 with h5 | h5
     ·exact h5
     ·have : kk = 5 := by omega
      subst this
      have := HU.out 0 x (by omega) (by rw [Nat.add_zero]; rw [Nat.add_mod_right] at HX; exact HX.out)
      rw [hu] at this; cases this
    go_wp2_with fail
    refine HV.out.mono ?_
    rintro e W2 ⟨rfl, hf2, hk2⟩
    have g2 : W2.cell? ⟨P.f, (hand + kk) % 5 * 5 + 2, none⟩ = some (.int .i64 x.held) := hf2.cell HX.out (j := 2) (by omega) rfl
    have g4 : W2.cell? ⟨P.f, (hand + kk) % 5 * 5 + 4, none⟩ = some (.bool x.used) := hf2.cell HX.out (j := 4) (by omega) rfl
    have z4 := hf2.frozen ((hand + kk) % 5 * 5 + 4)
    rw [hh] at g2
    rw [hu] at g4
    have HF2 := hid hf2
    have HK2 := hid hk2
    clear hf2 hk2
    generalize hm : (hand + kk) % 5 = m at g2 g4 z4
    have HM := hid hm
    clear hm
    go_wp2
    go_roundg (6 - (kk + 1))
    case measure => omega
    case rel =>
     have e1 : (hand + (kk + 1)) % 5 = ((hand + kk) % 5 + 1) % 5 := by omega
     refine ⟨kk + 1, by omega, by omega, by go_num, rfl, l'.set m { x with used := false }, hid ?_, hid ?_, hid (fun j y hj hy => ?_), hid ?_⟩
     ·rw [e1, ← HM.out]
      exact HF2.out.set_ HX.out (j := 4) (by omega) rfl
     ·rw [← HM.out]
      exact (clr_set HX.out false).trans HL.out
     ·rw [← HM.out] at hy
      rw [List.getElem?_set] at hy
      split at hy
      ·split at hy
       ·injection hy with hy; rw [← hy]
       ·cases hy
      ·rename_i hne
       refine HU.out j y ?_ hy
       have : j ≠ kk := fun e => hne (by rw [e])
       omega
     ·exact (HK.out.trans (HK2.out.mono (by simp))).setCell (.inl (by simp)) _
   | false =>
    go_wp2_with fail
    refine HV.out.mono ?_
    rintro e W2 ⟨rfl, hf2, hk2⟩
    have g2 : W2.cell? ⟨P.f, (hand + kk) % 5 * 5 + 2, none⟩ = some (.int .i64 x.held) := hf2.cell HX.out (j := 2) (by omega) rfl
    have g4 : W2.cell? ⟨P.f, (hand + kk) % 5 * 5 + 4, none⟩ = some (.bool x.used) := hf2.cell HX.out (j := 4) (by omega) rfl
    rw [hh] at g2
    rw [hu] at g4
    have HF2 := hid hf2
    have HK2 := hid hk2
    clear hf2 hk2
    go_wp2
    rw [Exit.noGoto_ret]
    go_ret
    exact ⟨(hand + kk) % 5, l', _, by omega, rfl, HF2.out, HL.out, (Kp.of_below HB1.out).trans (HK.out.trans (HK2.out.mono (by simp)))⟩
 ·clear hx hx2 hb hb2
  go_wp2
  rw [Exit.noGoto_ret]
  go_ret
  exact ⟨k, l, hand, hk, rfl, HW.out, rfl, Kp.of_below HB1.out⟩
end
end
end Go.Proofs.YtnnghcooidjlhaaGreat
