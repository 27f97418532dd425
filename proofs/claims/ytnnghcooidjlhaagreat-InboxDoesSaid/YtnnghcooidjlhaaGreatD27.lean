/- Parts of the proof: Mi Ve Or Xa. -/
import Derived.Deep.AppendSrc
import Derived.Test.YtnnghcooidjlhaaGreatD03
import Derived.Test.YtnnghcooidjlhaaGreatD04
import Derived.Test.YtnnghcooidjlhaaGreatD24
import Derived.Test.YtnnghcooidjlhaaGreatD26
set_option linter.all false
set_option maxRecDepth 100000
namespace Go.Proofs.YtnnghcooidjlhaaGreat
section
open Go.RowKit Go.Lib
def dropP (a : KV) : KV := (a.1.drop 2, a.2)
def stripTo (j : Nat) (l : List KV) : List KV := (l.take j).map dropP ++ l.drop j
theorem stripTo_zero (l : List KV) : stripTo 0 l = l := by simp [stripTo]
theorem stripTo_all (l : List KV) : stripTo l.length l = l.map dropP := by simp [stripTo]
theorem stripTo_get {l : List KV} {j : Nat} {x : KV} (h : l[j]? = some x) : (stripTo j l)[j]? = some x := by
 have hlt := (List.getElem?_eq_some_iff.1 h).1
 unfold stripTo
 rw [List.getElem?_append_right (by simp; omega)]
 simp
 rw [Nat.min_eq_left (by omega), Nat.sub_self, Nat.add_zero]
 exact h
theorem stripTo_set {l : List KV} {j : Nat} {x : KV} (h : l[j]? = some x) : (stripTo j l).set j (dropP x) = stripTo (j + 1) l := by
 have hlt := (List.getElem?_eq_some_iff.1 h).1
 have hd : l.drop j = x :: l.drop (j + 1) := by rw [List.drop_eq_getElem_cons hlt, (List.getElem?_eq_some_iff.1 h).2]
 unfold stripTo
 rw [hd, List.set_append_right _ _ (by simp; omega)]
 have : j - ((l.take j).map dropP).length = 0 := by simp; omega
 rw [this, List.set_cons_zero, List.take_add_one, h]
 simp
theorem scanM_length_le (M : List KV) (fr to : Bs) (n : Int) : (scanM M fr to n).length ≤ M.length := by
 unfold scanM
 exact Nat.le_trans (List.length_take_le' _ _) (List.length_filter_le _ _)
theorem partM_length_le (M : List KV) (p : Bs) : (partM M p).length ≤ M.length := by
 unfold partM
 rw [List.length_map]
 exact List.length_filter_le _ _
structure Bef2 (w : World) (sp lp : Int) (k k2 : Bs) (W2 : World) : Prop where
 b : Below w.heap.size w W2
 part : Blk W2 w.heap.size 234 #[.int .i64 sp, .int .i64 lp]
 key : W2.cell? ⟨w.heap.size + 1, 0, none⟩ = some (.string (S k))
 key2 : W2.cell? ⟨w.heap.size + 1, 1, none⟩ = some (.string (S k2))
 lt : w.heap.size + 1 < W2.heap.size
theorem bef2 (w : World) (sp lp : Int) (k k2 : Bs) : Bef2 w sp lp k k2 ((w.alloc (.cells #[.int .i64 sp, .int .i64 lp] 234)).alloc (.cells #[.string (S k), .string (S k2)] 9)) := by
 have h := Blk.new (w.alloc (.cells #[.int .i64 sp, .int .i64 lp] 234)) 9 #[.string (S k), .string (S k2)]
 refine ⟨((Below.refl _ w).alloc (Nat.le_refl _) _).alloc (by simp) _, (Blk.new w _ _).alloc _, ?_, ?_, by simp⟩
 ·simpa using h.cell 0
 ·simpa using h.cell 1
theorem filter_hdP {M : List KV} {sp lp : Int} (hp : okP sp lp) (fr to : Bs) : M.filter (fun a => inR (hdP sp lp ++ fr) (toK (hdP sp lp) to) a.1) = ((partM M (hdP sp lp)).filter fun a => inR fr to a.1).map (addP (hdP sp lp)) := by
 obtain ⟨x, y, h, hy⟩ := hdP_byte (sp := sp) (lp := lp) hp.2.2
 rw [h]
 exact filter_part hy fr to
theorem dropP_addP (p : Bs) (hp : p.length = 2) (a : KV) : dropP (addP p a) = a := by
 unfold dropP addP
 rw [drop2_app hp]
section
variable {w : World} {s : SL} {O : List Nat} {N : Nat} {M : List KV} {sp lp : Int} {fr to : Bs}
set_option maxHeartbeats 8000000 in
theorem sscan_any (h : StI w s O N M) (hp : okP sp lp) (hf : fr.length ≤ 30) (ht : to.length ≤ 30) (n : Int) :
  Calls Tryz.prog 84 #[.pointer (some ⟨s.sb, 0, none⟩), .int .i64 sp, .int .i64 lp, .string (S fr), .string (S to), .int .i64 n] w fun e w' => ∃ v, e = .returned (.tuple #[v, .int .i64 0]) ∧ StI w' s O N M ∧ Kp O w w' ∧ w'.ownsRow w.heap.size 168 2 v (scanM (partM M (hdP sp lp)) fr to n).length (rowV pairC (scanM (partM M (hdP sp lp)) fr to n)) := by
 have B2 := bef2 w sp lp fr to
 have HM := hid (smay2 (some ⟨s.sb, 0, none⟩) sp lp fr to (w.heap.size + 1) 2 _ B2.key B2.key2 B2.lt)
 rw [show (some (⟨s.sb, 0, none⟩ : Addr)).isNone = false from rfl, mayE_ok2 hp hf ht] at HM
 have HW := hid (within_any sp lp hp fr to (by omega) (by omega))
 have HSC := hid (fun W (hW : Below w.heap.size w W) => tscan_any (h.tree.below hW) (hdP sp lp ++ fr) (toK (hdP sp lp) to) n)
 have hL : scanM M (hdP sp lp ++ fr) (toK (hdP sp lp) to) n = (scanM (partM M (hdP sp lp)) fr to n).map (addP (hdP sp lp)) := by
  unfold scanM
  rw [filter_hdP hp, List.map_take]
 obtain ⟨L, hLd⟩ : ∃ L, L = scanM (partM M (hdP sp lp)) fr to n := ⟨_, rfl⟩
 rw [← hLd] at hL
 rw [hL] at HSC
 have HLD := hid hLd
 have HX := hid (⟨h, B2⟩ : _ ∧ _)
 clear hp hf ht h B2 hL hLd
 go_enter Tryz.func84, Tryz.ntmps84
 go_wp2_with fail
 (with_reducible refine HM.out.mono ?_)
 rintro e W3 ⟨rfl, hb3⟩
 obtain ⟨h, B2⟩ := HX.out
 have hb03 := B2.b.trans (hb3.mono (Nat.le_trans (Nat.le_succ _) (Nat.le_of_lt B2.lt)))
 have hP3 := B2.part.below hb3 B2.part.lt
 have p0 : W3.cell? ⟨w.heap.size, 0, none⟩ = some (.int .i64 sp) := hP3.cell 0
 have p1 : W3.cell? ⟨w.heap.size, 1, none⟩ = some (.int .i64 lp) := hP3.cell 1
 have hlp3 := hP3.lt
 have H3 := hid hb03
 clear h B2 hb3 hb03 hP3
 go_wp2_with fail
 (with_reducible refine (HW.out _).mono ?_)
 rintro e W4 ⟨rfl, hb4⟩
 have hb04 := H3.out.trans (hb4.mono H3.out.size)
 have h4 := HX.out.1.below hb04
 have s0 := h4.c0
 have hlt4 := h4.sb_lt
 have HS4 := hid (HSC.out _ hb04)
 have H4 := hid hb04
 clear hb4 hb04 h4 p0 p1
 go_wp2_with fail
 (with_reducible refine HS4.out.mono ?_)
 rintro e W5 ⟨v5, rfl, hT5, hk5, hO5⟩
 have h5 := (HX.out.1.below H4.out).turn hk5 (Gr.refl _ _) hT5
 obtain ⟨nl, hnl⟩ : ∃ nl, nl = L.length := ⟨_, rfl⟩
 rw [show (L.map (addP (hdP sp lp))).length = nl by rw [hnl]; simp] at hO5
 obtain ⟨a5, c5, rfl⟩ := own_slice2 hO5
 have HNL := hid hnl
 have hnb : nl ≤ 20480 * 1000 := by
  obtain ⟨pgs, D, E, ps, h1, h2, h3, h4, h5, h6⟩ := hT5
  have hs := h4.small h1
  have e1 : M.length = E.length := by rw [← h6]; simp [kvs]
  have e2 : L.length ≤ M.length := by
   rw [HLD.out]
   exact Nat.le_trans (scanM_length_le _ _ _ _) (partM_length_le _ _)
  omega
 have hnbi : (nl : Int) ≤ 20480000 := by omega
 have hbig := (HX.out.1.lts)
 have HI0 : Hid (StI W5 s O N M ∧ Kp O w W5 ∧ W5.ownsRow w.heap.size 168 2 (.slice a5 nl c5) nl (rowV pairC (stripTo 0 (L.map (addP (hdP sp lp)))))) := hid ⟨h5, (Kp.of_below H4.out).trans hk5, by rw [stripTo_zero]; exact own_base hO5 H4.out.size⟩
 have HLT := hid hbig
 clear hT5 hk5 hO5 h5 hnl hnb hbig s0
 go_wp2
 go_loopg [20, 53] nl (fun gg s20 s53 wr => ∃ (j : Nat), j ≤ nl ∧ nl - j ≤ gg ∧ s53 = .int .i64 j ∧ Hid (StI wr s O N M ∧ Kp O w wr ∧ wr.ownsRow w.heap.size 168 2 (.slice a5 nl c5) nl (rowV pairC (stripTo j (L.map (addP (hdP sp lp)))))))
 case atStart => exact ⟨0, Nat.zero_le _, by omega, rfl, HI0⟩
 case round =>
  obtain ⟨j, hj, hgg, rfl, HI⟩ := hrel
  by_cases hje : j < nl
  ·obtain ⟨x, hx⟩ : ∃ x, L[j]? = some x := ⟨_, List.getElem?_eq_getElem (by rw [← HNL.out]; exact hje)⟩
   have hx' : (L.map (addP (hdP sp lp)))[j]? = some (addP (hdP sp lp) x) := by simp [hx]
   obtain ⟨hS, hk, hO⟩ := HI.out
   obtain ⟨g, c, e1, hg1, hg2, hg3⟩ := own_form hO (by omega)
   injection e1 with e1 elen e3
   clear elen
   subst e1 e3
   have hji : (j : Int) < (nl : Int) := by omega
   have hget := rowV_get pairC_len _ j _ (stripTo_get hx') 0 (by omega)
   have m0 : wr.cell? ⟨g, j * 2, none⟩ = some (.string (S (hdP sp lp ++ x.1))) := own_at hO rfl (j := j * 2) (by
    rw [Nat.add_zero] at hget
    rw [hget]; rfl)
   have mf : wr.frozen? ⟨g, j * 2, none⟩ = false := hO.frozenAt _
   have hl2 : ¬ ((hdP sp lp).length + x.1.length < 2) := by rw [hdP_len]; omega
   have hl3 : 2 ≤ (hdP sp lp).length + x.1.length := by rw [hdP_len]; omega
   have hl4 : (2 : Int) ≤ ((hdP sp lp ++ x.1).length : Int) := by rw [List.length_append, hdP_len]; omega
   have htk : ((hdP sp lp ++ x.1).drop 2).take ((hdP sp lp).length + x.1.length - 2) = x.1 := by
    rw [drop2_app (hdP_len sp lp)]
    exact List.take_of_length_le (by rw [hdP_len]; omega)
   have H1 := hid (⟨hx', hg1, hg2⟩ : _ ∧ _ ∧ _)
   clear hx hx' hS hk hO hget
   go_wp2
   go_roundg (nl - (j + 1))
   case measure => omega
   case rel =>
    obtain ⟨hx', hg1, hg2⟩ := H1.out
    obtain ⟨hS, hk, hO⟩ := HI.out
    have hnot : ∀ b ∈ s.sb :: s.tb :: O, b ≠ g := fun b hb e => by have := HLT.out b hb; omega
    refine ⟨j + 1, by omega, by omega, by go_num, hid ⟨hS.of_blocks (fun b hb => Below.heap_setCell _ _ _ _ (hnot b hb)), hk.setCell (.inr hg1) _, ?_⟩⟩
    have hst := (hO.stored (j * 2) (.string (S x.1))).1
    refine own_eq hst rfl ?_
    have hset := rowV_set pairC_len (stripTo j (L.map (addP (hdP sp lp)))) j _ (dropP (addP (hdP sp lp) x)) 0 (.string (S x.1)) (stripTo_get hx') (by omega) (by rw [dropP_addP _ (hdP_len sp lp)]; rfl)
    rw [Nat.add_zero, stripTo_set hx'] at hset
    exact hset
  ·have hjl : j = nl := by omega
   have HJ := hid hjl
   have hji : ¬ ((j : Int) < (nl : Int)) := by omega
   clear hjl
   go_wp2
   go_ret2
   obtain ⟨hS, hk, hO⟩ := HI.out
   have e1 : stripTo j (L.map (addP (hdP sp lp))) = L := by
    have : j = (L.map (addP (hdP sp lp))).length := by rw [HJ.out, HNL.out]; simp
    rw [this, stripTo_all, List.map_map]
    refine (List.map_congr_left fun a _ => ?_).trans (List.map_id _)
    exact dropP_addP _ (hdP_len sp lp) a
   rw [e1] at hO
   rw [← HLD.out, ← HNL.out]
   exact ⟨_, rfl, hS, hk, hO⟩
set_option maxHeartbeats 8000000 in
theorem sclear_any (h : StI w s O N M) (hp : okP sp lp) (hf : fr.length ≤ 30) (ht : to.length ≤ 30) :
  Calls Tryz.prog 93 #[.pointer (some ⟨s.sb, 0, none⟩), .int .i64 sp, .int .i64 lp, .string (S fr), .string (S to)] w fun e w' => e = .returned (.tuple #[.int .i64 ((partM M (hdP sp lp)).filter fun a => inR fr to a.1).length, .int .i64 0]) ∧ StI w' s O N (M.filter fun a => !inR (hdP sp lp ++ fr) (toK (hdP sp lp) to) a.1) ∧ Kp O w w' := by
 have B2 := bef2 w sp lp fr to
 have HM := hid (smay2 (some ⟨s.sb, 0, none⟩) sp lp fr to (w.heap.size + 1) 2 _ B2.key B2.key2 B2.lt)
 rw [show (some (⟨s.sb, 0, none⟩ : Addr)).isNone = false from rfl, mayE_ok2 hp hf ht] at HM
 have HW := hid (within_any sp lp hp fr to (by omega) (by omega))
 have HSC := hid (fun W (hW : Below w.heap.size w W) => tclear_any (h.tree.below hW) (hdP sp lp ++ fr) (toK (hdP sp lp) to))
 have hL : (M.filter fun a => inR (hdP sp lp ++ fr) (toK (hdP sp lp) to) a.1).length = ((partM M (hdP sp lp)).filter fun a => inR fr to a.1).length := by
  rw [filter_hdP hp, List.length_map]
 rw [hL] at HSC
 obtain ⟨nl, hnl⟩ : ∃ nl, nl = ((partM M (hdP sp lp)).filter fun a => inR fr to a.1).length := ⟨_, rfl⟩
 rw [← hnl] at HSC ⊢
 have HX := hid (⟨h, B2⟩ : _ ∧ _)
 clear hp hf ht h B2 hL hnl
 go_enter Tryz.func93, Tryz.ntmps93
 go_wp2_with fail
 (with_reducible refine HM.out.mono ?_)
 rintro e W3 ⟨rfl, hb3⟩
 obtain ⟨h, B2⟩ := HX.out
 have hb03 := B2.b.trans (hb3.mono (Nat.le_trans (Nat.le_succ _) (Nat.le_of_lt B2.lt)))
 have hP3 := B2.part.below hb3 B2.part.lt
 have p0 : W3.cell? ⟨w.heap.size, 0, none⟩ = some (.int .i64 sp) := hP3.cell 0
 have p1 : W3.cell? ⟨w.heap.size, 1, none⟩ = some (.int .i64 lp) := hP3.cell 1
 have hlp3 := hP3.lt
 have H3 := hid hb03
 clear h B2 hb3 hb03 hP3
 go_wp2_with fail
 (with_reducible refine (HW.out _).mono ?_)
 rintro e W4 ⟨rfl, hb4⟩
 have hb04 := H3.out.trans (hb4.mono H3.out.size)
 have h4 := HX.out.1.below hb04
 have s0 := h4.c0
 have hlt4 := h4.sb_lt
 have HS4 := hid (HSC.out _ hb04)
 have H4 := hid hb04
 clear hb4 hb04 h4 p0 p1
 go_wp2_with fail
 (with_reducible refine HS4.out.mono ?_)
 rintro e W5 ⟨rfl, hT5, hk5⟩
 have h5 := (HX.out.1.below H4.out).turn hk5 (Gr.refl _ _) hT5
 have HF := hid (⟨h5, (Kp.of_below H4.out).trans hk5⟩ : _ ∧ _)
 clear hT5 hk5 h5 s0
 go_wp2
 go_ret2
 exact ⟨rfl, HF.out⟩
end
end
section
open Go.RowKit Go.Lib
section
variable {α : Type} {k : Nat} {enc : α → List Value} {w w' : World} {v : Value} {l : List α}
structure Vw (k : Nat) (enc : α → List Value) (w : World) (v : Value) (l : List α) : Prop where
 form : ∃ p c, v = .slice p l.length c ∧ l.length ≤ c ∧ (l = [] ∨ ∃ b off, p = some ⟨b, off, none⟩ ∧ b < w.heap.size ∧ ∀ i x, l[i]? = some x → ∀ q u, (enc x)[q]? = some u → w.cell? ⟨b, off + i * k + q, none⟩ = some u)
theorem Vw.of_block (h : Vw k enc w v l) (e : ∀ b, b < w.heap.size → v.ownBlock = some b → w'.heap[b]? = w.heap[b]?) (hs : w.heap.size ≤ w'.heap.size) : Vw k enc w' v l := by
 obtain ⟨p, c, rfl, hc, g⟩ := h.form
 refine ⟨p, c, rfl, hc, ?_⟩
 rcases g with g | ⟨b, off, rfl, hb, hx⟩
 ·exact .inl g
 ·exact .inr ⟨b, off, rfl, Nat.lt_of_lt_of_le hb hs, fun i x hi q u hu => (World.cell?_of_block (e b hb rfl)).trans (hx i x hi q u hu)⟩
theorem Vw.below (h : Vw k enc w v l) (hb : Below w.heap.size w w') : Vw k enc w' v l := h.of_block (fun b hlt _ => hb.block b hlt) hb.size
theorem Vw.nil (k : Nat) (enc : α → List Value) (w : World) (p : Option Addr) (c : Nat) : Vw k enc w (.slice p 0 c) [] := ⟨p, c, rfl, Nat.zero_le _, .inl rfl⟩
theorem Vw.slice (h : Vw k enc w v l) : ∃ p c, v = .slice p l.length c ∧ l.length ≤ c := by
 obtain ⟨p, c, h1, h2, _⟩ := h.form
 exact ⟨p, c, h1, h2⟩
theorem Vw.ex (h : Vw k enc w v l) (hn : l ≠ []) : ∃ b off c, v = .slice (some ⟨b, off, none⟩) l.length c ∧ l.length ≤ c ∧ b < w.heap.size ∧ ∀ i x, l[i]? = some x → ∀ q u, (enc x)[q]? = some u → w.cell? ⟨b, off + i * k + q, none⟩ = some u := by
 obtain ⟨p, c, h1, h2, g⟩ := h.form
 obtain ⟨b, off, rfl, g1, g2⟩ := g.resolve_left hn
 exact ⟨b, off, c, h1, h2, g1, g2⟩
theorem Vw.of_own {B n : Nat} {T : TypeId} (hk : ∀ x, (enc x).length = k) (h : w.ownsRow B T k v n (rowV enc l)) (hn : n = l.length) : Vw k enc w v l := by
 subst hn
 by_cases h0 : l = []
 ·obtain ⟨p, c, rfl⟩ := own_slice2 h
  exact ⟨p, c, rfl, by rw [h0]; exact Nat.zero_le _, .inl h0⟩
 ·obtain ⟨g, c, rfl, hg1, hg2, hg3⟩ := own_form h (List.length_pos_iff.2 h0)
  refine ⟨_, c, rfl, hg3, .inr ⟨g, 0, rfl, hg2, fun i x hx q u hu => ?_⟩⟩
  have hq : q < k := by
   have := (List.getElem?_eq_some_iff.1 hu).1
   rwa [hk] at this
  rw [Nat.zero_add]
  exact own_at h rfl (j := i * k + q) ((rowV_get hk l i x hx q hq).trans hu)
theorem Vw.one {T : TypeId} {x : α} {b c : Nat} (h : Blk w b T (enc x).toArray) (hc : 1 ≤ c) : Vw k enc w (.slice (some ⟨b, 0, none⟩) 1 c) [x] := by
 refine ⟨_, c, rfl, hc, .inr ⟨b, 0, rfl, h.lt, fun i y hy q u hu => ?_⟩⟩
 rcases i with _ | i
 ·simp at hy
  subst hy
  rw [Nat.zero_mul, Nat.add_zero, Nat.zero_add, h.cell]
  simpa using hu
 ·simp at hy
theorem Vw.take {b off c : Nat} (h : Vw k enc w (.slice (some ⟨b, off, none⟩) l.length c) l) (i : Nat) (hi : i ≤ l.length) : Vw k enc w (.slice (some ⟨b, off, none⟩) i c) (l.take i) := by
 obtain ⟨p, c', e, hc, g⟩ := h.form
 injection e with e1 _ e3
 subst e1 e3
 refine ⟨_, c, by rw [List.length_take, Nat.min_eq_left hi], by rw [List.length_take]; omega, ?_⟩
 by_cases h0 : l = []
 ·exact .inl (by rw [h0]; simp)
 ·obtain ⟨b', off', e, hb, hx⟩ := g.resolve_left h0
  injection e with e
  injection e with e1 e2 _
  subst e1 e2
  refine .inr ⟨b, off, rfl, hb, fun j x hj q u hu => hx j x ?_ q u hu⟩
  rw [List.getElem?_take] at hj
  split at hj
  ·exact hj
  ·cases hj
theorem Vw.drop {b off c : Nat} (h : Vw k enc w (.slice (some ⟨b, off, none⟩) l.length c) l) (i : Nat) (hi : i ≤ l.length) : Vw k enc w (.slice (some ⟨b, off + i * k, none⟩) (l.length - i) (c - i)) (l.drop i) := by
 obtain ⟨p, c', e, hc, g⟩ := h.form
 injection e with e1 _ e3
 subst e1 e3
 refine ⟨_, c - i, by rw [List.length_drop], by rw [List.length_drop]; omega, ?_⟩
 by_cases h0 : l = []
 ·exact .inl (by rw [h0]; simp)
 ·obtain ⟨b', off', e, hb, hx⟩ := g.resolve_left h0
  injection e with e
  injection e with e1 e2 _
  subst e1 e2
  refine .inr ⟨b, off + i * k, rfl, hb, fun j x hj q u hu => ?_⟩
  rw [List.getElem?_drop] at hj
  rw [show off + i * k + j * k + q = off + (i + j) * k + q by rw [Nat.add_mul]; omega]
  exact hx (i + j) x hj q u hu
theorem Vw.cells (hk : ∀ x, (enc x).length = k) {b off c : Nat} (h : Vw k enc w (.slice (some ⟨b, off, none⟩) l.length c) l) : ∀ j u, (rowV enc l)[j]? = some u → w.cell? ⟨b, off + j, none⟩ = some u := by
 intro j u hj
 have hlt : j < (rowV enc l).length := (List.getElem?_eq_some_iff.1 hj).1
 rw [rowV_length hk] at hlt
 have hk0 : 0 < k := Nat.pos_of_ne_zero (by rintro rfl; simp at hlt)
 have hd := Nat.div_add_mod j k
 have hm := Nat.mod_lt j hk0
 have hjl : j / k < l.length := (Nat.div_lt_iff_lt_mul hk0).2 hlt
 obtain ⟨p, c', e, hc, g⟩ := h.form
 have h0 : l ≠ [] := by rintro rfl; simp at hjl
 obtain ⟨b', off', rfl, hb, hx⟩ := g.resolve_left h0
 injection e with e _ _
 injection e with e
 injection e with e1 e2 _
 subst e1 e2
 obtain ⟨x, hxx⟩ : ∃ x, l[j / k]? = some x := ⟨_, List.getElem?_eq_getElem hjl⟩
 have hr := rowV_get hk l (j / k) x hxx (j % k) hm
 rw [show j / k * k + j % k = j by rw [Nat.mul_comm]; exact hd] at hr
 have := hx (j / k) x hxx (j % k) u (by rw [← hr]; exact hj)
 rw [show off + j / k * k + j % k = off + j by rw [Nat.mul_comm]; omega] at this
 exact this
end
theorem run_app_all (t ty : TypeId) {α : Type} (enc : α → List Value) {e : TypeId} {z : Value} {size bytes : Nat} (hi : Inf e z size bytes) (ht : Tryz.prog.underlying t = some (.slice e))
  (hzs : z.cells.size = size) (hsz : 0 < size) (hby : bytes ≤ 1000) (hk : ∀ x, (enc x).length = size) (hone : ∀ x, ∀ u ∈ enc x, u.oneCell' = true) {B : Nat} {W : World} {v xv : Value} {l l2 : List α} {n : Nat} (hown : W.ownsRow B e size v n (rowV enc l)) (hv2 : Vw size enc W xv l2) (hn : n + l2.length ≤ 100000) (hB : B ≤ W.heap.size) :
  ∃ v' w', (Builtin.append_ #[t, t] ty #[v, xv]).run Tryz.prog W = .ok v' w' ∧ w'.ownsRow B e size v' (n + l2.length) (rowV enc (l ++ l2)) ∧ Kp v.ownBlock.toList W w' := by
 obtain ⟨i0, hi0, hz0, hz1, hz2⟩ := info_parts hi
 by_cases h0 : l2 = []
 ·subst h0
  obtain ⟨p, c, rfl, hc⟩ := hv2.slice
  have hsrc : Src Tryz.prog i0.size t (.slice p 0 c) 0 [] W := by
   cases p with
   | none => exact Src.ofNil W ht c
   | some ad => exact Src.ofSlice W ht ad 0 c [] (by simp) (by simp) (by simp)
  have hvf : ∃ base sLen sCap, v = .slice base sLen sCap ∧ sLen ≤ sCap := by
   rcases hown.2 with ⟨rfl, _⟩ | ⟨g, cap, cur, rfl, _, _, hnc, _⟩
   ·exact ⟨_, _, _, rfl, Nat.le_refl _⟩
   ·exact ⟨_, _, _, rfl, hnc⟩
  obtain ⟨base, sLen, sCap, rfl, hle⟩ := hvf
  refine ⟨_, W, ?_, by simpa using hown, Kp.refl _ _⟩
  have hlen := hsrc.len
  have hcells := hsrc.cells
  rw [show ([] : List α).length = 0 from rfl]
  cases base <;> simp [Builtin.append_, run_underlying ht, sizeOf, typeInfo, hi0, hlen, hle, hcells, storeCells]
 ·obtain ⟨b, off, c, rfl, hc, hb, hxx⟩ := hv2.ex h0
  obtain ⟨v', w', hr, h2, h3, _⟩ := run_append_own (P := Tryz.prog) W B t ty e i0 z size bytes ht hi0 hz0 hz1 hz2 hzs hsz v n _ hown ⟨b, off, none⟩ l2.length c (rowV enc l2) (rowV_length hk l2) (fun j u hj => by rw [Addr.add_lit]; exact hv2.cells hk j u hj) (rowV_one hone l2) (by unfold maxLen; omega)
   (by
    have : (n + l2.length) * bytes ≤ 100000 * 1000 := Nat.mul_le_mul (by omega) hby
    omega) hB
  exact ⟨v', w', hr, by rw [rowV_append]; exact h2, (Kp.refl _ W).grown h3 (fun g hg => .inl (Option.mem_toList.2 hg))⟩
section
variable {ops : Array Oper} {o : Oper} {a : Act} {Q : Exit → Act → World → Prop} {α : Type} {e : TypeId} {z : Value} {size bytes : Nat} {B : Nat} {W : World} {v xv : Value} {l l2 : List α} {n : Nat}
theorem app_all {rest : List Oper} (hgd : o.guard = none) (s x : Operand) (t : TypeId)
  (ho : o.op = .call { callee := .builtin .append, args := #[s, x], argTypes := #[t, t] }) (enc : α → List Value) (hi : Inf e z size bytes) (ht : Tryz.prog.underlying t = some (.slice e))
  (hzs : z.cells.size = size) (hsz : 0 < size) (hby : bytes ≤ 1000) (hk : ∀ x, (enc x).length = size) (hone : ∀ x, ∀ u ∈ enc x, u.oneCell' = true) (hown : W.ownsRow B e size v n (rowV enc l)) (hv2 : Vw size enc W xv l2) (hn : n + l2.length ≤ 100000) (hB : B ≤ W.heap.size)
  (hs : a.eval s = v) (hx : a.eval x = xv)
  (h : ∀ v' w', w'.ownsRow B e size v' (n + l2.length) (rowV enc (l ++ l2)) → Kp v.ownBlock.toList W w' → wpList Tryz.prog ops Q rest (a.put o.dst v') w') : wpList Tryz.prog ops Q (o :: rest) a W := by
 refine wpList_plain hgd fun K hK => ?_
 obtain ⟨v', w', hr, h2, h3⟩ := run_app_all t o.type enc hi ht hzs hsz hby hk hone hown hv2 hn hB
 unfold Oper.wp execOp
 simp only [ho, resolve, invoke, builtin, Sem.run_bind, Sem.run_pure, Result.andThen_ok, List.map_toArray, List.map_cons, List.map_nil, hs, hx, hr]
 exact hK _ _ (h v' w' h2 h3)
theorem step_app_all {K : Act → World → Prop} {E : Prop} (hgd : o.guard = none) (s x : Operand) (t : TypeId)
  (ho : o.op = .call { callee := .builtin .append, args := #[s, x], argTypes := #[t, t] }) (enc : α → List Value) (hi : Inf e z size bytes) (ht : Tryz.prog.underlying t = some (.slice e))
  (hzs : z.cells.size = size) (hsz : 0 < size) (hby : bytes ≤ 1000) (hk : ∀ x, (enc x).length = size) (hone : ∀ x, ∀ u ∈ enc x, u.oneCell' = true) (hown : W.ownsRow B e size v n (rowV enc l)) (hv2 : Vw size enc W xv l2) (hn : n + l2.length ≤ 100000) (hB : B ≤ W.heap.size)
  (hs : a.eval s = v) (hx : a.eval x = xv)
  (h : ∀ v' w', w'.ownsRow B e size v' (n + l2.length) (rowV enc (l ++ l2)) → Kp v.ownBlock.toList W w' → K (a.put o.dst v') w') :
  if Region.wanted o (yielded ops a.tmps) = true then Oper.wp Tryz.prog o a W K Q else E := by
 rw [if_pos (by unfold Region.wanted; rw [hgd])]
 obtain ⟨v', w', hr, h2, h3⟩ := run_app_all t o.type enc hi ht hzs hsz hby hk hone hown hv2 hn hB
 unfold Oper.wp execOp
 simp only [ho, resolve, invoke, builtin, Sem.run_bind, Sem.run_pure, Result.andThen_ok, List.map_toArray, List.map_cons, List.map_nil, hs, hx, hr]
 exact h v' w' h2 h3
end
end
section
open Go.ChangeShapes Go.WideShapes Go.ChangeAt Go.RowKit Go.Deep
section
variable {H : Type} {enc : TypeId × Value → H} {w : World} {spare : Nat → Bool} {held : Bool}
theorem open_rows {α : Type} (d0 : α) {k : Nat} {encA : α → List Value} {R : α → Prop} {t e : TypeId} (ht : Tryz.prog.underlying t = some (.slice e)) (hc : Tryz.prog.cellsOf e = k) (hk0 : 0 < k) (hk : ∀ x, (encA x).length = k)
  (ho : ∀ (fuel : Nat) (cs : List Value) (x : DataW H × List MemPlace), DataW.trod enc Tryz.prog w 0 spare held fuel e cs = some x → ∃ y, cs = encA y ∧ R y) {fuel : Nat} {v : Value} {x : DataW H × List MemPlace} (h : DataW.trod enc Tryz.prog w 0 spare held fuel t [v] = some x) :
  ∃ (p : Option Addr) (n c : Nat) (l : List α), v = .slice p n c ∧ n = l.length ∧ Vw k encA w (.slice p n c) l ∧ ∀ y ∈ l, R y := by
 rcases open_slice ht h with ⟨hcs, _⟩ | ⟨a, len, cap, m, n, D, Pl, hcs, _, hl, hm, hmm, _, hel⟩
 ·simp at hcs
  subst hcs
  exact ⟨none, 0, 0, [], rfl, rfl, Vw.nil _ _ _ _ _, by simp⟩
 ·simp at hcs
  subst hcs
  have hlm : len ≤ m := by rw [hmm]; split <;> omega
  have h1 : ∀ i, ∃ y : α, i < len → (R y ∧ ∃ cs', w.cells? 0 (a.add (i * k)) k = some cs' ∧ cs' = encA y) := by
   intro i
   by_cases hi : i < len
   ·obtain ⟨cs', h1, h2⟩ := hel i (by omega)
    rw [hc] at h1
    obtain ⟨y, hy, hr⟩ := ho _ _ _ h2
    exact ⟨y, fun _ => ⟨hr, cs', h1, hy⟩⟩
   ·exact ⟨d0, fun h => absurd h hi⟩
  obtain ⟨F, hF⟩ := Classical.axiomOfChoice h1
  have hg : ∀ i y, ((List.range len).map F)[i]? = some y → i < len ∧ y = F i := fun i y hy => by
   have hi : i < len := by
    have := (List.getElem?_eq_some_iff.1 hy).1
    simpa using this
   refine ⟨hi, ?_⟩
   simp [hi] at hy
   exact hy.symm
  refine ⟨some a, len, cap, (List.range len).map F, rfl, by simp, ⟨some a, cap, by simp, by simpa using hl, ?_⟩, ?_⟩
  ·by_cases h0 : len = 0
   ·left; simp [h0]
   ·right
    obtain ⟨b, off, spot⟩ := a
    have hcell : ∀ i j, i < len → j < k → w.cell? ((⟨b, off, spot⟩ : Addr).add (i * k + j)) = (encA (F i))[j]? := by
     intro i j hi hj
     obtain ⟨_, cs', h1, h2⟩ := hF i hi
     rw [h2] at h1
     have h3 := World.cells?_some h1
     rw [← add_add]
     exact h3.2.2 j hj
    have hsome : ∀ j, j < k → ∃ u, (encA (F 0))[j]? = some u := fun j hj => ⟨_, List.getElem?_eq_getElem (by rw [hk]; exact hj)⟩
    have hspot : spot = none := by
     obtain ⟨u, hu⟩ := hsome 0 hk0
     have := (hcell 0 0 (by omega) hk0).trans hu
     simpa [Addr.add] using World.cell?_spot this
    subst hspot
    have hcell' : ∀ i j, i < len → j < k → w.cell? ⟨b, off + i * k + j, none⟩ = (encA (F i))[j]? := by
     intro i j hi hj
     have := hcell i j hi hj
     rw [add_plain] at this
     rw [← this]
     congr 2
     omega
    refine ⟨b, off, rfl, ?_, fun i y hy q u hu => ?_⟩
    ·obtain ⟨u, hu⟩ := hsome 0 hk0
     exact World.block_lt_of_cell? w _ ((hcell' 0 0 (by omega) hk0).trans hu)
    ·obtain ⟨hi, rfl⟩ := hg i y hy
     have hq : q < k := by
      have := (List.getElem?_eq_some_iff.1 hu).1
      rwa [hk] at this
     exact (hcell' i q hi hq).trans hu
  ·intro y hy
   rw [List.mem_map] at hy
   obtain ⟨i, hi, rfl⟩ := hy
   exact (hF i (by simpa using hi)).1
end
end
section
structure Ix where
 e : Ev
 n : Int
def Ix.key (x : Ix) : Bs := keyB x.e
def Ix.fit (lp : Int) (x : Ix) : Prop := x.e.right ∧ x.e.ok ∧ x.e.nrm = x.e ∧ x.e.dst = lp ∧ x.n ≠ 0
def ixP (l : List Ix) : List KV := l.map fun x => (x.key, encI x.n)
def AscI (l : List Ix) : Prop := l.Pairwise fun a b => a.key < b.key
structure IxM (M : List KV) (lp : Int) (c : Nat) (l : List Ix) : Prop where
 part : partM M (hdP 0 lp) = ixP l
 ok : ∀ x ∈ l, x.fit lp
 le : ∀ x ∈ l, x.n.natAbs ≤ c
def cntI (l : List Ix) (k : Bs) : Int := ((l.find? fun x => decide (x.key = k)).map Ix.n).getD 0
def setI (l : List Ix) (x : Ix) : List Ix := l.filter (fun y => decide (y.key < x.key)) ++ x :: l.filter (fun y => decide (x.key < y.key))
def delI (l : List Ix) (k : Bs) : List Ix := l.filter fun y => decide (y.key ≠ k)
def addI (l : List Ix) (e : Ev) (d : Int) : List Ix := if cntI l (keyB e) + d = 0 then delI l (keyB e) else setI l ⟨e.nrm, cntI l (keyB e) + d⟩
theorem ixP_set (l : List Ix) (x : Ix) : ixP (setI l x) = setM (ixP l) x.key (encI x.n) := by
 unfold ixP setI setM
 rw [List.map_append, List.map_cons, List.filter_map, List.filter_map]
 rfl
theorem ixP_del (l : List Ix) (k : Bs) : ixP (delI l k) = delM (ixP l) k := by
 unfold ixP delI delM
 rw [List.filter_map]
 rfl
theorem mem_setI_iff {l : List Ix} {x y : Ix} : y ∈ setI l x ↔ y = x ∨ (y ∈ l ∧ y.key ≠ x.key) := by
 unfold setI
 rw [List.mem_append, List.mem_cons, List.mem_filter, List.mem_filter]
 simp only [decide_eq_true_eq]
 constructor
 ·rintro (⟨h1, h2⟩ | h | ⟨h1, h2⟩)
  ·exact .inr ⟨h1, fun e => by rw [e] at h2; exact blt_irrefl _ h2⟩
  ·exact .inl h
  ·exact .inr ⟨h1, fun e => by rw [e] at h2; exact blt_irrefl _ h2⟩
 ·rintro (h | ⟨h1, h2⟩)
  ·exact .inr (.inl h)
  ·rcases blt_tri y.key x.key with h | h | h
   ·exact .inl ⟨h1, h⟩
   ·exact absurd h h2
   ·exact .inr (.inr ⟨h1, h⟩)
theorem mem_delI_iff {l : List Ix} {k : Bs} {y : Ix} : y ∈ delI l k ↔ y ∈ l ∧ y.key ≠ k := by
 unfold delI
 rw [List.mem_filter]
 simp
theorem setI_asc {l : List Ix} (h : AscI l) (x : Ix) : AscI (setI l x) := by
 unfold AscI setI
 rw [List.pairwise_append, List.pairwise_cons]
 refine ⟨h.filter _, ⟨fun y hy => by simpa using (List.mem_filter.1 hy).2, h.filter _⟩, fun y hy z hz => ?_⟩
 have h1 : y.key < x.key := by simpa using (List.mem_filter.1 hy).2
 rcases List.mem_cons.1 hz with rfl | hz
 ·exact h1
 ·exact blt_trans h1 (by simpa using (List.mem_filter.1 hz).2)
theorem addI_asc {l : List Ix} (h : AscI l) (e : Ev) (d : Int) : AscI (addI l e d) := by
 unfold addI
 split
 ·exact h.filter _
 ·exact setI_asc h _
theorem AscI.inj {l : List Ix} (h : AscI l) {a b : Ix} (ha : a ∈ l) (hb : b ∈ l) (e : a.key = b.key) : a = b := by
 induction l with
 | nil => simp at ha
 | cons x t ih =>
  have hx := List.pairwise_cons.1 h
  rcases List.mem_cons.1 ha with ha1 | ha1
  ·rcases List.mem_cons.1 hb with hb1 | hb1
   ·rw [ha1, hb1]
   ·have := hx.1 b hb1; rw [← ha1, e] at this; exact absurd this (blt_irrefl _)
  ·rcases List.mem_cons.1 hb with hb1 | hb1
   ·have := hx.1 a ha1; rw [← hb1, e] at this; exact absurd this (blt_irrefl _)
   ·exact ih hx.2 ha1 hb1
theorem cntI_none {l : List Ix} {k : Bs} (h : ∀ x ∈ l, x.key ≠ k) : cntI l k = 0 := by
 unfold cntI
 rw [List.find?_eq_none.2 (fun x hx => by simp [h x hx])]
 rfl
theorem cntI_mem {l : List Ix} (h : AscI l) {x : Ix} (hx : x ∈ l) : cntI l x.key = x.n := by
 unfold cntI
 cases e : l.find? fun y => decide (y.key = x.key) with
 | none => exact absurd (List.find?_eq_none.1 e x hx) (by simp)
 | some y =>
  have h1 := List.find?_some e
  have h2 := List.mem_of_find?_eq_some e
  rw [h.inj h2 hx (by simpa using h1)]
  rfl
theorem cntI_le {l : List Ix} {c : Nat} (h : ∀ x ∈ l, x.n.natAbs ≤ c) (k : Bs) : (cntI l k).natAbs ≤ c := by
 unfold cntI
 cases e : l.find? fun y => decide (y.key = k) with
 | none => simp
 | some y => exact h y (List.mem_of_find?_eq_some e)
theorem setI_length (l : List Ix) (x : Ix) : (setI l x).length ≤ l.length + 1 := by
 unfold setI
 rw [List.length_append, List.length_cons]
 have : ∀ l : List Ix, (l.filter (fun y => decide (y.key < x.key))).length + (l.filter (fun y => decide (x.key < y.key))).length ≤ l.length := fun l => by
  induction l with
  | nil => simp
  | cons y t ih =>
   rw [List.filter_cons, List.filter_cons]
   by_cases h1 : y.key < x.key
   ·have h2 : ¬ x.key < y.key := blt_asymm h1
    simp only [h1, h2, decide_true, decide_false, if_true, List.length_cons, Bool.false_eq_true, if_false]
    omega
   ·by_cases h2 : x.key < y.key
    ·simp only [h1, h2, decide_true, decide_false, if_true, List.length_cons, Bool.false_eq_true, if_false]
     omega
    ·simp only [h1, h2, decide_false, List.length_cons, Bool.false_eq_true, if_false]
     omega
 have := this l
 omega
section
variable {M : List KV} {lp : Int} {c : Nat} {l : List Ix}
theorem IxM.nil (lp : Int) (c : Nat) : IxM [] lp c [] := ⟨rfl, by simp, by simp⟩
theorem IxM.up (h : IxM M lp c l) {c' : Nat} (hc : c ≤ c') : IxM M lp c' l := ⟨h.part, h.ok, fun x hx => Nat.le_trans (h.le x hx) hc⟩
theorem IxM.asc (h : IxM M lp c l) (hM : AscM M) : AscI l := by
 have := partM_asc hM (hdP 0 lp)
 rw [h.part] at this
 unfold AscM ixP at this
 rw [List.pairwise_map] at this
 exact this
theorem IxM.get (h : IxM M lp c l) (hM : AscM M) (k : Bs) : getM M (hdP 0 lp ++ k) = (l.find? fun x => decide (x.key = k)).map fun x => encI x.n := by
 rw [getM_part (hdP_len 0 lp) hM, h.part]
 unfold getM ixP
 rw [List.find?_map, Option.map_map]
 rfl
theorem IxM.get_some (h : IxM M lp c l) (hM : AscM M) {k v : Bs} (hg : getM M (hdP 0 lp ++ k) = some v) : v = encI (cntI l k) ∧ cntI l k ≠ 0 := by
 rw [h.get hM] at hg
 unfold cntI
 cases e : l.find? fun y => decide (y.key = k) with
 | none => rw [e] at hg; simp at hg
 | some y =>
  rw [e] at hg
  exact ⟨by simpa using hg.symm, (h.ok y (List.mem_of_find?_eq_some e)).2.2.2.2⟩
theorem IxM.get_none (h : IxM M lp c l) (hM : AscM M) {k : Bs} (hg : getM M (hdP 0 lp ++ k) = none) : cntI l k = 0 := by
 rw [h.get hM] at hg
 unfold cntI
 cases e : l.find? fun y => decide (y.key = k) with
 | none => rfl
 | some y => rw [e] at hg; simp at hg
theorem IxM.set (h : IxM M lp c l) (hM : AscM M) {e : Ev} (hr : e.right) (ho : e.ok) (hd : e.dst = lp) {n : Int} (hn : n ≠ 0) (hc : n.natAbs ≤ c) : IxM (setM M (hdP 0 lp ++ keyB e) (encI n)) lp c (setI l ⟨e.nrm, n⟩) := by
 refine ⟨?_, fun y hy => ?_, fun y hy => ?_⟩
 ·rw [setM_part (hdP_len 0 lp) hM, h.part, ixP_set]
  show _ = setM _ (keyB e.nrm) (encI n)
  rw [keyB_nrm]
 ·rcases mem_setI_iff.1 hy with rfl | hy
  ·exact ⟨Ev.nrm_right hr, Ev.nrm_ok ho, Ev.nrm_nrm _, hd, hn⟩
  ·exact h.ok y hy.1
 ·rcases mem_setI_iff.1 hy with rfl | hy
  ·exact hc
  ·exact h.le y hy.1
theorem IxM.del (h : IxM M lp c l) (k : Bs) : IxM (delM M (hdP 0 lp ++ k)) lp c (delI l k) :=
 ⟨by rw [delM_part (hdP_len 0 lp), h.part, ixP_del], fun y hy => h.ok y (List.mem_filter.1 hy).1, fun y hy => h.le y (List.mem_filter.1 hy).1⟩
theorem IxM.clear (h : IxM M lp c l) (hlp : 0 ≤ lp ∧ lp ≤ 5) (fr to : Bs) : IxM (M.filter fun a => !inR (hdP 0 lp ++ fr) (toK (hdP 0 lp) to) a.1) lp c (l.filter fun y => !inR fr to y.key) := by
 obtain ⟨x, y, e, hy⟩ := hdP_byte (sp := 0) hlp
 refine ⟨?_, fun x hx => h.ok x (List.mem_filter.1 hx).1, fun x hx => h.le x (List.mem_filter.1 hx).1⟩
 rw [e, clear_part hy, ← e, h.part]
 unfold ixP
 rw [List.filter_map]
 rfl
theorem IxM.scan (h : IxM M lp c l) (fr to : Bs) (hl : l.length ≤ 1000) : scanM (partM M (hdP 0 lp)) fr to 1099511627776 = ixP (l.filter fun y => inR fr to y.key) := by
 unfold scanM
 rw [h.part]
 have e : (ixP l).filter (fun a => inR fr to a.1) = ixP (l.filter fun y => inR fr to y.key) := by
  unfold ixP
  rw [List.filter_map]
  rfl
 rw [e, List.take_of_length_le]
 have : (l.filter fun y => inR fr to y.key).length ≤ l.length := List.length_filter_le _ _
 simp [ixP]
 omega
theorem IxM.len (h : IxM M lp c l) : l.length ≤ M.length := by
 have := partM_length_le M (hdP 0 lp)
 rw [h.part] at this
 simpa [ixP] using this
end
end
end Go.Proofs.YtnnghcooidjlhaaGreat
