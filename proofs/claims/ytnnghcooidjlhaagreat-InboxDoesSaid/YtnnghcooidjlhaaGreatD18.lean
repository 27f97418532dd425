/- Parts of the proof: Id. -/
import Derived.WalkMore
import Derived.Test.YtnnghcooidjlhaaGreatD13
import Derived.Test.YtnnghcooidjlhaaGreatD17
set_option linter.all false
set_option maxRecDepth 100000
namespace Go.Proofs.YtnnghcooidjlhaaGreat
section
open Go.RowKit Go.Lib
theorem belowN_eq (k : Bs) (l : List En) : belowN k l = leads k l := by
 unfold belowN leads hasB
 cases h : l[cnt k l]? with
 | none => simp
 | some x => simp
structure St where
 page : Nat
 n : Nd
 v : Value
 at_ : Nat
def stC (s : St) : List Value := [.int .i64 s.page, .bool s.n.leaf, s.v, .int .i64 s.at_]
theorem stC_len (s : St) : (stC s).length = 4 := rfl
theorem infSt : (Tryz.prog.info? 294).map (fun i => (i.zero, i.size, i.bytes)) = some (some (.agg #[.int .i64 0, .bool false, .slice none 0 0, .int .i64 0]), 4, 48) := by kernel_rfl
structure WayI (w : World) (B : Nat) (v : Value) (sts : List St) : Prop where
 own : w.ownsRow B 294 4 v sts.length (rowV stC sts)
 row : ∀ s ∈ sts, w.ownsRow B 299 3 s.v s.n.l.length (rowV enC s.n.l)
 nd : sts.Pairwise fun a b => ∀ g, a.v.ownBlock = some g → b.v.ownBlock ≠ some g
def Fms (sts : List St) (up : List Fm) : Prop := sts.map (fun s => (s.page, s.n, s.at_)) = up.reverse.map (fun f => (f.page, f.nd, f.L.length))
theorem Fms.nil : Fms [] [] := rfl
theorem Fms.snoc {sts : List St} {up : List Fm} (h : Fms sts up) (f : Fm) (v : Value) : Fms (sts ++ [⟨f.page, f.nd, v, f.L.length⟩]) (f :: up) := by
 unfold Fms at h ⊢
 rw [List.map_append, h]
 simp
theorem Fms.length {sts : List St} {up : List Fm} (h : Fms sts up) : sts.length = up.length := by
 have := congrArg List.length h
 simpa using this
theorem own_apart {w : World} {B B' s s' n n' : Nat} {T T' : TypeId} {v v' : Value} {xs xs' : List Value} (h : w.ownsRow B T s v n xs) (h' : w.ownsRow B' T' s' v' n' xs') (hne : T ≠ T') (g : Nat) (hg : v.ownBlock = some g) : v'.ownBlock ≠ some g := by
 intro e
 rcases h.2 with ⟨rfl, _⟩ | ⟨q, c, cur, rfl, _, h2, _⟩
 ·simp [Value.ownBlock] at hg
 ·rcases h'.2 with ⟨rfl, _⟩ | ⟨q', c', cur', rfl, _, h2', _⟩
  ·simp [Value.ownBlock] at e
  ·have e1 : q = g := by simpa [Value.ownBlock] using hg
   have e2 : q' = g := by simpa [Value.ownBlock] using e
   subst e1 e2
   rw [h2] at h2'
   injection h2' with h2'
   injection h2' with _ ht
   exact hne ht
theorem WayI.of_blocks {w w' : World} {B : Nat} {v : Value} {sts : List St} (h : WayI w B v sts) (e : ∀ b, B ≤ b → b < w.heap.size → w'.heap[b]? = w.heap[b]?) : WayI w' B v sts :=
 ⟨row_of h.own (fun b hb => e b (h.own.lt b hb).1 (h.own.lt b hb).2), fun s hs => row_of (h.row s hs) (fun b hb => e b ((h.row s hs).lt b hb).1 ((h.row s hs).lt b hb).2), h.nd⟩
theorem WayI.kp {w w' : World} {B : Nat} {O : List Nat} {v : Value} {sts : List St} (h : WayI w B v sts) (hk : Kp O w w') (ho : ∀ b ∈ O, b < B) : WayI w' B v sts :=
 h.of_blocks fun b hb hlt => hk.block b hlt fun hx => by have := ho b hx; omega
theorem WayI.push {W W' : World} {B : Nat} {v v' : Value} {sts : List St} {s : St} (h : WayI W B v sts) (hs : W.ownsRow B 299 3 s.v s.n.l.length (rowV enC s.n.l)) (hnew : ∀ t ∈ sts, ∀ g, t.v.ownBlock = some g → s.v.ownBlock ≠ some g)
  (hO : W'.ownsRow B 294 4 v' (sts.length + 1) (rowV stC sts ++ stC s)) (hg : W.grownBy W' v.ownBlock) : WayI W' B v' (sts ++ [s]) := by
 have keep : ∀ t : St, W.ownsRow B 299 3 t.v t.n.l.length (rowV enC t.n.l) → W'.ownsRow B 299 3 t.v t.n.l.length (rowV enC t.n.l) := fun t ht => row_of ht (fun b hb => hg.block b (ht.lt b hb).2 (fun e => own_apart ht h.own (by decide) b hb e.symm))
 refine ⟨by simpa using hO, fun t ht => ?_, ?_⟩
 ·rcases List.mem_append.1 ht with ht | ht
  ·exact keep t (h.row t ht)
  ·rw [List.mem_singleton.1 ht]; exact keep s hs
 ·rw [List.pairwise_append]
  exact ⟨h.nd, by simp, fun t ht u hu g hg => by rw [List.mem_singleton.1 hu]; exact hnew t ht g hg⟩
theorem stC_one {s : St} {tp : Option Addr} {l c : Nat} (h : s.v = .slice tp l c) : ∀ u ∈ stC s, u.oneCell' = true := by
 intro u hu
 simp [stC] at hu
 rcases hu with rfl | rfl | rfl | rfl
 ·rfl
 ·rfl
 ·rw [h]; rfl
 ·rfl
section
variable {w : World} {P : PL} {O : List Nat} {pgs : List (Option Bs)} {tb : Nat}
set_option maxHeartbeats 4000000 in
theorem way_any (ht : TrI w P tb) (hto : tb ∉ O) (hp : PoI w P O pgs) {d : Nat} {E : List En} {ps : List PN} (hr : Rep (pg pgs) d 0 E ps) (hd : d ≤ 15) (k : Bs) :
  Calls Tryz.prog 165 #[.pointer (some ⟨tb, 0, none⟩), .string (S k)] w fun e w' => ∃ v sts up q es vl pre post psl psc, e = .returned (.tuple #[v, .int .i64 0]) ∧ Kp O w w' ∧ PoI w' P O pgs ∧
   WayI w' w.heap.size v (sts ++ [⟨q, ⟨true, es⟩, vl, 0⟩]) ∧ Fms sts up ∧ up.length = d ∧ Ctx (pg pgs) 0 q up pre post psc ∧ Rep (pg pgs) 0 q es psl ∧ E = pre ++ es ++ post ∧ (psl ++ psc).Perm ps ∧ InB up k ∧ (∀ x ∈ es, InB up x.key) ∧ (es ≠ [] ∨ up = []) := by
 have c0 := ht.c0
 have hlt := Blk.lt ht
 have HT := hid ht
 have HTO := hid hto
 have HP := hid hp
 have HR := hid hr
 clear ht hto hp hr
 go_enter Tryz.func165, Tryz.ntmps165
 go_wp2
 go_step3
 go_wp2
 go_step3
 go_wp2
 go_loopg [6, 7] (d + 1) (fun gg s6 s7 wr => ∃ sts up dd q es pre post psl psc, dd + up.length = d ∧ dd + 1 ≤ gg ∧ s7 = .int .i64 (q : Nat) ∧ Hid (Kp O w wr) ∧ Hid (PoI wr P O pgs) ∧ Hid (WayI wr w.heap.size s6 sts) ∧ Hid (Fms sts up) ∧
  Hid (Ctx (pg pgs) dd q up pre post psc ∧ Rep (pg pgs) dd q es psl ∧ E = pre ++ es ++ post ∧ (psl ++ psc).Perm ps ∧ InB up k ∧ (∀ x ∈ es, InB up x.key) ∧ (es ≠ [] ∨ up = [])))
 case atStart =>
  refine ⟨[], [], d, 0, E, [], [], ps, [], by simp, Nat.le_refl _, rfl, hid (Kp.refl _ _), HP, hid ⟨by simpa using World.ownsRow_nil _ _ _ _, by simp, List.Pairwise.nil⟩, hid Fms.nil, hid ⟨⟨rfl, rfl, rfl, rfl⟩, HR.out, by simp, by simp, fun f hf => by simp at hf, fun x _ f hf => by simp at hf, .inr rfl⟩⟩
 case round =>
  obtain ⟨sts, up, dd, q, es, pre, post, psl, psc, hdd, hgg, rfl, hK, hP, hW, hF, hC⟩ := hrel
  obtain ⟨tp, tc, rfl⟩ := own_slice2 hW.out.own
  have hsl := hid hF.out.length
  have hlen : (sts.length : Int) < 16 := by have := hsl.out; omega
  obtain ⟨n, ps0, hn1, hn2, hn3, hn4⟩ := rep_iff.1 hC.out.2.1
  have hTr : TrI wr P tb := Blk.kp HT.out hK.out HTO.out
  have HRD := hid (read_any hTr hP.out (pg_some.1 hn1.1) hn1.2.1 hn1.2.2)
  have HN := hid (⟨hn1, hn2, hn3, hn4⟩ : NdAt (pg pgs) q n ∧ NodeOk (pg pgs) dd n es ps0 ∧ (dd ≠ 0 → n.l ≠ []) ∧ psl = (q, dd, nB n.l) :: ps0)
  have hleaf := hn2.leaf_iff
  clear hn1 hn2 hn3 hn4 hTr
  go_wp2_with fail
  (with_reducible refine HRD.out.mono ?_)
  rintro e W1 ⟨v1, rfl, hO1, hk1, hp1⟩
  unfold ndV
  obtain ⟨tp1, tc1, rfl⟩ := own_slice2 hO1
  have HO1 := hid hO1
  have HK1 := hid hk1
  have HP1 := hid hp1
  clear hO1 hk1 hp1
  have HLO : Hid (∀ b ∈ O, b < w.heap.size) := hid HP.out.lts
  have HWR := hid (hW.out.kp HK1.out HLO.out)
  have hwr := hK.out.size
  have hwr1 := HK1.out.size
  have HNEW : Hid (∀ t ∈ sts, ∀ g, t.v.ownBlock = some g → (Value.slice tp1 n.l.length tc1).ownBlock ≠ some g) := hid (fun t ht g hg e => by
   have h1 := ((hW.out.row t ht).lt g hg).2
   have h2 := (HO1.out.lt g e).1
   omega)
  have hHd := hid hd
  obtain ⟨i0, hi0, hz0, hz1, hz2⟩ := info_parts infSt
  by_cases h0 : dd = 0
  ·rw [decide_eq_true h0] at hleaf
   rw [hleaf]
   go_wp2_with (with_reducible refine stopAt .append rfl ?_)
   with_reducible refine goOn ?_
   obtain ⟨W3, hW3⟩ : ∃ W3, W3 = (W1.alloc (.cells #[.bool true, .slice tp1 n.l.length tc1] 292)).alloc (.cells #[.int .i64 q, .bool true, .slice tp1 n.l.length tc1, .int .i64 0] 294) := ⟨_, rfl⟩
   have hb3 : Below W1.heap.size W1 W3 := by
    rw [hW3]
    exact ((Below.refl _ W1).alloc (Nat.le_refl _) _).alloc (by simp) _
   have hs3 : W3.heap.size = W1.heap.size + 1 + 1 := by rw [hW3]; simp
   rw [← hW3, ← hs3]
   clear hW3
   have HW3 := hid ((HWR.out.of_blocks (w' := W3) (fun b _ hlt => hb3.block b hlt)).of_blocks (w' := W3.alloc (.cells #[.int .i64 q, .bool true, .slice tp1 n.l.length tc1, .int .i64 0] 294)) (fun b _ hlt => Below.heap_alloc W3 _ b hlt))
   have HO3 : Hid ((W3.alloc (.cells #[.int .i64 q, .bool true, .slice tp1 n.l.length tc1, .int .i64 0] 294)).ownsRow w.heap.size 299 3 (.slice tp1 n.l.length tc1) n.l.length (rowV enC n.l)) := hid ((own_base (row_of HO1.out (fun b hb => hb3.block b (HO1.out.lt b hb).2)) hwr).alloc _)
   refine wpList_append_own _ rfl _ _ 286 rfl w.heap.size 294 i0 (.agg #[.int .i64 0, .bool false, .slice none 0 0, .int .i64 0]) 4 48 Tryz.underlying286 hi0 hz0 hz1 hz2 rfl (by decide) _ _ _ rfl HW3.out.own ⟨W3.heap.size, 0, none⟩ 1 1 (stC ⟨q, ⟨true, n.l⟩, .slice tp1 n.l.length tc1, 0⟩) rfl rfl (news_of (Blk.new W3 294 (stC ⟨q, ⟨true, n.l⟩, .slice tp1 n.l.length tc1, 0⟩).toArray)) (stC_one rfl) (by unfold maxLen; omega) (by omega) (by simp; omega) ?_
   intro v' W' hO' hgr0 _
   have hgr : (W3.alloc (.cells #[.int .i64 q, .bool true, .slice tp1 n.l.length tc1, .int .i64 0] 294)).grownBy W' (Value.slice tp sts.length tc).ownBlock := hgr0
   clear hgr0
   have hWW : WayI W' w.heap.size v' (sts ++ [⟨q, ⟨true, n.l⟩, .slice tp1 n.l.length tc1, 0⟩]) := HW3.out.push HO3.out HNEW.out hO' hgr
   have hkk : Kp O w W' := ((((hK.out.trans HK1.out).trans (Kp.of_below hb3)).alloc _)).grown hgr (fun g e => .inr (HW3.out.own.lt g e).1)
   have hpp : PoI W' P O pgs := HP1.out.of_blocks (fun b hb => by
    have h1 := HLO.out b hb
    refine (hgr.block b (by simp; omega) (fun e => by have := (HW3.out.own.lt b e.symm).1; omega)).trans ((Below.heap_alloc W3 _ b (by omega)).trans (hb3.block b (by omega))))
   obtain ⟨q2, c4, rfl, hq21, hq22, hq23⟩ := own_form hO' (by omega)
   have m1 : W'.cell? ⟨q2, sts.length * 4 + 1, none⟩ = some (.bool true) := own_at hO' rfl (j := sts.length * 4 + 1) (by
    rw [List.getElem?_append_right (by rw [rowV_length stC_len]; omega), rowV_length stC_len, Nat.add_sub_cancel_left]; rfl)
   have HWW := hid hWW
   have HKK := hid hkk
   have HPP := hid hpp
   have hw9 : IntKind.i64.wrap ((sts.length : Int) + 1 - 1) = (sts.length : Int) := by rw [IntKind.wrap_i64]; omega
   clear hWW hkk hpp hgr hO' hb3
   go_wp2
   rw [Exit.noGoto_ret]
   go_ret2
   obtain ⟨hn1, hn2, hn3, hn4⟩ := HN.out
   subst h0
   obtain ⟨rfl, rfl⟩ := hn2
   obtain ⟨g1, g2, g3, g4, g5, g6, g7⟩ := hC.out
   exact ⟨_, sts, up, q, es, _, pre, post, psl, psc, rfl, HKK.out, HPP.out, HWW.out, hF.out, by omega, g1, g2, g3, g4, g5, g6, g7⟩
  ·rw [decide_eq_false h0] at hleaf
   rw [hleaf]
   have hne0 : ((n.l.length : Int) == 0) = false := by
    have := HN.out.2.2.1 h0
    have h1 := List.length_pos_iff.2 this
    simp
    intro e
    exact this e
   obtain ⟨dd', rfl⟩ : ∃ dd', dd = dd' + 1 := ⟨dd - 1, by omega⟩
   obtain ⟨cs, rfl, hcf, hco, hcr, rfl, rfl⟩ := HN.out.2.1
   have hcsn : cs ≠ [] := by
    have := HN.out.2.2.1 h0
    intro e
    subst e
    exact this rfl
   have hmay := HN.out.1.2.1
   obtain ⟨L, c, R, hspl, hLl, hck, hcR⟩ := leads_split hcsn hcf hmay.2 k
   have HSP := hid (⟨hspl, hLl, hck, hcR⟩ : cs = L ++ c :: R ∧ L.length = leads k (cs.map Ch.en) ∧ c.key ≤ k ∧ ∀ c' ∈ R, k < c'.key)
   have HCS := hid (⟨hcf, hco, hcr⟩ : FirstE cs ∧ ChOk cs ∧ ∀ c ∈ cs, Rep (pg pgs) dd' c.page c.es c.ps)
   have hlm : (cs.map Ch.en).length = cs.length := by simp
   simp only at hleaf hne0
   rw [hlm] at hne0
   have HO1' : Hid (W1.ownsRow wr.heap.size 299 3 (.slice tp1 cs.length tc1) cs.length (rowV enC (cs.map Ch.en))) := hid (by
    have := HO1.out
    simp only at this
    rwa [hlm] at this)
   have hcpos : 0 < cs.length := List.length_pos_iff.2 hcsn
   obtain ⟨g1, c1, eg, hg11, hg12, hg13⟩ := own_form HO1'.out hcpos
   injection eg with eg1 _ eg3
   subst eg1 eg3
   obtain ⟨W3, hW3⟩ : ∃ W3, W3 = (W1.alloc (.cells #[.bool false, .slice (some ⟨g1, 0, none⟩) cs.length tc1] 292)).alloc (.cells #[.int .i64 q, .bool false, .slice (some ⟨g1, 0, none⟩) cs.length tc1, .int .i64 0] 294) := ⟨_, rfl⟩
   have hb3 : Below W1.heap.size W1 W3 := by
    rw [hW3]
    exact ((Below.refl _ W1).alloc (Nat.le_refl _) _).alloc (by simp) _
   have hs3 : W3.heap.size = W1.heap.size + 1 + 1 := by rw [hW3]; simp
   have hnd3 : Blk W3 W1.heap.size 292 #[.bool false, .slice (some ⟨g1, 0, none⟩) cs.length tc1] := by rw [hW3]; exact (Blk.new W1 _ _).alloc _
   have hst3 : Blk W3 (W1.heap.size + 1) 294 #[.int .i64 q, .bool false, .slice (some ⟨g1, 0, none⟩) cs.length tc1, .int .i64 0] := by
    rw [hW3]
    have := Blk.new (W1.alloc (.cells #[.bool false, .slice (some ⟨g1, 0, none⟩) cs.length tc1] 292)) 294 #[.int .i64 q, .bool false, .slice (some ⟨g1, 0, none⟩) cs.length tc1, .int .i64 0]
    simpa using this
   have hO13 := row_of HO1'.out (w' := W3) (fun b hb => hb3.block b (HO1'.out.lt b hb).2)
   have HBL := hid (below_any (w := W3) (leaf := false) (l := cs.map Ch.en) hmay.2 (v := .slice (some ⟨g1, 0, none⟩) cs.length tc1) (by
    have h8 := hO13
    rw [← hlm] at h8 ⊢
    exact EnI.of_own h8) (by
    have h9 := HN.out.1.2.2
    have : ∀ l : List En, 7 * l.length ≤ nB l := fun l => by
     induction l with
     | nil => simp
     | cons x t ih => simp [enB]; omega
    have := this (cs.map Ch.en)
    simp only at h9
    omega) k)
   rw [belowN_eq, ← hLl] at HBL
   unfold ndV at HBL
   have HO13 := hid hO13
   have HND := hid hnd3
   have HST := hid hst3
   have HB3 := hid hb3
   have HS3 := hid hs3
   have HW3 := hid hW3
   clear hlm hspl hLl hck hcR hcf hco hcr hcsn hmay hO13 hnd3 hst3 hb3 hs3 hW3
   go_wp2_with fail
   rw [← HW3.out]
   (with_reducible refine HBL.out.mono ?_)
   rintro e W4 ⟨rfl, hb4⟩
   have hst4 := HST.out.below hb4 HST.out.lt
   have hnd4 := HND.out.below hb4 HND.out.lt
   have hs4 := hb4.size
   have s0 : W4.cell? ⟨W1.heap.size + 1, 0, none⟩ = some (.int .i64 q) := hst4.cell 0
   have s1 : W4.cell? ⟨W1.heap.size + 1, 1, none⟩ = some (.bool false) := hst4.cell 1
   have s2 : W4.cell? ⟨W1.heap.size + 1, 2, none⟩ = some (.slice (some ⟨g1, 0, none⟩) cs.length tc1) := hst4.cell 2
   have s3 : W4.cell? ⟨W1.heap.size + 1, 3, none⟩ = some (.int .i64 0) := hst4.cell 3
   have sf := hst4.frozen 3
   have hlt4 := hst4.lt
   have HST4 := hid hst4
   have HND4 := hid hnd4
   have HB4 := hid hb4
   clear hst4 hnd4 hb4
   go_wp2_with (with_reducible refine stopAt .append rfl ?_)
   with_reducible refine goOn ?_
   have hst5 := HST4.out.set_ 3 (.int .i64 L.length)
   have hnd5 := HND4.out.far (p := ⟨W1.heap.size + 1, 3, none⟩) (by show W1.heap.size ≠ W1.heap.size + 1; omega) (.int .i64 L.length)
   obtain ⟨W5, hW5⟩ : ∃ W5, W5 = W4.setCell ⟨W1.heap.size + 1, 3, none⟩ (.int .i64 L.length) := ⟨_, rfl⟩
   have hb5 : Below W1.heap.size W1 W5 := by
    rw [hW5]
    exact (HB3.out.trans (HB4.out.mono (by have := HS3.out; omega))).setCell (p := ⟨W1.heap.size + 1, 3, none⟩) (by show W1.heap.size ≤ W1.heap.size + 1; omega) _
   have hs5 : W5.heap.size = W4.heap.size := by rw [hW5]; simp [World.setCell]
   rw [← hW5] at hst5 hnd5 ⊢
   rw [← hs5]
   have HW3' := hid ((HWR.out.of_blocks (w' := W5) (fun b _ hlt => hb5.block b hlt)).of_blocks (w' := W5.alloc (.cells #[.int .i64 q, .bool false, .slice (some ⟨g1, 0, none⟩) cs.length tc1, .int .i64 L.length] 294)) (fun b _ hlt => Below.heap_alloc W5 _ b hlt))
   have hO5 := row_of HO1'.out (w' := W5) (fun b hb => hb5.block b (HO1'.out.lt b hb).2)
   have HO3 : Hid ((W5.alloc (.cells #[.int .i64 q, .bool false, .slice (some ⟨g1, 0, none⟩) cs.length tc1, .int .i64 L.length] 294)).ownsRow w.heap.size 299 3 (.slice (some ⟨g1, 0, none⟩) cs.length tc1) cs.length (rowV enC (cs.map Ch.en))) := hid ((own_base hO5 hwr).alloc _)
   refine wpList_append_own _ rfl _ _ 286 rfl w.heap.size 294 i0 (.agg #[.int .i64 0, .bool false, .slice none 0 0, .int .i64 0]) 4 48 Tryz.underlying286 hi0 hz0 hz1 hz2 rfl (by decide) _ _ _ rfl HW3'.out.own ⟨W5.heap.size, 0, none⟩ 1 1 (stC ⟨q, ⟨false, cs.map Ch.en⟩, .slice (some ⟨g1, 0, none⟩) cs.length tc1, L.length⟩) rfl rfl (news_of (Blk.new W5 294 (stC ⟨q, ⟨false, cs.map Ch.en⟩, .slice (some ⟨g1, 0, none⟩) cs.length tc1, L.length⟩).toArray)) (stC_one rfl) (by unfold maxLen; omega) (by omega) (by simp; omega) ?_
   intro v' W' hO' hgr0 _
   have hgr : (W5.alloc (.cells #[.int .i64 q, .bool false, .slice (some ⟨g1, 0, none⟩) cs.length tc1, .int .i64 L.length] 294)).grownBy W' (Value.slice tp sts.length tc).ownBlock := hgr0
   clear hgr0
   have hlm : (cs.map Ch.en).length = cs.length := by simp
   have hWW : WayI W' w.heap.size v' (sts ++ [⟨q, ⟨false, cs.map Ch.en⟩, .slice (some ⟨g1, 0, none⟩) cs.length tc1, L.length⟩]) := HW3'.out.push (by simp only; rw [hlm]; exact HO3.out) (by
    have := HNEW.out
    rw [hlm] at this
    exact this) hO' hgr
   have hkk : Kp O w W' := ((((hK.out.trans HK1.out).trans (Kp.of_below hb5)).alloc _)).grown hgr (fun g e => .inr (HW3'.out.own.lt g e).1)
   have notrow : ∀ b, some b = (Value.slice tp sts.length tc).ownBlock → b < wr.heap.size := fun b e => (hW.out.own.lt b e.symm).2
   have hpp : PoI W' P O pgs := HP1.out.of_blocks (fun b hb => by
    have h1 := HLO.out b hb
    refine (hgr.block b (by simp; omega) (fun e => by have := (HW3'.out.own.lt b e.symm).1; omega)).trans ((Below.heap_alloc W5 _ b (by omega)).trans (hb5.block b (by omega))))
   have hst6 : Blk W' (W1.heap.size + 1) 294 _ := (hst5.alloc _).grown hgr (fun e => by have := notrow _ e; omega)
   have hnd6 : Blk W' W1.heap.size 292 #[.bool false, .slice (some ⟨g1, 0, none⟩) cs.length tc1] := (hnd5.alloc _).grown hgr (fun e => by have := notrow _ e; omega)
   have hO6 : W'.ownsRow wr.heap.size 299 3 (.slice (some ⟨g1, 0, none⟩) cs.length tc1) cs.length (rowV enC (cs.map Ch.en)) := row_of (hO5.alloc _) (fun b hb => hgr.block b ((hO5.alloc _).lt b hb).2 (fun e => by
    have h1 := notrow _ e
    have h2 := (hO5.lt b hb).1
    omega))
   have u1 : W'.cell? ⟨W1.heap.size, 1, none⟩ = some (.slice (some ⟨g1, 0, none⟩) cs.length tc1) := hnd6.cell 1
   have u2 : W'.cell? ⟨W1.heap.size + 1, 3, none⟩ = some (.int .i64 L.length) := by rw [hst6.cell]; rfl
   obtain ⟨hspl, hLl, hck, hcR⟩ := HSP.out
   have hLlt : L.length < cs.length := by rw [hspl]; simp
   have hcget : (cs.map Ch.en)[L.length]? = some c.en := by rw [hspl]; simp
   have u3 : W'.cell? ⟨g1, L.length * 3 + 2, none⟩ = some (.int .i64 c.page) := own_at hO6 rfl (j := L.length * 3 + 2) (by rw [rowV_get enC_len _ L.length c.en hcget 2 (by omega)]; rfl)
   have hLz : (L.length : Int) < (cs.length : Int) := by omega
   have hg1w := (hO6.lt g1 rfl).2
   have hstw := hst6.lt
   have hndw := hnd6.lt
   obtain ⟨tp9, tc9, rfl⟩ := own_slice2 hO'
   have HWW := hid hWW
   have HKK := hid hkk
   have HPP := hid hpp
   clear hWW hkk hpp hgr hO' hb5 hO5 hO6 hst5 hnd5 hst6 hnd6 hlm hspl hLl hck hcR hLlt hcget s0 s1 s2 s3 sf hW5
   go_wp2
   go_roundg (dd' + 1)
   case measure => omega
   case rel =>
    obtain ⟨hspl, hLl, hck, hcR⟩ := HSP.out
    obtain ⟨hcf, hco, hcr⟩ := HCS.out
    obtain ⟨g1', g2', g3', g4', g5', g6', g7'⟩ := hC.out
    have hpsl := HN.out.2.2.2
    have hmem : ∀ x ∈ chEs cs, InB up x.key := g6'
    obtain ⟨j1, j2, j3, j4, j5⟩ := Ctx.down g1' hspl hcf HN.out.1 hco hcr hmem hck hcR g5'
    have hfnd : (⟨q, L, c.key, c.page, R⟩ : Fm).nd = ⟨false, cs.map Ch.en⟩ := by rw [hspl]; simp [Fm.nd, Fm.hole, Ch.en]
    refine ⟨sts ++ [⟨q, ⟨false, cs.map Ch.en⟩, .slice (some ⟨g1, 0, none⟩) cs.length tc1, L.length⟩], ⟨q, L, c.key, c.page, R⟩ :: up, dd', c.page, c.es, pre ++ chEs L, chEs R ++ post, c.ps, _, ?_, Nat.le_refl _, rfl, HKK, HPP, ?_, hid ?_, hid ⟨j1, j2, ?_, ?_, j4, j5, .inl j3⟩⟩
    ·rw [List.length_cons]; omega
    ·exact HWW
    ·have := hF.out.snoc ⟨q, L, c.key, c.page, R⟩ (.slice (some ⟨g1, 0, none⟩) cs.length tc1)
     rw [hfnd] at this
     exact this
    ·rw [g3', hspl]; simp
    ·refine List.Perm.trans ?_ g4'
     rw [hpsl, hspl, List.perm_iff_count]
     intro z
     simp only [List.count_cons, List.count_append, List.cons_append, chPs_append, chPs_cons]
     omega
end
end
end Go.Proofs.YtnnghcooidjlhaaGreat
