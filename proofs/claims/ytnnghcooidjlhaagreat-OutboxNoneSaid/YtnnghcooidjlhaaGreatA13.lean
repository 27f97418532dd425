/- Parts of the proof: Id Ie If. -/
import Derived.WalkMore
import Derived.Deep.AppendLies
import Derived.Test.YtnnghcooidjlhaaGreatA09
import Derived.Test.YtnnghcooidjlhaaGreatA12
set_option linter.all false
section
set_option linter.unusedSimpArgs false
set_option maxRecDepth 100000
namespace Go.Proofs.YtnnghcooidjlhaaGreat
open Go.RowKit Go.Lib
theorem belowN_eq (k : Bs) (l : List En) : belowN k l = leads k l := by
  unfold belowN leads hasB
  cases h : l[cnt k l]? with
  | none => simp
  | some x => simp
structure St where
  page : Nat
  n : Nd
  v : Value
  at_ : Nat
def stC (s : St) : List Value := [.int .i64 s.page, .bool s.n.leaf, s.v, .int .i64 s.at_]
theorem stC_len (s : St) : (stC s).length = 4 := rfl
theorem infSt : (Tryz.prog.info? 294).map (fun i => (i.zero, i.size, i.bytes)) = some (some (.agg #[.int .i64 0, .bool false, .slice none 0 0, .int .i64 0]), 4, 48) := by kernel_rfl
structure WayI (w : World) (B : Nat) (v : Value) (sts : List St) : Prop where
  own : w.ownsRow B 294 4 v sts.length (rowV stC sts)
  row : ∀ s ∈ sts, w.ownsRow B 299 3 s.v s.n.l.length (rowV enC s.n.l)
  nd : sts.Pairwise fun a b => ∀ g, a.v.ownBlock = some g → b.v.ownBlock ≠ some g
def Fms (sts : List St) (up : List Fm) : Prop := sts.map (fun s => (s.page, s.n, s.at_)) = up.reverse.map (fun f => (f.page, f.nd, f.L.length))
theorem Fms.nil : Fms [] [] := rfl
theorem Fms.snoc {sts : List St} {up : List Fm} (h : Fms sts up) (f : Fm) (v : Value) : Fms (sts ++ [⟨f.page, f.nd, v, f.L.length⟩]) (f :: up) := by
  unfold Fms at h ⊢
  rw [List.map_append, h]
  simp
theorem Fms.length {sts : List St} {up : List Fm} (h : Fms sts up) : sts.length = up.length := by
  have := congrArg List.length h
  simpa using this
theorem own_apart {w : World} {B B' s s' n n' : Nat} {T T' : TypeId} {v v' : Value} {xs xs' : List Value} (h : w.ownsRow B T s v n xs) (h' : w.ownsRow B' T' s' v' n' xs') (hne : T ≠ T') (g : Nat) (hg : v.ownBlock = some g) : v'.ownBlock ≠ some g := by
  intro e
  rcases h.2 with ⟨rfl, _⟩ | ⟨q, c, cur, rfl, _, h2, _⟩
  · simp [Value.ownBlock] at hg
  · rcases h'.2 with ⟨rfl, _⟩ | ⟨q', c', cur', rfl, _, h2', _⟩
    · simp [Value.ownBlock] at e
    · have e1 : q = g := by simpa [Value.ownBlock] using hg
      have e2 : q' = g := by simpa [Value.ownBlock] using e
      subst e1 e2
      rw [h2] at h2'
      injection h2' with h2'
      injection h2' with _ ht
      exact hne ht
theorem WayI.of_blocks {w w' : World} {B : Nat} {v : Value} {sts : List St} (h : WayI w B v sts) (e : ∀ b, B ≤ b → b < w.heap.size → w'.heap[b]? = w.heap[b]?) : WayI w' B v sts :=
  ⟨row_of h.own (fun b hb => e b (h.own.lt b hb).1 (h.own.lt b hb).2), fun s hs => row_of (h.row s hs) (fun b hb => e b ((h.row s hs).lt b hb).1 ((h.row s hs).lt b hb).2), h.nd⟩
theorem WayI.kp {w w' : World} {B : Nat} {O : List Nat} {v : Value} {sts : List St} (h : WayI w B v sts) (hk : Kp O w w') (ho : ∀ b ∈ O, b < B) : WayI w' B v sts :=
  h.of_blocks fun b hb hlt => hk.block b hlt fun hx => by have := ho b hx; omega
theorem WayI.push {W W' : World} {B : Nat} {v v' : Value} {sts : List St} {s : St} (h : WayI W B v sts) (hs : W.ownsRow B 299 3 s.v s.n.l.length (rowV enC s.n.l)) (hnew : ∀ t ∈ sts, ∀ g, t.v.ownBlock = some g → s.v.ownBlock ≠ some g)
    (hO : W'.ownsRow B 294 4 v' (sts.length + 1) (rowV stC sts ++ stC s)) (hg : W.grownBy W' v.ownBlock) : WayI W' B v' (sts ++ [s]) := by
  have keep : ∀ t : St, W.ownsRow B 299 3 t.v t.n.l.length (rowV enC t.n.l) → W'.ownsRow B 299 3 t.v t.n.l.length (rowV enC t.n.l) := fun t ht => row_of ht (fun b hb => hg.block b (ht.lt b hb).2 (fun e => own_apart ht h.own (by decide) b hb e.symm))
  refine ⟨by simpa using hO, fun t ht => ?_, ?_⟩
  · rcases List.mem_append.1 ht with ht | ht
    · exact keep t (h.row t ht)
    · rw [List.mem_singleton.1 ht]; exact keep s hs
  · rw [List.pairwise_append]
    exact ⟨h.nd, by simp, fun t ht u hu g hg => by rw [List.mem_singleton.1 hu]; exact hnew t ht g hg⟩
theorem stC_one {s : St} {tp : Option Addr} {l c : Nat} (h : s.v = .slice tp l c) : ∀ u ∈ stC s, u.oneCell' = true := by
  intro u hu
  simp [stC] at hu
  rcases hu with rfl | rfl | rfl | rfl
  · rfl
  · rfl
  · rw [h]; rfl
  · rfl
section
variable {w : World} {P : PL} {O : List Nat} {pgs : List (Option Bs)} {tb : Nat}
set_option maxHeartbeats 4000000 in
theorem way_any (ht : TrI w P tb) (hto : tb ∉ O) (hp : PoI w P O pgs) {d : Nat} {E : List En} {ps : List PN} (hr : Rep (pg pgs) d 0 E ps) (hd : d ≤ 15) (k : Bs) :
    Calls Tryz.prog 165 #[.pointer (some ⟨tb, 0, none⟩), .string (S k)] w fun e w' => ∃ v sts up q es vl pre post psl psc, e = .returned (.tuple #[v, .int .i64 0]) ∧ Kp O w w' ∧ PoI w' P O pgs ∧
      WayI w' w.heap.size v (sts ++ [⟨q, ⟨true, es⟩, vl, 0⟩]) ∧ Fms sts up ∧ up.length = d ∧ Ctx (pg pgs) 0 q up pre post psc ∧ Rep (pg pgs) 0 q es psl ∧ E = pre ++ es ++ post ∧ (psl ++ psc).Perm ps ∧ InB up k ∧ (∀ x ∈ es, InB up x.key) ∧ (es ≠ [] ∨ up = []) := by
  have c0 := ht.c0
  have hlt := Blk.lt ht
  have HT := hid ht
  have HTO := hid hto
  have HP := hid hp
  have HR := hid hr
  clear ht hto hp hr
  go_enter Tryz.func165, Tryz.ntmps165
  go_wp2
  go_step3
  go_wp2
  go_step3
  go_wp2
  go_loopg [6, 7] (d + 1) (fun gg s6 s7 wr => ∃ sts up dd q es pre post psl psc, dd + up.length = d ∧ dd + 1 ≤ gg ∧ s7 = .int .i64 (q : Nat) ∧ Hid (Kp O w wr) ∧ Hid (PoI wr P O pgs) ∧ Hid (WayI wr w.heap.size s6 sts) ∧ Hid (Fms sts up) ∧
    Hid (Ctx (pg pgs) dd q up pre post psc ∧ Rep (pg pgs) dd q es psl ∧ E = pre ++ es ++ post ∧ (psl ++ psc).Perm ps ∧ InB up k ∧ (∀ x ∈ es, InB up x.key) ∧ (es ≠ [] ∨ up = [])))
  case atStart =>
    refine ⟨[], [], d, 0, E, [], [], ps, [], by simp, Nat.le_refl _, rfl, hid (Kp.refl _ _), HP, hid ⟨by simpa using World.ownsRow_nil _ _ _ _, by simp, List.Pairwise.nil⟩, hid Fms.nil, hid ⟨⟨rfl, rfl, rfl, rfl⟩, HR.out, by simp, by simp, fun f hf => by simp at hf, fun x _ f hf => by simp at hf, .inr rfl⟩⟩
  case round =>
    obtain ⟨sts, up, dd, q, es, pre, post, psl, psc, hdd, hgg, rfl, hK, hP, hW, hF, hC⟩ := hrel
    obtain ⟨tp, tc, rfl⟩ := own_slice2 hW.out.own
    have hsl := hid hF.out.length
    have hlen : (sts.length : Int) < 16 := by have := hsl.out; omega
    obtain ⟨n, ps0, hn1, hn2, hn3, hn4⟩ := rep_iff.1 hC.out.2.1
    have hTr : TrI wr P tb := Blk.kp HT.out hK.out HTO.out
    have HRD := hid (read_any hTr hP.out (pg_some.1 hn1.1) hn1.2.1 hn1.2.2)
    have HN := hid (⟨hn1, hn2, hn3, hn4⟩ : NdAt (pg pgs) q n ∧ NodeOk (pg pgs) dd n es ps0 ∧ (dd ≠ 0 → n.l ≠ []) ∧ psl = (q, dd, nB n.l) :: ps0)
    have hleaf := hn2.leaf_iff
    clear hn1 hn2 hn3 hn4 hTr
    go_wp2_with fail
    (with_reducible refine HRD.out.mono ?_)
    rintro e W1 ⟨v1, rfl, hO1, hk1, hp1⟩
    unfold ndV
    obtain ⟨tp1, tc1, rfl⟩ := own_slice2 hO1
    have HO1 := hid hO1
    have HK1 := hid hk1
    have HP1 := hid hp1
    clear hO1 hk1 hp1
    have HLO : Hid (∀ b ∈ O, b < w.heap.size) := hid HP.out.lts
    have HWR := hid (hW.out.kp HK1.out HLO.out)
    have hwr := hK.out.size
    have hwr1 := HK1.out.size
    have HNEW : Hid (∀ t ∈ sts, ∀ g, t.v.ownBlock = some g → (Value.slice tp1 n.l.length tc1).ownBlock ≠ some g) := hid (fun t ht g hg e => by
      have h1 := ((hW.out.row t ht).lt g hg).2
      have h2 := (HO1.out.lt g e).1
      omega)
    have hHd := hid hd
    obtain ⟨i0, hi0, hz0, hz1, hz2⟩ := info_parts infSt
    by_cases h0 : dd = 0
    · rw [decide_eq_true h0] at hleaf
      rw [hleaf]
      go_wp2_with (with_reducible refine stopAt .append rfl ?_)
      with_reducible refine goOn ?_
      obtain ⟨W3, hW3⟩ : ∃ W3, W3 = (W1.alloc (.cells #[.bool true, .slice tp1 n.l.length tc1] 292)).alloc (.cells #[.int .i64 q, .bool true, .slice tp1 n.l.length tc1, .int .i64 0] 294) := ⟨_, rfl⟩
      have hb3 : Below W1.heap.size W1 W3 := by
        rw [hW3]
        exact ((Below.refl _ W1).alloc (Nat.le_refl _) _).alloc (by simp) _
      have hs3 : W3.heap.size = W1.heap.size + 1 + 1 := by rw [hW3]; simp
      rw [← hW3, ← hs3]
      clear hW3
      have HW3 := hid ((HWR.out.of_blocks (w' := W3) (fun b _ hlt => hb3.block b hlt)).of_blocks (w' := W3.alloc (.cells #[.int .i64 q, .bool true, .slice tp1 n.l.length tc1, .int .i64 0] 294)) (fun b _ hlt => Below.heap_alloc W3 _ b hlt))
      have HO3 : Hid ((W3.alloc (.cells #[.int .i64 q, .bool true, .slice tp1 n.l.length tc1, .int .i64 0] 294)).ownsRow w.heap.size 299 3 (.slice tp1 n.l.length tc1) n.l.length (rowV enC n.l)) := hid ((own_base (row_of HO1.out (fun b hb => hb3.block b (HO1.out.lt b hb).2)) hwr).alloc _)
      refine wpList_append_own _ rfl _ _ 286 rfl w.heap.size 294 i0 (.agg #[.int .i64 0, .bool false, .slice none 0 0, .int .i64 0]) 4 48 Tryz.underlying286 hi0 hz0 hz1 hz2 rfl (by decide) _ _ _ rfl HW3.out.own ⟨W3.heap.size, 0, none⟩ 1 1 (stC ⟨q, ⟨true, n.l⟩, .slice tp1 n.l.length tc1, 0⟩) rfl rfl (news_of (Blk.new W3 294 (stC ⟨q, ⟨true, n.l⟩, .slice tp1 n.l.length tc1, 0⟩).toArray)) (stC_one rfl) (by unfold maxLen; omega) (by omega) (by simp; omega) ?_
      intro v' W' hO' hgr0 _
      have hgr : (W3.alloc (.cells #[.int .i64 q, .bool true, .slice tp1 n.l.length tc1, .int .i64 0] 294)).grownBy W' (Value.slice tp sts.length tc).ownBlock := hgr0
      clear hgr0
      have hWW : WayI W' w.heap.size v' (sts ++ [⟨q, ⟨true, n.l⟩, .slice tp1 n.l.length tc1, 0⟩]) := HW3.out.push HO3.out HNEW.out hO' hgr
      have hkk : Kp O w W' := ((((hK.out.trans HK1.out).trans (Kp.of_below hb3)).alloc _)).grown hgr (fun g e => .inr (HW3.out.own.lt g e).1)
      have hpp : PoI W' P O pgs := HP1.out.of_blocks (fun b hb => by
        have h1 := HLO.out b hb
        refine (hgr.block b (by simp; omega) (fun e => by have := (HW3.out.own.lt b e.symm).1; omega)).trans ((Below.heap_alloc W3 _ b (by omega)).trans (hb3.block b (by omega))))
      obtain ⟨q2, c4, rfl, hq21, hq22, hq23⟩ := own_form hO' (by omega)
      have m1 : W'.cell? ⟨q2, sts.length * 4 + 1, none⟩ = some (.bool true) := own_at hO' rfl (j := sts.length * 4 + 1) (by
        rw [List.getElem?_append_right (by rw [rowV_length stC_len]; omega), rowV_length stC_len, Nat.add_sub_cancel_left]; rfl)
      have HWW := hid hWW
      have HKK := hid hkk
      have HPP := hid hpp
      have hw9 : IntKind.i64.wrap ((sts.length : Int) + 1 - 1) = (sts.length : Int) := by rw [IntKind.wrap_i64]; omega
      clear hWW hkk hpp hgr hO' hb3
      go_wp2
      rw [Exit.noGoto_ret]
      go_ret2
      obtain ⟨hn1, hn2, hn3, hn4⟩ := HN.out
      subst h0
      obtain ⟨rfl, rfl⟩ := hn2
      obtain ⟨g1, g2, g3, g4, g5, g6, g7⟩ := hC.out
      exact ⟨_, sts, up, q, es, _, pre, post, psl, psc, rfl, HKK.out, HPP.out, HWW.out, hF.out, by omega, g1, g2, g3, g4, g5, g6, g7⟩
    · rw [decide_eq_false h0] at hleaf
      rw [hleaf]
      have hne0 : ((n.l.length : Int) == 0) = false := by
        have := HN.out.2.2.1 h0
        have h1 := List.length_pos_iff.2 this
        simp
        intro e
        exact this e
      obtain ⟨dd', rfl⟩ : ∃ dd', dd = dd' + 1 := ⟨dd - 1, by omega⟩
      obtain ⟨cs, rfl, hcf, hco, hcr, rfl, rfl⟩ := HN.out.2.1
      have hcsn : cs ≠ [] := by
        have := HN.out.2.2.1 h0
        intro e
        subst e
        exact this rfl
      have hmay := HN.out.1.2.1
      obtain ⟨L, c, R, hspl, hLl, hck, hcR⟩ := leads_split hcsn hcf hmay.2 k
      have HSP := hid (⟨hspl, hLl, hck, hcR⟩ : cs = L ++ c :: R ∧ L.length = leads k (cs.map Ch.en) ∧ c.key ≤ k ∧ ∀ c' ∈ R, k < c'.key)
      have HCS := hid (⟨hcf, hco, hcr⟩ : FirstE cs ∧ ChOk cs ∧ ∀ c ∈ cs, Rep (pg pgs) dd' c.page c.es c.ps)
      have hlm : (cs.map Ch.en).length = cs.length := by simp
      simp only at hleaf hne0
      rw [hlm] at hne0
      have HO1' : Hid (W1.ownsRow wr.heap.size 299 3 (.slice tp1 cs.length tc1) cs.length (rowV enC (cs.map Ch.en))) := hid (by
        have := HO1.out
        simp only at this
        rwa [hlm] at this)
      have hcpos : 0 < cs.length := List.length_pos_iff.2 hcsn
      obtain ⟨g1, c1, eg, hg11, hg12, hg13⟩ := own_form HO1'.out hcpos
      injection eg with eg1 _ eg3
      subst eg1 eg3
      obtain ⟨W3, hW3⟩ : ∃ W3, W3 = (W1.alloc (.cells #[.bool false, .slice (some ⟨g1, 0, none⟩) cs.length tc1] 292)).alloc (.cells #[.int .i64 q, .bool false, .slice (some ⟨g1, 0, none⟩) cs.length tc1, .int .i64 0] 294) := ⟨_, rfl⟩
      have hb3 : Below W1.heap.size W1 W3 := by
        rw [hW3]
        exact ((Below.refl _ W1).alloc (Nat.le_refl _) _).alloc (by simp) _
      have hs3 : W3.heap.size = W1.heap.size + 1 + 1 := by rw [hW3]; simp
      have hnd3 : Blk W3 W1.heap.size 292 #[.bool false, .slice (some ⟨g1, 0, none⟩) cs.length tc1] := by rw [hW3]; exact (Blk.new W1 _ _).alloc _
      have hst3 : Blk W3 (W1.heap.size + 1) 294 #[.int .i64 q, .bool false, .slice (some ⟨g1, 0, none⟩) cs.length tc1, .int .i64 0] := by
        rw [hW3]
        have := Blk.new (W1.alloc (.cells #[.bool false, .slice (some ⟨g1, 0, none⟩) cs.length tc1] 292)) 294 #[.int .i64 q, .bool false, .slice (some ⟨g1, 0, none⟩) cs.length tc1, .int .i64 0]
        simpa using this
      have hO13 := row_of HO1'.out (w' := W3) (fun b hb => hb3.block b (HO1'.out.lt b hb).2)
      have HBL := hid (below_any (w := W3) (leaf := false) (l := cs.map Ch.en) hmay.2 (v := .slice (some ⟨g1, 0, none⟩) cs.length tc1) (by
        have h8 := hO13
        rw [← hlm] at h8 ⊢
        exact EnI.of_own h8) (by
        have h9 := HN.out.1.2.2
        have : ∀ l : List En, 7 * l.length ≤ nB l := fun l => by
          induction l with
          | nil => simp
          | cons x t ih => simp [enB]; omega
        have := this (cs.map Ch.en)
        simp only at h9
        omega) k)
      rw [belowN_eq, ← hLl] at HBL
      unfold ndV at HBL
      have HO13 := hid hO13
      have HND := hid hnd3
      have HST := hid hst3
      have HB3 := hid hb3
      have HS3 := hid hs3
      have HW3 := hid hW3
      clear hlm hspl hLl hck hcR hcf hco hcr hcsn hmay hO13 hnd3 hst3 hb3 hs3 hW3
      go_wp2_with fail
      rw [← HW3.out]
      (with_reducible refine HBL.out.mono ?_)
      rintro e W4 ⟨rfl, hb4⟩
      have hst4 := HST.out.below hb4 HST.out.lt
      have hnd4 := HND.out.below hb4 HND.out.lt
      have hs4 := hb4.size
      have s0 : W4.cell? ⟨W1.heap.size + 1, 0, none⟩ = some (.int .i64 q) := hst4.cell 0
      have s1 : W4.cell? ⟨W1.heap.size + 1, 1, none⟩ = some (.bool false) := hst4.cell 1
      have s2 : W4.cell? ⟨W1.heap.size + 1, 2, none⟩ = some (.slice (some ⟨g1, 0, none⟩) cs.length tc1) := hst4.cell 2
      have s3 : W4.cell? ⟨W1.heap.size + 1, 3, none⟩ = some (.int .i64 0) := hst4.cell 3
      have sf := hst4.frozen 3
      have hlt4 := hst4.lt
      have HST4 := hid hst4
      have HND4 := hid hnd4
      have HB4 := hid hb4
      clear hst4 hnd4 hb4
      go_wp2_with (with_reducible refine stopAt .append rfl ?_)
      with_reducible refine goOn ?_
      have hst5 := HST4.out.set_ 3 (.int .i64 L.length)
      have hnd5 := HND4.out.far (p := ⟨W1.heap.size + 1, 3, none⟩) (by show W1.heap.size ≠ W1.heap.size + 1; omega) (.int .i64 L.length)
      obtain ⟨W5, hW5⟩ : ∃ W5, W5 = W4.setCell ⟨W1.heap.size + 1, 3, none⟩ (.int .i64 L.length) := ⟨_, rfl⟩
      have hb5 : Below W1.heap.size W1 W5 := by
        rw [hW5]
        exact (HB3.out.trans (HB4.out.mono (by have := HS3.out; omega))).setCell (p := ⟨W1.heap.size + 1, 3, none⟩) (by show W1.heap.size ≤ W1.heap.size + 1; omega) _
      have hs5 : W5.heap.size = W4.heap.size := by rw [hW5]; simp [World.setCell]
      rw [← hW5] at hst5 hnd5 ⊢
      rw [← hs5]
      have HW3' := hid ((HWR.out.of_blocks (w' := W5) (fun b _ hlt => hb5.block b hlt)).of_blocks (w' := W5.alloc (.cells #[.int .i64 q, .bool false, .slice (some ⟨g1, 0, none⟩) cs.length tc1, .int .i64 L.length] 294)) (fun b _ hlt => Below.heap_alloc W5 _ b hlt))
      have hO5 := row_of HO1'.out (w' := W5) (fun b hb => hb5.block b (HO1'.out.lt b hb).2)
      have HO3 : Hid ((W5.alloc (.cells #[.int .i64 q, .bool false, .slice (some ⟨g1, 0, none⟩) cs.length tc1, .int .i64 L.length] 294)).ownsRow w.heap.size 299 3 (.slice (some ⟨g1, 0, none⟩) cs.length tc1) cs.length (rowV enC (cs.map Ch.en))) := hid ((own_base hO5 hwr).alloc _)
      refine wpList_append_own _ rfl _ _ 286 rfl w.heap.size 294 i0 (.agg #[.int .i64 0, .bool false, .slice none 0 0, .int .i64 0]) 4 48 Tryz.underlying286 hi0 hz0 hz1 hz2 rfl (by decide) _ _ _ rfl HW3'.out.own ⟨W5.heap.size, 0, none⟩ 1 1 (stC ⟨q, ⟨false, cs.map Ch.en⟩, .slice (some ⟨g1, 0, none⟩) cs.length tc1, L.length⟩) rfl rfl (news_of (Blk.new W5 294 (stC ⟨q, ⟨false, cs.map Ch.en⟩, .slice (some ⟨g1, 0, none⟩) cs.length tc1, L.length⟩).toArray)) (stC_one rfl) (by unfold maxLen; omega) (by omega) (by simp; omega) ?_
      intro v' W' hO' hgr0 _
      have hgr : (W5.alloc (.cells #[.int .i64 q, .bool false, .slice (some ⟨g1, 0, none⟩) cs.length tc1, .int .i64 L.length] 294)).grownBy W' (Value.slice tp sts.length tc).ownBlock := hgr0
      clear hgr0
      have hlm : (cs.map Ch.en).length = cs.length := by simp
      have hWW : WayI W' w.heap.size v' (sts ++ [⟨q, ⟨false, cs.map Ch.en⟩, .slice (some ⟨g1, 0, none⟩) cs.length tc1, L.length⟩]) := HW3'.out.push (by simp only; rw [hlm]; exact HO3.out) (by
        have := HNEW.out
        rw [hlm] at this
        exact this) hO' hgr
      have hkk : Kp O w W' := ((((hK.out.trans HK1.out).trans (Kp.of_below hb5)).alloc _)).grown hgr (fun g e => .inr (HW3'.out.own.lt g e).1)
      have notrow : ∀ b, some b = (Value.slice tp sts.length tc).ownBlock → b < wr.heap.size := fun b e => (hW.out.own.lt b e.symm).2
      have hpp : PoI W' P O pgs := HP1.out.of_blocks (fun b hb => by
        have h1 := HLO.out b hb
        refine (hgr.block b (by simp; omega) (fun e => by have := (HW3'.out.own.lt b e.symm).1; omega)).trans ((Below.heap_alloc W5 _ b (by omega)).trans (hb5.block b (by omega))))
      have hst6 : Blk W' (W1.heap.size + 1) 294 _ := (hst5.alloc _).grown hgr (fun e => by have := notrow _ e; omega)
      have hnd6 : Blk W' W1.heap.size 292 #[.bool false, .slice (some ⟨g1, 0, none⟩) cs.length tc1] := (hnd5.alloc _).grown hgr (fun e => by have := notrow _ e; omega)
      have hO6 : W'.ownsRow wr.heap.size 299 3 (.slice (some ⟨g1, 0, none⟩) cs.length tc1) cs.length (rowV enC (cs.map Ch.en)) := row_of (hO5.alloc _) (fun b hb => hgr.block b ((hO5.alloc _).lt b hb).2 (fun e => by
        have h1 := notrow _ e
        have h2 := (hO5.lt b hb).1
        omega))
      have u1 : W'.cell? ⟨W1.heap.size, 1, none⟩ = some (.slice (some ⟨g1, 0, none⟩) cs.length tc1) := hnd6.cell 1
      have u2 : W'.cell? ⟨W1.heap.size + 1, 3, none⟩ = some (.int .i64 L.length) := by rw [hst6.cell]; rfl
      obtain ⟨hspl, hLl, hck, hcR⟩ := HSP.out
      have hLlt : L.length < cs.length := by rw [hspl]; simp
      have hcget : (cs.map Ch.en)[L.length]? = some c.en := by rw [hspl]; simp
      have u3 : W'.cell? ⟨g1, L.length * 3 + 2, none⟩ = some (.int .i64 c.page) := own_at hO6 rfl (j := L.length * 3 + 2) (by rw [rowV_get enC_len _ L.length c.en hcget 2 (by omega)]; rfl)
      have hLz : (L.length : Int) < (cs.length : Int) := by omega
      have hg1w := (hO6.lt g1 rfl).2
      have hstw := hst6.lt
      have hndw := hnd6.lt
      obtain ⟨tp9, tc9, rfl⟩ := own_slice2 hO'
      have HWW := hid hWW
      have HKK := hid hkk
      have HPP := hid hpp
      clear hWW hkk hpp hgr hO' hb5 hO5 hO6 hst5 hnd5 hst6 hnd6 hlm hspl hLl hck hcR hLlt hcget s0 s1 s2 s3 sf hW5
      go_wp2
      go_roundg (dd' + 1)
      case measure => omega
      case rel =>
        obtain ⟨hspl, hLl, hck, hcR⟩ := HSP.out
        obtain ⟨hcf, hco, hcr⟩ := HCS.out
        obtain ⟨g1', g2', g3', g4', g5', g6', g7'⟩ := hC.out
        have hpsl := HN.out.2.2.2
        have hmem : ∀ x ∈ chEs cs, InB up x.key := g6'
        obtain ⟨j1, j2, j3, j4, j5⟩ := Ctx.down g1' hspl hcf HN.out.1 hco hcr hmem hck hcR g5'
        have hfnd : (⟨q, L, c.key, c.page, R⟩ : Fm).nd = ⟨false, cs.map Ch.en⟩ := by rw [hspl]; simp [Fm.nd, Fm.hole, Ch.en]
        refine ⟨sts ++ [⟨q, ⟨false, cs.map Ch.en⟩, .slice (some ⟨g1, 0, none⟩) cs.length tc1, L.length⟩], ⟨q, L, c.key, c.page, R⟩ :: up, dd', c.page, c.es, pre ++ chEs L, chEs R ++ post, c.ps, _, ?_, Nat.le_refl _, rfl, HKK, HPP, ?_, hid ?_, hid ⟨j1, j2, ?_, ?_, j4, j5, .inl j3⟩⟩
        · rw [List.length_cons]; omega
        · exact HWW
        · have := hF.out.snoc ⟨q, L, c.key, c.page, R⟩ (.slice (some ⟨g1, 0, none⟩) cs.length tc1)
          rw [hfnd] at this
          exact this
        · rw [g3', hspl]; simp
        · refine List.Perm.trans ?_ g4'
          rw [hpsl, hspl, List.perm_iff_count]
          intro z
          simp only [List.count_cons, List.count_append, List.cons_append, chPs_append, chPs_cons]
          omega
end
end Go.Proofs.YtnnghcooidjlhaaGreat
end
section
set_option linter.unusedSimpArgs false
set_option maxRecDepth 100000
namespace Go.Proofs.YtnnghcooidjlhaaGreat
open Go.RowKit Go.Lib
def BestTo (l : List En) (i : Nat) (best : Int) (at_ : Nat) : Prop :=
  (i = 1 ∧ best = -1 ∧ at_ = 1) ∨ (1 < i ∧ best = (apart l at_ : Nat) ∧ 0 < at_ ∧ at_ < i ∧ ∀ j, 0 < j → j < i → apart l at_ ≤ apart l j)
theorem BestTo.half {l : List En} {best : Int} {at_ : Nat} (h : BestTo l l.length best at_) (hn : 2 ≤ l.length) : HalfAt l at_ := by
  rcases h with ⟨h, _⟩ | ⟨_, _, h1, h2, h3⟩
  · omega
  · exact ⟨h1, h2, h3⟩
theorem BestTo.better {l : List En} {i at_ : Nat} {best : Int} (h : BestTo l i best at_) (hb : best < 0 ∨ (apart l i : Int) < best) : BestTo l (i + 1) (apart l i : Nat) i := by
  rcases h with ⟨rfl, h2, h3⟩ | ⟨h1, h2, h3, h4, h5⟩
  · exact .inr ⟨by omega, rfl, by omega, by omega, fun j hj hj2 => by have : j = 1 := by omega
                                                                      subst this; exact Nat.le_refl _⟩
  · refine .inr ⟨by omega, rfl, by omega, by omega, fun j hj hj2 => ?_⟩
    by_cases e : j = i
    · subst e; exact Nat.le_refl _
    · have := h5 j hj (by omega)
      omega
theorem BestTo.better' {l : List En} {i at_ : Nat} {best b : Int} (h : BestTo l i best at_) (hb : best < 0 ∨ (apart l i : Int) < best) (e : b = ((apart l i : Nat) : Int)) : BestTo l (i + 1) b i := by
  subst e; exact h.better hb
theorem BestTo.same {l : List En} {i at_ : Nat} {best : Int} (h : BestTo l i best at_) (hi : 0 < i) (hb : ¬ (best < 0 ∨ (apart l i : Int) < best)) : BestTo l (i + 1) best at_ := by
  rcases h with ⟨rfl, h2, h3⟩ | ⟨h1, h2, h3, h4, h5⟩
  · omega
  · refine .inr ⟨by omega, h2, h3, by omega, fun j hj hj2 => ?_⟩
    by_cases e : j = i
    · subst e; omega
    · exact h5 j hj (by omega)
theorem EnI.part {w : World} {g o : Nat} {l m : List En} (hg : g < w.heap.size) (h : EnAt w g o l) (i k c' : Nat) (hc : (l.drop i).take k = m) (hlen : m.length ≤ c') : EnI w (.slice (some ⟨g, o + i * 3, none⟩) m.length c') m := by
  refine ⟨_, c', rfl, hlen, fun g' o' e => ?_, fun _ => ⟨g, _, rfl⟩⟩
  injection e with e
  injection e with e1 e2 _
  subst e1 e2
  refine ⟨hg, fun j x hx => ?_⟩
  rw [← hc, List.getElem?_take] at hx
  split at hx
  · rw [List.getElem?_drop] at hx
    have := h (i + j) x hx
    have e : o + (i + j) * 3 = o + i * 3 + j * 3 := by omega
    rw [e] at this
    exact this
  · cases hx
theorem step_app {ops : Array Oper} {o : Oper} {a : Act} {W : World} {K : Act → World → Prop} {Q : Exit → Act → World → Prop} {E : Prop} (hgd : o.guard = none) (s x : Operand)
    (ho : o.op = .call { callee := .builtin .append, args := #[s, x], argTypes := #[290, 290] }) (hs : a.eval s = .slice none 0 0) (ad : Addr) (m c : Nat) (hx : a.eval x = .slice (some ad) m c)
    (l : List En) (hl : l.length = m) (hm : 0 < m) (hm2 : m ≤ 1000) (B : Nat) (hB : B ≤ W.heap.size) (hnews : ∀ (j : Nat) u, (rowV enC l)[j]? = some u → W.cell? (ad.add j) = some u)
    (h : ∀ g cap w', w'.ownsRow B 299 3 (.slice (some ⟨g, 0, none⟩) m cap) m (rowV enC l) → Below W.heap.size W w' → g = W.heap.size → g < w'.heap.size → K (a.put o.dst (.slice (some ⟨g, 0, none⟩) m cap)) w') :
    if Region.wanted o (yielded ops a.tmps) = true then Oper.wp Tryz.prog o a W K Q else E := by
  obtain ⟨i0, hi0, hz0, hz1, hz2⟩ := info_parts infEn
  refine step_append_lies (P := Tryz.prog) W hgd s x 290 ho B 299 i0 (.agg #[.string ⟨#[]⟩, .string ⟨#[]⟩, .int .i64 0]) 3 40 Tryz.underlying290 hi0 hz0 hz1 hz2 rfl (by decide) (.slice none 0 0) 0 [] hs (World.ownsRow_nil _ _ _ _) ad m c (rowV enC l) hx
    (by rw [rowV_length enC_len, hl]) hnews (fun u hu => rowV_oneE u hu) hm (by unfold maxLen; omega) (by omega) hB W.heap.size rfl ?_
  intro g cap w' h1 h2 h3 h4
  rw [Nat.zero_add, List.nil_append] at h1
  rw [Nat.zero_add]
  have hg : g = W.heap.size := by
    rcases h3 with h3 | h3
    · cases h3
    · exact h3
  exact h g cap w' h1 (⟨h2.os, h2.tape, h2.output, h2.size, fun b hb => h2.block b hb (by simp [Value.ownBlock])⟩) hg h4
theorem cs_ne {W : World} {b i : Nat} {v : Value} {p : Addr} (h : W.cell? ⟨b, i, none⟩ = some v) (hne : b ≠ p.block) (u : Value) : (W.setCell p u).cell? ⟨b, i, none⟩ = some v :=
  (World.cell?_of_block (a := ⟨b, i, none⟩) (Below.heap_setCell W p u b hne)).trans h
set_option maxHeartbeats 4000000 in
theorem halves_any {w : World} {n : Nd} {v : Value} (hv : EnI w v n.l) (hn : 2 ≤ n.l.length) (hn2 : n.l.length ≤ 900) (hb : ∀ x ∈ n.l, enB x ≤ 79) :
    Calls Tryz.prog 203 #[ndV n.leaf v] w fun e w' => ∃ i v1 v2, HalfAt n.l i ∧ e = .returned (.tuple #[ndV n.leaf v1, ndV n.leaf v2]) ∧ w'.ownsRow w.heap.size 299 3 v1 i (rowV enC (n.l.take i)) ∧ w'.ownsRow w.heap.size 299 3 v2 (n.l.length - i) (rowV enC (n.l.drop i)) ∧
      (∀ g, v1.ownBlock = some g → v2.ownBlock ≠ some g) ∧ Below w.heap.size w w' := by
  obtain ⟨lf, l⟩ := n
  simp only at hv hn hn2 hb ⊢
  obtain ⟨g, o, c, rfl, hc, hg, hE⟩ := hv.form (by intro e; rw [e] at hn; simp at hn)
  have HBY := hid (fun (W : World) (hW : Below w.heap.size w W) => bytes_any (w := W) (hv.below hW) (by omega) (fun x hx => by have := hb x hx; omega))
  have HE := hid hE
  have HBB := hid hb
  have hle : ∀ i, nB (l.take i) ≤ 79 * i := fun i => by
    induction i with
    | zero => simp
    | succ i ih =>
      by_cases h : i < l.length
      · have := nB_take_succ l i h
        have := hb l[i] (List.getElem_mem h)
        omega
      · rw [List.take_of_length_le (by omega)]
        rw [List.take_of_length_le (by omega)] at ih
        omega
  have hall : nB l ≤ 79 * 900 := by
    have := hle l.length
    rw [List.take_length] at this
    omega
  have HLE := hid hle
  have HALL := hid hall
  have HN := hid (⟨hn, hn2, hc⟩ : 2 ≤ l.length ∧ l.length ≤ 900 ∧ l.length ≤ c)
  have HMIN : ((1 : Int) ≤ (l.length : Int)) := by omega
  clear hv hE hb hle
  unfold ndV
  go_enter Tryz.func203, Tryz.ntmps203
  go_wp2_with fail
  (with_reducible refine (HBY.out _ ((((Below.refl _ w).alloc (Nat.le_refl _) _).alloc (by simp) _).alloc (by simp; omega) _)).mono ?_)
  rintro e W1 ⟨rfl, hb1⟩
  have hb1' : Below w.heap.size w W1 := ((((Below.refl _ w).alloc (Nat.le_refl _) _).alloc (by simp) _).alloc (by simp; omega) _).trans (hb1.mono (by simp; omega))
  have hN1 : Blk W1 w.heap.size 292 #[.bool lf, .slice (some ⟨g, o, none⟩) l.length c] := (((Blk.new w _ _).alloc _).alloc _).below hb1 (by simp; omega)
  have hA1 : Blk W1 (w.heap.size + 1) 292 #[.bool false, .slice none 0 0] := by
    have := (Blk.new (w.alloc (.cells #[.bool lf, .slice (some ⟨g, o, none⟩) l.length c] 292)) 292 #[.bool false, .slice none 0 0]).alloc (.cells #[.bool false, .slice none 0 0] 292)
    have := this.below hb1 (by simp)
    simpa using this
  have hA2 : Blk W1 (w.heap.size + 1 + 1) 292 #[.bool false, .slice none 0 0] := by
    have := Blk.new ((w.alloc (.cells #[.bool lf, .slice (some ⟨g, o, none⟩) l.length c] 292)).alloc (.cells #[.bool false, .slice none 0 0] 292)) 292 #[.bool false, .slice none 0 0]
    have := this.below hb1 (by simp)
    simpa using this
  have n0 : W1.cell? ⟨w.heap.size, 0, none⟩ = some (.bool lf) := hN1.cell 0
  have n1 : W1.cell? ⟨w.heap.size, 1, none⟩ = some (.slice (some ⟨g, o, none⟩) l.length c) := hN1.cell 1
  have hlt1 := hN1.lt
  have HN1 := hid hN1
  have HA1 := hid hA1
  have HA2 := hid hA2
  have HB1 := hid hb1'
  clear hb1 hb1' hN1 hA1 hA2
  go_wp2
  go_quiet (fail)
  go_wp2
  go_loopg [5, 6, 7, 8] l.length (fun gg s5 s6 s7 s8 wr => ∃ (i at_ : Nat) (best : Int), 1 ≤ i ∧ i ≤ l.length ∧ l.length - i ≤ gg ∧ s8 = .int .i64 i ∧ s7 = .int .i64 (nB (l.take (i - 1))) ∧ s5 = .int .i64 best ∧ s6 = .int .i64 at_ ∧ Hid (BestTo l i best at_ ∧ -1 ≤ best ∧ best ≤ 1000000) ∧ Hid (Below W1.heap.size W1 wr))
  case atStart => exact ⟨1, 1, -1, by omega, by omega, by omega, rfl, rfl, rfl, rfl, hid ⟨.inl ⟨rfl, rfl, rfl⟩, by omega, by omega⟩, hid (below_drewN (Below.refl _ W1) _)⟩
  case round =>
    obtain ⟨i, at_, best, hi1, hi, hgg, rfl, rfl, rfl, rfl, hBest, hB⟩ := hrel
    have k0 : wr.cell? ⟨w.heap.size, 0, none⟩ = some (.bool lf) := (hB.out.cell (p := ⟨w.heap.size, 0, none⟩) hlt1).trans n0
    have k1 : wr.cell? ⟨w.heap.size, 1, none⟩ = some (.slice (some ⟨g, o, none⟩) l.length c) := (hB.out.cell (p := ⟨w.heap.size, 1, none⟩) hlt1).trans n1
    have hsz := hB.out.size
    have hkw : w.heap.size < wr.heap.size := by omega
    have hB2 : Below w.heap.size w wr := HB1.out.trans (hB.out.mono (by omega))
    have HB2 := hid hB2
    have hgw : g < wr.heap.size := Nat.lt_of_lt_of_le hg hB2.size
    have hEw : EnAt wr g o l := fun j x hx => by
      obtain ⟨a, b, d⟩ := HE.out j x hx
      exact ⟨(hB2.cell (p := ⟨g, _, none⟩) hg).trans a, (hB2.cell (p := ⟨g, _, none⟩) hg).trans b, (hB2.cell (p := ⟨g, _, none⟩) hg).trans d⟩
    clear hB2
    by_cases hlt : i < l.length
    · have hltz : (i : Int) < (l.length : Int) := by omega
      obtain ⟨x, hx⟩ : ∃ x, l[i - 1]? = some x := ⟨_, List.getElem?_eq_getElem (by omega)⟩
      have hone : (l.drop (i - 1)).take 1 = [x] := by
        obtain ⟨h1, h2⟩ := List.getElem?_eq_some_iff.1 hx
        rw [List.drop_eq_getElem_cons h1, h2]; rfl
      have hpart := EnI.part hgw hEw (i - 1) 1 (c - (i - 1)) hone (by simp; omega)
      have hbx0 := (bytes_any (w := wr) hpart (by simp) (fun y hy => by
        rw [List.mem_singleton.1 hy]
        have := HBB.out x (List.mem_of_getElem? hx)
        omega))
      have hnb1 : nB [x] = enB x := by simp
      rw [hnb1, show ([x] : List En).length = 1 from rfl] at hbx0
      have HBX := hid hbx0
      clear hbx0
      have hs : nB (l.take i) = nB (l.take (i - 1)) + enB x := by
        obtain ⟨h1, h2⟩ := List.getElem?_eq_some_iff.1 hx
        have := nB_take_succ l (i - 1) h1
        rw [h2, show i - 1 + 1 = i by omega] at this
        exact this
      have hbd := HLE.out i
      have hex : enB x ≤ 79 := HBB.out x (List.mem_of_getElem? hx)
      obtain ⟨A, hA⟩ : ∃ A, A = nB l := ⟨_, rfl⟩
      obtain ⟨Lp, hLp⟩ : ∃ Lp, Lp = nB (l.take (i - 1)) := ⟨_, rfl⟩
      obtain ⟨ex, hexx⟩ : ∃ ex, ex = enB x := ⟨_, rfl⟩
      have hap : ((apart l i : Nat) : Int) = max (2 * ((Lp + ex : Nat) : Int) - (A : Int)) ((A : Int) - 2 * ((Lp + ex : Nat) : Int)) := by
        unfold apart
        rw [hs, ← hLp, ← hexx, ← hA]
        omega
      have HAP := hid hap
      have HS := hid hs
      rw [← hexx] at HBX
      rw [← hLp, ← hA]
      rw [← hLp, ← hexx] at hs
      have hbp := HLE.out (i - 1)
      rw [← hLp] at hbp
      rw [← hexx] at hex
      have hAl := HALL.out
      rw [← hA] at hAl
      clear hx hone hpart hnb1 hs hap hEw
      have h11 : i - (i - 1) = 1 := by omega
      have w1 : IntKind.i64.wrap ((Lp : Int) + (ex : Int)) = (Lp : Int) + (ex : Int) := by rw [IntKind.wrap_i64]; omega
      have w2 : IntKind.i64.wrap ((A : Int) - ((Lp : Int) + (ex : Int))) = (A : Int) - ((Lp : Int) + (ex : Int)) := by rw [IntKind.wrap_i64]; omega
      have w3 : IntKind.i64.wrap ((Lp : Int) + (ex : Int) - ((A : Int) - ((Lp : Int) + (ex : Int)))) = (Lp : Int) + (ex : Int) - ((A : Int) - ((Lp : Int) + (ex : Int))) := by rw [IntKind.wrap_i64]; omega
      have w4 : IntKind.i64.wrap ((A : Int) - ((Lp : Int) + (ex : Int)) - ((Lp : Int) + (ex : Int))) = (A : Int) - ((Lp : Int) + (ex : Int)) - ((Lp : Int) + (ex : Int)) := by rw [IntKind.wrap_i64]; omega
      go_wp2_with fail
      (with_reducible refine HBX.out.mono ?_)
      rintro e W2 ⟨rfl, hb2⟩
      have HB3 := hid hb2
      clear hb2
      have hbb := hBest.out.2
      have hap2 := HAP.out
      have hs7 : nB (l.take (i + 1 - 1)) = nB (l.take (i - 1)) + enB x := by rw [Nat.add_sub_cancel]; exact HS.out
      have HS7 := hid hs7
      have HAP2 : Hid (((apart l i : Nat) : Int) = max (2 * ((nB (l.take (i - 1)) + enB x : Nat) : Int) - (nB l : Int)) ((nB l : Int) - 2 * ((nB (l.take (i - 1)) + enB x : Nat) : Int)) ∧ nB (l.take (i - 1)) + enB x ≤ 71179 ∧ nB l ≤ 71100) := hid ⟨by rw [hap2, hLp, hexx, hA], by omega, by omega⟩
      clear hap2 hs7
      go_wp2_with fail
      all_goals
        go_roundg (l.length - (i + 1))
        case measure => omega
        case rel =>
          obtain ⟨ha1, ha2, ha3⟩ := HAP2.out
          first
            | (refine ⟨i + 1, i, _, by omega, by omega, by omega, by go_num, ?_, rfl, rfl, hid ⟨?_, ?_, ?_⟩, hid (hB.out.trans (HB3.out.mono hsz))⟩
               · rw [HS7.out]; simp
               · refine hBest.out.1.better' ?_ ?_
                 · omega
                 · omega
               · omega
               · omega)
            | (refine ⟨i + 1, at_, best, by omega, by omega, by omega, by go_num, ?_, rfl, rfl, hid ⟨hBest.out.1.same hi1 ?_, hbb.1, hbb.2⟩, hid (hB.out.trans (HB3.out.mono hsz))⟩
               · rw [HS7.out]; simp
               · omega)
    · have hil : i = l.length := by omega
      subst hil
      have HH := hid (hBest.out.1.half hn)
      have ha0 := HH.out.1
      have han := HH.out.2.1
      obtain ⟨i0, hi0, hz0, hz1, hz2⟩ := info_parts infEn
      have hA1 := HA1.out.below hB.out HA1.out.lt
      have hA2 := HA2.out.below hB.out HA2.out.lt
      have hlz : ((at_ : Int) ≤ (l.length : Int)) := by omega
      have hnews1 : ∀ (j : Nat) u, (rowV enC (l.take at_))[j]? = some u → wr.cell? ⟨g, o + j, none⟩ = some u := fun j u hj => enAt_row hEw j u (by rw [row_split l at_, List.getElem?_append_left (List.getElem?_eq_some_iff.1 hj).1]; exact hj)
      have hnews2 : ∀ (j : Nat) u, (rowV enC (l.drop at_))[j]? = some u → wr.cell? ⟨g, o + at_ * 3 + j, none⟩ = some u := fun j u hj => by
        have := enAt_row hEw (at_ * 3 + j) u (by rw [row_split l at_, List.getElem?_append_right (by rw [row_take_len l at_ (by omega)]; omega), row_take_len l at_ (by omega), Nat.add_sub_cancel_left]; exact hj)
        rwa [← Nat.add_assoc] at this
      have HN1' := hid hnews1
      have HN2' := hid hnews2
      have HL1 := hid (row_take_len l at_ (by omega))
      have HL2 := hid (row_drop_len l at_)
      have r0 : wr.cell? ⟨w.heap.size + 1, 0, none⟩ = some (.bool false) := hA1.cell 0
      have r1 : wr.cell? ⟨w.heap.size + 1, 1, none⟩ = some (.slice none 0 0) := hA1.cell 1
      have r2 : wr.cell? ⟨w.heap.size + 1 + 1, 0, none⟩ = some (.bool false) := hA2.cell 0
      have r3 : wr.cell? ⟨w.heap.size + 1 + 1, 1, none⟩ = some (.slice none 0 0) := hA2.cell 1
      have HA1' := hid hA1
      have HA2' := hid hA2
      have hs1 := hA1.lt
      have hs2 := hA2.lt
      have HEQ : Hid (¬ (c = at_)) := hid (by omega)
      have hceq : ¬ (c = at_) := by omega
      have hcz : (at_ : Int) ≤ (c : Int) := by omega
      clear hnews1 hnews2 hA1 hA2 hEw hgg
      have HNA : Hid (∀ W, Below wr.heap.size wr W → ∀ (j : Nat) u, (rowV enC (l.take at_))[j]? = some u → W.cell? ((⟨g, o, none⟩ : Addr).add j) = some u) := hid fun W hW j u hj => by
        rw [Addr.add_lit]
        exact (hW.cell (p := ⟨g, o + j, none⟩) hgw).trans (HN1'.out j u hj)
      have HNB : Hid (∀ W, Below wr.heap.size wr W → ∀ (j : Nat) u, (rowV enC (l.drop at_))[j]? = some u → W.cell? ((⟨g, o + at_ * 3, none⟩ : Addr).add j) = some u) := hid fun W hW j u hj => by
        rw [Addr.add_lit]
        exact (hW.cell (p := ⟨g, o + at_ * 3 + j, none⟩) hgw).trans (HN2'.out j u hj)
      have HBS : Hid (∀ W, Below wr.heap.size wr W → w.heap.size ≤ W.heap.size) := hid fun W hW => by have := hW.size; omega
      have HT1 : Hid ((l.take at_).length = at_) := hid (by rw [List.length_take]; omega)
      have HT2 : Hid ((l.drop at_).length = l.length - at_) := hid (by rw [List.length_drop])
      have HT3 : Hid (at_ ≤ 1000) := hid (by omega)
      have HT4 : Hid (0 < l.length - at_) := hid (by omega)
      have HT5 : Hid (l.length - at_ ≤ 1000) := hid (by omega)
      have hne1 : w.heap.size ≠ w.heap.size + 1 := by omega
      have hne2 : w.heap.size ≠ w.heap.size + 1 + 1 := by omega
      go_wp2_with fail
      go_region_held3 (fun W => W.cell? ⟨w.heap.size, 0, none⟩ = some (.bool lf) ∧ W.cell? ⟨w.heap.size, 1, none⟩ = some (.slice (some ⟨g, o, none⟩) l.length c)) (first | with_reducible exact ⟨k0, k1⟩ | with_reducible exact ⟨q2, q3⟩ | with_reducible exact ⟨q0, q1⟩ | with_reducible exact ⟨cs_ne (cs_ne q2 hne1 _) hne1 _, cs_ne (cs_ne q3 hne1 _) hne1 _⟩ | with_reducible exact ⟨cs_ne (cs_ne q2 hne2 _) hne2 _, cs_ne (cs_ne q3 hne2 _) hne2 _⟩ | with_reducible exact ⟨cs_ne (cs_ne (cs_ne (cs_ne q2 hne1 _) hne1 _) hne2 _) hne2 _, cs_ne (cs_ne (cs_ne (cs_ne q3 hne1 _) hne1 _) hne2 _) hne2 _⟩ | with_reducible exact ⟨cs_ne (cs_ne (cs_ne (cs_ne q2 hne2 _) hne2 _) hne1 _) hne1 _, cs_ne (cs_ne (cs_ne (cs_ne q3 hne2 _) hne2 _) hne1 _) hne1 _⟩ | go_keep) (first
        | (refine step_app rfl _ _ rfl ?hs (⟨g, o, none⟩ : Addr) at_ at_ ?hx (l.take at_) HT1.out ha0 HT3.out w.heap.size ?hb ?hn ?_; (case hs => simp [Act.eval, Act.put]); (case hx => simp [Act.eval, Act.put]); (case hb => exact (HBS.out _ hB1)); (case hn => exact (HNA.out _ hB1)); intro g2 cap2 w2 hown2 hbel2 hg2 hlt2; have hB2 : Below wr.heap.size wr w2 := hB1.trans (hbel2.mono hB1.size); have q2 : w2.cell? ⟨w.heap.size, 0, none⟩ = some (.bool lf) := (hB2.cell hkw).trans k0; have q3 : w2.cell? ⟨w.heap.size, 1, none⟩ = some (.slice (some ⟨g, o, none⟩) l.length c) := (hB2.cell hkw).trans k1; have e0 : w2.cell? ⟨w.heap.size + 1, 0, none⟩ = some (.bool false) := (hB2.cell hs1).trans r0; have e1 : w2.cell? ⟨w.heap.size + 1, 1, none⟩ = some (.slice none 0 0) := (hB2.cell hs1).trans r1; have e2 : w2.cell? ⟨w.heap.size + 1 + 1, 0, none⟩ = some (.bool false) := (hB2.cell hs2).trans r2; have e3 : w2.cell? ⟨w.heap.size + 1 + 1, 1, none⟩ = some (.slice none 0 0) := (hB2.cell hs2).trans r3; have f0 := (HA1'.out.below hB2 hs1).frozen 0; have f1 := (HA1'.out.below hB2 hs1).frozen 1; have f2 := (HA2'.out.below hB2 hs2).frozen 0; have f3 := (HA2'.out.below hB2 hs2).frozen 1; have hs1w := Nat.lt_of_lt_of_le hs1 hB2.size; have hs2w := Nat.lt_of_lt_of_le hs2 hB2.size; have HOW2 := hid hown2; have HG2 := hid hg2; have HBL2 := hid hbel2; clear hown2 hg2 hbel2)
        | (refine step_app rfl _ _ rfl ?hs (⟨g, o + at_ * 3, none⟩ : Addr) (l.length - at_) (c - at_) ?hx (l.drop at_) HT2.out HT4.out HT5.out w.heap.size ?hb ?hn ?_; (case hs => simp [Act.eval, Act.put]); (case hx => simp [Act.eval, Act.put]); (case hb => exact (HBS.out _ hB1)); (case hn => exact (HNB.out _ hB1)); intro g2 cap2 w2 hown2 hbel2 hg2 hlt2; have hB2 : Below wr.heap.size wr w2 := hB1.trans (hbel2.mono hB1.size); have q2 : w2.cell? ⟨w.heap.size, 0, none⟩ = some (.bool lf) := (hB2.cell hkw).trans k0; have q3 : w2.cell? ⟨w.heap.size, 1, none⟩ = some (.slice (some ⟨g, o, none⟩) l.length c) := (hB2.cell hkw).trans k1; have e0 : w2.cell? ⟨w.heap.size + 1, 0, none⟩ = some (.bool false) := (hB2.cell hs1).trans r0; have e1 : w2.cell? ⟨w.heap.size + 1, 1, none⟩ = some (.slice none 0 0) := (hB2.cell hs1).trans r1; have e2 : w2.cell? ⟨w.heap.size + 1 + 1, 0, none⟩ = some (.bool false) := (hB2.cell hs2).trans r2; have e3 : w2.cell? ⟨w.heap.size + 1 + 1, 1, none⟩ = some (.slice none 0 0) := (hB2.cell hs2).trans r3; have f0 := (HA1'.out.below hB2 hs1).frozen 0; have f1 := (HA1'.out.below hB2 hs1).frozen 1; have f2 := (HA2'.out.below hB2 hs2).frozen 0; have f3 := (HA2'.out.below hB2 hs2).frozen 1; have hs1w := Nat.lt_of_lt_of_le hs1 hB2.size; have hs2w := Nat.lt_of_lt_of_le hs2 hB2.size; have HOW2 := hid hown2; have HG2 := hid hg2; have HBL2 := hid hbel2; clear hown2 hg2 hbel2)
        | (refine step_app rfl _ _ rfl ?hs (⟨g, o, none⟩ : Addr) at_ at_ ?hx (l.take at_) HT1.out ha0 HT3.out w.heap.size ?hb ?hn ?_; (case hs => simp [Act.eval, Act.put]); (case hx => simp [Act.eval, Act.put]); (case hb => exact (HBS.out _ (below_drewN (Below.refl wr.heap.size wr) 1))); (case hn => exact (HNA.out _ (below_drewN (Below.refl wr.heap.size wr) 1))); intro g1 cap1 w1 hown1 hbel1 hg1 hlt1; have hB1 : Below wr.heap.size wr w1 := (below_drewN (Below.refl wr.heap.size wr) 1).trans hbel1; have q0 : w1.cell? ⟨w.heap.size, 0, none⟩ = some (.bool lf) := (hB1.cell hkw).trans k0; have q1 : w1.cell? ⟨w.heap.size, 1, none⟩ = some (.slice (some ⟨g, o, none⟩) l.length c) := (hB1.cell hkw).trans k1; have HOW1 := hid hown1; have HG1 := hid hg1; clear hown1 hg1 hbel1)
        | (refine step_app rfl _ _ rfl ?hs (⟨g, o + at_ * 3, none⟩ : Addr) (l.length - at_) (c - at_) ?hx (l.drop at_) HT2.out HT4.out HT5.out w.heap.size ?hb ?hn ?_; (case hs => simp [Act.eval, Act.put]); (case hx => simp [Act.eval, Act.put]); (case hb => exact (HBS.out _ (below_drewN (Below.refl wr.heap.size wr) 1))); (case hn => exact (HNB.out _ (below_drewN (Below.refl wr.heap.size wr) 1))); intro g1 cap1 w1 hown1 hbel1 hg1 hlt1; have hB1 : Below wr.heap.size wr w1 := (below_drewN (Below.refl wr.heap.size wr) 1).trans hbel1; have q0 : w1.cell? ⟨w.heap.size, 0, none⟩ = some (.bool lf) := (hB1.cell hkw).trans k0; have q1 : w1.cell? ⟨w.heap.size, 1, none⟩ = some (.slice (some ⟨g, o, none⟩) l.length c) := (hB1.cell hkw).trans k1; have HOW1 := hid hown1; have HG1 := hid hg1; clear hown1 hg1 hbel1))
      go_wp2
      have hP1 := ((((HA1'.out.below hB2 hs1).set_ 0 (.bool lf)).set_ 1 (.slice (some ⟨g1, 0, none⟩) at_ cap1)).far (p := ⟨w.heap.size + 1 + 1, 0, none⟩) (by show w.heap.size + 1 ≠ w.heap.size + 1 + 1; omega) (.bool lf)).far (p := ⟨w.heap.size + 1 + 1, 1, none⟩) (by show w.heap.size + 1 ≠ w.heap.size + 1 + 1; omega) (.slice (some ⟨g2, 0, none⟩) (l.length - at_) cap2)
      have hP2 := ((((HA2'.out.below hB2 hs2).far (p := ⟨w.heap.size + 1, 0, none⟩) (by show w.heap.size + 1 + 1 ≠ w.heap.size + 1; omega) (.bool lf)).far (p := ⟨w.heap.size + 1, 1, none⟩) (by show w.heap.size + 1 + 1 ≠ w.heap.size + 1; omega) (.slice (some ⟨g1, 0, none⟩) at_ cap1)).set_ 0 (.bool lf)).set_ 1 (.slice (some ⟨g2, 0, none⟩) (l.length - at_) cap2)
      obtain ⟨w3, hw3⟩ : ∃ w3, w3 = (((w2.setCell ⟨w.heap.size + 1, 0, none⟩ (.bool lf)).setCell ⟨w.heap.size + 1, 1, none⟩ (.slice (some ⟨g1, 0, none⟩) at_ cap1)).setCell ⟨w.heap.size + 1 + 1, 0, none⟩ (.bool lf)).setCell ⟨w.heap.size + 1 + 1, 1, none⟩ (.slice (some ⟨g2, 0, none⟩) (l.length - at_) cap2) := ⟨_, rfl⟩
      have hb3 : Below w.heap.size w w3 := by
        rw [hw3]
        exact ((((HB2.out.trans (hB2.mono (by omega))).setCell (p := ⟨w.heap.size + 1, 0, none⟩) (by show w.heap.size ≤ _; simp) _).setCell (p := ⟨w.heap.size + 1, 1, none⟩) (by show w.heap.size ≤ _; simp) _).setCell (p := ⟨w.heap.size + 1 + 1, 0, none⟩) (by show w.heap.size ≤ w.heap.size + 1 + 1; omega) _).setCell (p := ⟨w.heap.size + 1 + 1, 1, none⟩) (by show w.heap.size ≤ w.heap.size + 1 + 1; omega) _
      have hkeep : ∀ b, b ≠ w.heap.size + 1 → b ≠ w.heap.size + 1 + 1 → w3.heap[b]? = w2.heap[b]? := fun b h1 h2 => by
        rw [hw3, Below.heap_setCell _ ⟨w.heap.size + 1 + 1, 1, none⟩ _ b h2, Below.heap_setCell _ ⟨w.heap.size + 1 + 1, 0, none⟩ _ b h2, Below.heap_setCell _ ⟨w.heap.size + 1, 1, none⟩ _ b h1, Below.heap_setCell _ ⟨w.heap.size + 1, 0, none⟩ _ b h1]
      rw [← hw3] at hP1 hP2
      have z0 := hP1.cell 0
      have z1 := hP1.cell 1
      have z2 := hP2.cell 0
      have z3 := hP2.cell 1
      simp only [List.setIfInBounds_toArray, List.set_cons_zero, List.set_cons_succ, List.getElem?_toArray, List.getElem?_cons_zero, List.getElem?_cons_succ] at z0 z1 z2 z3
      have hg1v : g1 = wr.heap.size := HG1.out
      have hg2v : g2 = w1.heap.size := HG2.out
      have hsw1 := hB1.size
      have hg1lt : g1 < w1.heap.size := (HOW1.out.lt g1 rfl).2
      rw [← hw3]
      refine bodyPost_ret (v := .tuple #[.agg #[.bool lf, .slice (some ⟨g1, 0, none⟩) at_ cap1], .agg #[.bool lf, .slice (some ⟨g2, 0, none⟩) (l.length - at_) cap2]]) (by simp [results, Tryz.results203, go_sem, z0, z1, z2, z3]) rfl ⟨at_, _, _, HH.out, rfl, ?_, ?_, ?_, hb3⟩
      · refine row_of (row_of HOW1.out (w' := w2) (fun b hb => HBL2.out.block b (HOW1.out.lt b hb).2)) (fun b hb => ?_)
        have e : b = g1 := by
          have : some g1 = some b := hb
          injection this with this; exact this.symm
        exact hkeep b (by omega) (by omega)
      · refine row_of HOW2.out (fun b hb => ?_)
        have e : b = g2 := by
          have : some g2 = some b := hb
          injection this with this; exact this.symm
        exact hkeep b (by omega) (by omega)
      · intro b hb hb2
        have e1 : some g1 = some b := hb
        have e2 : some g2 = some b := hb2
        injection e1 with e1
        injection e2 with e2
        omega
end Go.Proofs.YtnnghcooidjlhaaGreat
end
section
set_option linter.unusedSimpArgs false
set_option maxRecDepth 100000
namespace Go.Proofs.YtnnghcooidjlhaaGreat
open Go.RowKit Go.Lib
theorem pg_new {pgs : List (Option Bs)} {q : Nat} {b : Bs} (h1 : q ≤ pgs.length) : pg (newAt pgs q b) = upd (pg pgs) q (some b) := by
  funext r
  unfold pg upd
  rw [newAt_get h1]
  by_cases e : r = q
  · subst e; simp
  · rw [if_neg e, if_neg e]
theorem pg_free {pgs : List (Option Bs)} {q : Nat} (h : pgs[q]? = some none ∨ q = pgs.length) : pg pgs q = none := pg_none.2 (h.imp id (fun e => by omega))
theorem newAt_len {pgs : List (Option Bs)} {q : Nat} {b : Bs} (h1 : q ≤ pgs.length) : q < (newAt pgs q b).length := by
  have := (List.getElem?_eq_some_iff.1 (show (newAt pgs q b)[q]? = some (some b) by rw [newAt_get h1]; simp)).1
  exact this
theorem somes_new {pgs : List (Option Bs)} {q : Nat} {b : Bs} (h : pgs[q]? = some none ∨ q = pgs.length) : somes (newAt pgs q b) = somes pgs + 1 := by
  unfold newAt
  rcases h with h | h
  · have hlt := (List.getElem?_eq_some_iff.1 h).1
    rw [if_pos hlt, somes_set_some pgs q b h]
  · rw [if_neg (by omega), somes_snoc]
theorem Gr.notin {O O' : List Nat} {n b : Nat} (h : Gr O n O') (hb : b < n) (ho : b ∉ O) : b ∉ O' := h.out hb ho
theorem infNd : True := trivial
section
variable {w : World} {P : PL} {O : List Nat} {pgs : List (Option Bs)} {tb : Nat}
set_option maxHeartbeats 4000000 in
theorem grow_any (ht : TrI w P tb) (hto : tb ∉ O) (hp : PoI w P O pgs) {a b : Nd} {va vb : Value} {x : En} {t : List En} (ha : mayN (strip a)) (hva : EnI w va a.l) (hva2 : ∀ g, va.ownBlock = some g → g ∉ O) (hal : a.l.length ≤ 900) (haf : nB (strip a).l ≤ 223)
    (hb : mayN (strip b)) (hvb : EnI w vb b.l) (hvb2 : ∀ g, vb.ownBlock = some g → g ∉ O) (hbl : b.l.length ≤ 900) (hbf : nB (strip b).l ≤ 223) (hx : b.l = x :: t) {b0 : Bs} (h0 : pg pgs 0 = some b0) (hsm : somes pgs + 1 < 300)
    (hroot : ∀ l r, pg pgs l = none → upd (pg pgs) l (some (pgOf (strip a))) r = none → l < 512 → r < 512 → mayN (rootOf x l r) ∧ nB (rootOf x l r).l ≤ 223) :
    Calls Tryz.prog 204 #[.pointer (some ⟨tb, 0, none⟩), ndV a.leaf va, ndV b.leaf vb] w fun e w' => ∃ l r O' pgs', e = .returned (.int .i64 0) ∧ PoI w' P O' pgs' ∧ pg pgs l = none ∧ upd (pg pgs) l (some (pgOf (strip a))) r = none ∧ l < 512 ∧ r < 512 ∧
      pg pgs' = upd (upd (upd (pg pgs) l (some (pgOf (strip a)))) r (some (pgOf (strip b)))) 0 (some (pgOf (rootOf x l r))) ∧ Kp O w w' ∧ Gr O w.heap.size O' ∧ somes pgs' = somes pgs + 2 := by
  have c0 := ht.c0
  have hlt := Blk.lt ht
  obtain ⟨gb, ob, cb, rfl, hcb, hgb, hEb⟩ := hvb.form (by rw [hx]; simp)
  obtain ⟨aa, ca, rfl⟩ := hva.slice
  have HT := hid ht
  have HTO := hid hto
  have HP := hid hp
  have HLO := hid hp.lts
  have HVA := hid hva
  have HVB := hid hvb
  have HVA2 := hid hva2
  have HVB2 := hid (hvb2 gb rfl)
  have HE := hid hEb
  have HA := hid (⟨ha, hal, haf⟩ : mayN (strip a) ∧ a.l.length ≤ 900 ∧ nB (strip a).l ≤ 223)
  have HB := hid (⟨hb, hbl, hbf, hx, h0, hsm⟩ : mayN (strip b) ∧ b.l.length ≤ 900 ∧ nB (strip b).l ≤ 223 ∧ b.l = x :: t ∧ pg pgs 0 = some b0 ∧ somes pgs + 1 < 300)
  have HR := hid hroot
  have hbA : Below w.heap.size w ((w.alloc (.cells #[.bool a.leaf, .slice aa a.l.length ca] 292)).alloc (.cells #[.bool b.leaf, .slice (some ⟨gb, ob, none⟩) b.l.length cb] 292)) := ((Below.refl _ w).alloc (Nat.le_refl _) _).alloc (by simp) _
  have HM1 := hid (make_any (ht.kp (O := []) (Kp.of_below hbA) (by simp)) (hp.below hbA) ha (hva.below hbA) hal haf (by omega))
  have hposb : 0 < b.l.length := by rw [hx]; simp
  clear ht hto hp hva hvb hva2 hvb2 hEb ha hal haf hb hbl hbf hx h0 hsm hroot hcb
  unfold ndV at HM1 ⊢
  go_enter Tryz.func204, Tryz.ntmps204
  go_wp2_with fail
  (with_reducible refine HM1.out.mono ?_)
  rintro e W1 ⟨l, O1, rfl, hl1, hl2, hp1, hk1, hg1⟩
  have hK1 : Kp O w W1 := (Kp.of_below hbA).trans hk1
  have hno1 : w.heap.size + 1 ∉ O := fun h => by have := HLO.out _ h; omega
  have hN1 : Blk W1 (w.heap.size + 1) 292 #[.bool b.leaf, .slice (some ⟨gb, ob, none⟩) b.l.length cb] := by
    have := Blk.new (w.alloc (.cells #[.bool a.leaf, .slice aa a.l.length ca] 292)) 292 #[.bool b.leaf, .slice (some ⟨gb, ob, none⟩) b.l.length cb]
    have := this.kp hk1 (by simpa using hno1)
    simpa using this
  have n0 : W1.cell? ⟨w.heap.size + 1, 0, none⟩ = some (.bool b.leaf) := hN1.cell 0
  have n1 : W1.cell? ⟨w.heap.size + 1, 1, none⟩ = some (.slice (some ⟨gb, ob, none⟩) b.l.length cb) := hN1.cell 1
  have hlt1 := hN1.lt
  have hg1' : Gr O w.heap.size O1 := hg1.mono (by simp; omega)
  have hto1 : tb ∉ O1 := hg1'.notin hlt HTO.out
  have hvb1 : EnI W1 (.slice (some ⟨gb, ob, none⟩) b.l.length cb) b.l := HVB.out.kp hK1 (fun g hg => by
    have e : some gb = some g := hg
    injection e with e
    rw [← e]; exact HVB2.out)
  have HM2 := hid (make_any (HT.out.kp hK1 HTO.out) hp1 HB.out.1 hvb1 HB.out.2.1 HB.out.2.2.1 (by rw [somes_new hl2]; have := HB.out.2.2.2.2.2; omega))
  unfold ndV at HM2
  have hg1s : ∀ z ∈ O1, z ∈ O ∨ w.heap.size + 1 + 1 ≤ z := fun z hz => (hg1 z hz).imp id (fun h => by simpa using h)
  have H1 := hid (⟨hl1, hl2, hp1, hK1, hg1', hto1, hvb1, hN1, hg1s⟩ : l ≤ pgs.length ∧ (pgs[l]? = some none ∨ l = pgs.length) ∧ PoI W1 P O1 (newAt pgs l (pgOf (strip a))) ∧ Kp O w W1 ∧ Gr O w.heap.size O1 ∧ tb ∉ O1 ∧ EnI W1 (.slice (some ⟨gb, ob, none⟩) b.l.length cb) b.l ∧ Blk W1 (w.heap.size + 1) 292 #[.bool b.leaf, .slice (some ⟨gb, ob, none⟩) b.l.length cb] ∧ ∀ z ∈ O1, z ∈ O ∨ w.heap.size + 1 + 1 ≤ z)
  clear hg1s hl1 hl2 hp1 hk1 hg1 hK1 hno1 hN1 hg1' hto1 hvb1 hbA
  go_wp2_with fail
  (with_reducible refine HM2.out.mono ?_)
  rintro e W2 ⟨r, O2, rfl, hr1, hr2, hp2, hk2, hg2⟩
  obtain ⟨hl1, hl2, hp1, hK1, hg1', hto1, hvb1, hN1, hg1s⟩ := H1.out
  have hgsz : w.heap.size ≤ W1.heap.size := hK1.size
  have hno1 : w.heap.size + 1 ∉ O1 := fun h => by
    rcases hg1s _ h with h | h
    · have := HLO.out _ h; omega
    · omega
  have hgb1 : gb ∉ O1 := hg1'.notin hgb HVB2.out
  have hN2 : Blk W2 (w.heap.size + 1) 292 #[.bool b.leaf, .slice (some ⟨gb, ob, none⟩) b.l.length cb] := hN1.kp hk2 hno1
  have m1 : W2.cell? ⟨w.heap.size + 1, 1, none⟩ = some (.slice (some ⟨gb, ob, none⟩) b.l.length cb) := hN2.cell 1
  have hlt2 := hN2.lt
  have hk12 : Kp O w W2 := hK1.trans_gr hg1' hk2
  have m2 : W2.cell? ⟨gb, ob, none⟩ = some (.string (S x.key)) := by
    rw [hk12.cell (p := ⟨gb, ob, none⟩) hgb HVB2.out]
    have := (HE.out 0 x (by rw [HB.out.2.2.2.1]; rfl)).1
    simpa using this
  have hgb2 : gb < W2.heap.size := Nat.lt_of_lt_of_le hgb hk12.size
  have hl5 : l < 512 := Nat.lt_of_lt_of_le (newAt_len hl1) (hp1.len)
  have hr5 : r < 512 := Nat.lt_of_lt_of_le (newAt_len hr1) (hp2.len)
  have hpl : pg pgs l = none := pg_free hl2
  have hpr : upd (pg pgs) l (some (pgOf (strip a))) r = none := by
    rw [← pg_new hl1]; exact pg_free hr2
  obtain ⟨hrm, hrb⟩ := HR.out l r hpl hpr hl5 hr5
  have hgr2 : Gr O w.heap.size O2 := fun z hz => (hg2 z hz).elim (fun h => hg1' z h) (fun h => .inr (by omega))
  have hto2 : tb ∉ O2 := hgr2.notin hlt HTO.out
  have hb3 : Below W2.heap.size W2 (W2.alloc (.cells #[.string ⟨#[]⟩, .string ⟨#[]⟩, .int .i64 l, .string (S x.key), .string ⟨#[]⟩, .int .i64 r] 299)) := (Below.refl _ W2).alloc (Nat.le_refl _) _
  have hblk := Blk.new W2 299 #[.string ⟨#[]⟩, .string ⟨#[]⟩, .int .i64 l, .string (S x.key), .string ⟨#[]⟩, .int .i64 r]
  have hEn : EnI (W2.alloc (.cells #[.string ⟨#[]⟩, .string ⟨#[]⟩, .int .i64 l, .string (S x.key), .string ⟨#[]⟩, .int .i64 r] 299)) (.slice (some ⟨W2.heap.size, 0, none⟩) 2 2) (rootOf x l r).l := by
    refine EnI.of_ownAt (l := (rootOf x l r).l) hblk.lt (Nat.le_refl _) (fun j y hy => ?_)
    match j with
    | 0 =>
      have : y = ⟨[], [], l⟩ := by simpa [rootOf] using hy.symm
      subst this
      exact ⟨hblk.cell 0, hblk.cell 1, hblk.cell 2⟩
    | 1 =>
      have : y = ⟨x.key, [], r⟩ := by simpa [rootOf] using hy.symm
      subst this
      exact ⟨hblk.cell 3, hblk.cell 4, hblk.cell 5⟩
    | j + 2 => simp [rootOf] at hy
  have hst : strip (rootOf x l r) = rootOf x l r := rfl
  have h0' : (newAt (newAt pgs l (pgOf (strip a))) r (pgOf (strip b)))[0]? = some (some b0) := by
    have h0 := HB.out.2.2.2.2.1
    have hl0 : (0 : Nat) ≠ l := fun e => by rw [← e, h0] at hpl; cases hpl
    have hr0 : (0 : Nat) ≠ r := fun e => by rw [← e, upd_ne _ _ hl0, h0] at hpr; cases hpr
    refine pg_some.1 ?_
    rw [pg_new hr1, pg_new hl1, upd_ne _ _ hr0, upd_ne _ _ hl0]
    exact h0
  have hW := write_fits (w := W2.alloc (.cells #[.string ⟨#[]⟩, .string ⟨#[]⟩, .int .i64 l, .string (S x.key), .string ⟨#[]⟩, .int .i64 r] 299)) (O := O2) (q := 0) (n := rootOf x l r) ((HT.out.kp hk12 HTO.out).below hb3 (Nat.lt_of_lt_of_le hlt hk12.size)) (hp2.below hb3) h0' (by rw [hst]; exact hrm) hEn (by simp [rootOf]) (by rw [hst]; exact hrb)
  rw [hst] at hW
  have HW : Hid (Calls Tryz.prog 201 #[.pointer (some ⟨tb, 0, none⟩), .int .i64 0, .agg #[.bool false, .slice (some ⟨W2.heap.size, 0, none⟩) 2 2]] _ _) := hid hW
  have HF := hid (⟨hl1, hr1, hpl, hpr, hl5, hr5, hk12, hgr2⟩ : l ≤ pgs.length ∧ r ≤ (newAt pgs l (pgOf (strip a))).length ∧ pg pgs l = none ∧ upd (pg pgs) l (some (pgOf (strip a))) r = none ∧ l < 512 ∧ r < 512 ∧ Kp O w W2 ∧ Gr O w.heap.size O2)
  have HB3 := hid hb3
  have H0 := hid h0'
  have HG2 := hid hgr2
  clear hl1 hl2 hp1 hK1 hg1' hto1 hvb1 hN1 hg1s hno1 hgb1 hN2 hk12 hl5 hr5 hpl hpr hrm hrb hgr2 hto2 hb3 hblk hEn hst h0' hW hr1 hr2 hp2 hk2 hg2 hgsz n0 n1
  go_wp2_with fail
  (with_reducible refine HW.out.mono ?_)
  rintro e W4 ⟨rfl, hk4, hp4⟩
  have HK4 := hid hk4
  have HP4 := hid hp4
  clear hk4 hp4
  go_wp2
  go_ret
  obtain ⟨hl1, hr1, hpl, hpr, hl5, hr5, hk12, hgr2⟩ := HF.out
  refine ⟨l, r, O2, _, rfl, HP4.out, hpl, hpr, hl5, hr5, ?_, ?_, hgr2, ?_⟩
  · rw [pg_set (pg_lt (pg_some.2 H0.out)), pg_new hr1, pg_new hl1]
  · exact (hk12.trans (Kp.of_below HB3.out)).trans_gr (hgr2) HK4.out
  · rw [somes_set_same _ _ b0 _ H0.out, somes_new ((pg_none.1 (by rw [pg_new hl1]; exact hpr)).imp id (fun e => Nat.le_antisymm hr1 e)), somes_new ((pg_none.1 hpl).imp id (fun e => Nat.le_antisymm hl1 e))]
end
end Go.Proofs.YtnnghcooidjlhaaGreat
end
