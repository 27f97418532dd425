/- Parts of the proof: Mi Mj Ua Q. -/
import Derived.Deep.Quiet
import Derived.Deep.QuietTactic
import Derived.Tactics2
import Derived.KernelRfl
import Derived.Test.YtnnghcooidjlhaaGreatA01
import Derived.Test.YtnnghcooidjlhaaGreatA17
import Derived.Test.YtnnghcooidjlhaaGreatA19
set_option linter.all false
section
set_option linter.unusedSimpArgs false
set_option linter.unusedVariables false
set_option maxRecDepth 100000
namespace Go.Proofs.YtnnghcooidjlhaaGreat
open Go.RowKit Go.Lib
def dropP (a : KV) : KV := (a.1.drop 2, a.2)
def stripTo (j : Nat) (l : List KV) : List KV := (l.take j).map dropP ++ l.drop j
theorem stripTo_zero (l : List KV) : stripTo 0 l = l := by simp [stripTo]
theorem stripTo_all (l : List KV) : stripTo l.length l = l.map dropP := by simp [stripTo]
theorem stripTo_get {l : List KV} {j : Nat} {x : KV} (h : l[j]? = some x) : (stripTo j l)[j]? = some x := by
  have hlt := (List.getElem?_eq_some_iff.1 h).1
  unfold stripTo
  rw [List.getElem?_append_right (by simp; omega)]
  simp
  rw [Nat.min_eq_left (by omega), Nat.sub_self, Nat.add_zero]
  exact h
theorem stripTo_set {l : List KV} {j : Nat} {x : KV} (h : l[j]? = some x) : (stripTo j l).set j (dropP x) = stripTo (j + 1) l := by
  have hlt := (List.getElem?_eq_some_iff.1 h).1
  have hd : l.drop j = x :: l.drop (j + 1) := by rw [List.drop_eq_getElem_cons hlt, (List.getElem?_eq_some_iff.1 h).2]
  unfold stripTo
  rw [hd, List.set_append_right _ _ (by simp; omega)]
  have : j - ((l.take j).map dropP).length = 0 := by simp; omega
  rw [this, List.set_cons_zero, List.take_add_one, h]
  simp
theorem scanM_length_le (M : List KV) (fr to : Bs) (n : Int) : (scanM M fr to n).length ≤ M.length := by
  unfold scanM
  exact Nat.le_trans (List.length_take_le' _ _) (List.length_filter_le _ _)
theorem partM_length_le (M : List KV) (p : Bs) : (partM M p).length ≤ M.length := by
  unfold partM
  rw [List.length_map]
  exact List.length_filter_le _ _
structure Bef2 (w : World) (sp lp : Int) (k k2 : Bs) (W2 : World) : Prop where
  b : Below w.heap.size w W2
  part : Blk W2 w.heap.size 234 #[.int .i64 sp, .int .i64 lp]
  key : W2.cell? ⟨w.heap.size + 1, 0, none⟩ = some (.string (S k))
  key2 : W2.cell? ⟨w.heap.size + 1, 1, none⟩ = some (.string (S k2))
  lt : w.heap.size + 1 < W2.heap.size
theorem bef2 (w : World) (sp lp : Int) (k k2 : Bs) : Bef2 w sp lp k k2 ((w.alloc (.cells #[.int .i64 sp, .int .i64 lp] 234)).alloc (.cells #[.string (S k), .string (S k2)] 9)) := by
  have h := Blk.new (w.alloc (.cells #[.int .i64 sp, .int .i64 lp] 234)) 9 #[.string (S k), .string (S k2)]
  refine ⟨((Below.refl _ w).alloc (Nat.le_refl _) _).alloc (by simp) _, (Blk.new w _ _).alloc _, ?_, ?_, by simp⟩
  · simpa using h.cell 0
  · simpa using h.cell 1
theorem filter_hdP {M : List KV} {sp lp : Int} (hp : okP sp lp) (fr to : Bs) : M.filter (fun a => inR (hdP sp lp ++ fr) (toK (hdP sp lp) to) a.1) = ((partM M (hdP sp lp)).filter fun a => inR fr to a.1).map (addP (hdP sp lp)) := by
  obtain ⟨x, y, h, hy⟩ := hdP_byte (sp := sp) (lp := lp) hp.2.2
  rw [h]
  exact filter_part hy fr to
theorem dropP_addP (p : Bs) (hp : p.length = 2) (a : KV) : dropP (addP p a) = a := by
  unfold dropP addP
  rw [drop2_app hp]
section
variable {w : World} {s : SL} {O : List Nat} {N : Nat} {M : List KV} {sp lp : Int} {fr to : Bs}
set_option maxHeartbeats 8000000 in
theorem sscan_any (h : StI w s O N M) (hp : okP sp lp) (hf : fr.length ≤ 30) (ht : to.length ≤ 30) (n : Int) :
    Calls Tryz.prog 84 #[.pointer (some ⟨s.sb, 0, none⟩), .int .i64 sp, .int .i64 lp, .string (S fr), .string (S to), .int .i64 n] w fun e w' => ∃ v, e = .returned (.tuple #[v, .int .i64 0]) ∧ StI w' s O N M ∧ Kp O w w' ∧ w'.ownsRow w.heap.size 168 2 v (scanM (partM M (hdP sp lp)) fr to n).length (rowV pairC (scanM (partM M (hdP sp lp)) fr to n)) := by
  have B2 := bef2 w sp lp fr to
  have HM := hid (smay2 (some ⟨s.sb, 0, none⟩) sp lp fr to (w.heap.size + 1) 2 _ B2.key B2.key2 B2.lt)
  rw [show (some (⟨s.sb, 0, none⟩ : Addr)).isNone = false from rfl, mayE_ok2 hp hf ht] at HM
  have HW := hid (within_any sp lp hp fr to (by omega) (by omega))
  have HSC := hid (fun W (hW : Below w.heap.size w W) => tscan_any (h.tree.below hW) (hdP sp lp ++ fr) (toK (hdP sp lp) to) n)
  have hL : scanM M (hdP sp lp ++ fr) (toK (hdP sp lp) to) n = (scanM (partM M (hdP sp lp)) fr to n).map (addP (hdP sp lp)) := by
    unfold scanM
    rw [filter_hdP hp, List.map_take]
  obtain ⟨L, hLd⟩ : ∃ L, L = scanM (partM M (hdP sp lp)) fr to n := ⟨_, rfl⟩
  rw [← hLd] at hL
  rw [hL] at HSC
  have HLD := hid hLd
  have HX := hid (⟨h, B2⟩ : _ ∧ _)
  clear hp hf ht h B2 hL hLd
  go_enter Tryz.func84, Tryz.ntmps84
  go_wp2_with fail
  (with_reducible refine HM.out.mono ?_)
  rintro e W3 ⟨rfl, hb3⟩
  obtain ⟨h, B2⟩ := HX.out
  have hb03 := B2.b.trans (hb3.mono (Nat.le_trans (Nat.le_succ _) (Nat.le_of_lt B2.lt)))
  have hP3 := B2.part.below hb3 B2.part.lt
  have p0 : W3.cell? ⟨w.heap.size, 0, none⟩ = some (.int .i64 sp) := hP3.cell 0
  have p1 : W3.cell? ⟨w.heap.size, 1, none⟩ = some (.int .i64 lp) := hP3.cell 1
  have hlp3 := hP3.lt
  have H3 := hid hb03
  clear h B2 hb3 hb03 hP3
  go_wp2_with fail
  (with_reducible refine (HW.out _).mono ?_)
  rintro e W4 ⟨rfl, hb4⟩
  have hb04 := H3.out.trans (hb4.mono H3.out.size)
  have h4 := HX.out.1.below hb04
  have s0 := h4.c0
  have hlt4 := h4.sb_lt
  have HS4 := hid (HSC.out _ hb04)
  have H4 := hid hb04
  clear hb4 hb04 h4 p0 p1
  go_wp2_with fail
  (with_reducible refine HS4.out.mono ?_)
  rintro e W5 ⟨v5, rfl, hT5, hk5, hO5⟩
  have h5 := (HX.out.1.below H4.out).turn hk5 (Gr.refl _ _) hT5
  obtain ⟨nl, hnl⟩ : ∃ nl, nl = L.length := ⟨_, rfl⟩
  rw [show (L.map (addP (hdP sp lp))).length = nl by rw [hnl]; simp] at hO5
  obtain ⟨a5, c5, rfl⟩ := own_slice2 hO5
  have HNL := hid hnl
  have hnb : nl ≤ 20480 * 1000 := by
    obtain ⟨pgs, D, E, ps, h1, h2, h3, h4, h5, h6⟩ := hT5
    have hs := h4.small h1
    have e1 : M.length = E.length := by rw [← h6]; simp [kvs]
    have e2 : L.length ≤ M.length := by
      rw [HLD.out]
      exact Nat.le_trans (scanM_length_le _ _ _ _) (partM_length_le _ _)
    omega
  have hnbi : (nl : Int) ≤ 20480000 := by omega
  have hbig := (HX.out.1.lts)
  have HI0 : Hid (StI W5 s O N M ∧ Kp O w W5 ∧ W5.ownsRow w.heap.size 168 2 (.slice a5 nl c5) nl (rowV pairC (stripTo 0 (L.map (addP (hdP sp lp)))))) := hid ⟨h5, (Kp.of_below H4.out).trans hk5, by rw [stripTo_zero]; exact own_base hO5 H4.out.size⟩
  have HLT := hid hbig
  clear hT5 hk5 hO5 h5 hnl hnb hbig s0
  go_wp2
  go_loopg [20, 53] nl (fun gg s20 s53 wr => ∃ (j : Nat), j ≤ nl ∧ nl - j ≤ gg ∧ s53 = .int .i64 j ∧ Hid (StI wr s O N M ∧ Kp O w wr ∧ wr.ownsRow w.heap.size 168 2 (.slice a5 nl c5) nl (rowV pairC (stripTo j (L.map (addP (hdP sp lp)))))))
  case atStart => exact ⟨0, Nat.zero_le _, by omega, rfl, HI0⟩
  case round =>
    obtain ⟨j, hj, hgg, rfl, HI⟩ := hrel
    by_cases hje : j < nl
    · obtain ⟨x, hx⟩ : ∃ x, L[j]? = some x := ⟨_, List.getElem?_eq_getElem (by rw [← HNL.out]; exact hje)⟩
      have hx' : (L.map (addP (hdP sp lp)))[j]? = some (addP (hdP sp lp) x) := by simp [hx]
      obtain ⟨hS, hk, hO⟩ := HI.out
      obtain ⟨g, c, e1, hg1, hg2, hg3⟩ := own_form hO (by omega)
      injection e1 with e1 elen e3
      clear elen
      subst e1 e3
      have hji : (j : Int) < (nl : Int) := by omega
      have hget := rowV_get pairC_len _ j _ (stripTo_get hx') 0 (by omega)
      have m0 : wr.cell? ⟨g, j * 2, none⟩ = some (.string (S (hdP sp lp ++ x.1))) := own_at hO rfl (j := j * 2) (by
        rw [Nat.add_zero] at hget
        rw [hget]; rfl)
      have mf : wr.frozen? ⟨g, j * 2, none⟩ = false := hO.frozenAt _
      have hl2 : ¬ ((hdP sp lp).length + x.1.length < 2) := by rw [hdP_len]; omega
      have hl3 : 2 ≤ (hdP sp lp).length + x.1.length := by rw [hdP_len]; omega
      have hl4 : (2 : Int) ≤ ((hdP sp lp ++ x.1).length : Int) := by rw [List.length_append, hdP_len]; omega
      have htk : ((hdP sp lp ++ x.1).drop 2).take ((hdP sp lp).length + x.1.length - 2) = x.1 := by
        rw [drop2_app (hdP_len sp lp)]
        exact List.take_of_length_le (by rw [hdP_len]; omega)
      have H1 := hid (⟨hx', hg1, hg2⟩ : _ ∧ _ ∧ _)
      clear hx hx' hS hk hO hget
      go_wp2
      go_roundg (nl - (j + 1))
      case measure => omega
      case rel =>
        obtain ⟨hx', hg1, hg2⟩ := H1.out
        obtain ⟨hS, hk, hO⟩ := HI.out
        have hnot : ∀ b ∈ s.sb :: s.tb :: O, b ≠ g := fun b hb e => by have := HLT.out b hb; omega
        refine ⟨j + 1, by omega, by omega, by go_num, hid ⟨hS.of_blocks (fun b hb => Below.heap_setCell _ _ _ _ (hnot b hb)), hk.setCell (.inr hg1) _, ?_⟩⟩
        have hst := (hO.stored (j * 2) (.string (S x.1))).1
        refine own_eq hst rfl ?_
        have hset := rowV_set pairC_len (stripTo j (L.map (addP (hdP sp lp)))) j _ (dropP (addP (hdP sp lp) x)) 0 (.string (S x.1)) (stripTo_get hx') (by omega) (by rw [dropP_addP _ (hdP_len sp lp)]; rfl)
        rw [Nat.add_zero, stripTo_set hx'] at hset
        exact hset
    · have hjl : j = nl := by omega
      have HJ := hid hjl
      have hji : ¬ ((j : Int) < (nl : Int)) := by omega
      clear hjl
      go_wp2
      go_ret2
      obtain ⟨hS, hk, hO⟩ := HI.out
      have e1 : stripTo j (L.map (addP (hdP sp lp))) = L := by
        have : j = (L.map (addP (hdP sp lp))).length := by rw [HJ.out, HNL.out]; simp
        rw [this, stripTo_all, List.map_map]
        refine (List.map_congr_left fun a _ => ?_).trans (List.map_id _)
        exact dropP_addP _ (hdP_len sp lp) a
      rw [e1] at hO
      rw [← HLD.out, ← HNL.out]
      exact ⟨_, rfl, hS, hk, hO⟩
set_option maxHeartbeats 8000000 in
theorem sclear_any (h : StI w s O N M) (hp : okP sp lp) (hf : fr.length ≤ 30) (ht : to.length ≤ 30) :
    Calls Tryz.prog 93 #[.pointer (some ⟨s.sb, 0, none⟩), .int .i64 sp, .int .i64 lp, .string (S fr), .string (S to)] w fun e w' => e = .returned (.tuple #[.int .i64 ((partM M (hdP sp lp)).filter fun a => inR fr to a.1).length, .int .i64 0]) ∧ StI w' s O N (M.filter fun a => !inR (hdP sp lp ++ fr) (toK (hdP sp lp) to) a.1) ∧ Kp O w w' := by
  have B2 := bef2 w sp lp fr to
  have HM := hid (smay2 (some ⟨s.sb, 0, none⟩) sp lp fr to (w.heap.size + 1) 2 _ B2.key B2.key2 B2.lt)
  rw [show (some (⟨s.sb, 0, none⟩ : Addr)).isNone = false from rfl, mayE_ok2 hp hf ht] at HM
  have HW := hid (within_any sp lp hp fr to (by omega) (by omega))
  have HSC := hid (fun W (hW : Below w.heap.size w W) => tclear_any (h.tree.below hW) (hdP sp lp ++ fr) (toK (hdP sp lp) to))
  have hL : (M.filter fun a => inR (hdP sp lp ++ fr) (toK (hdP sp lp) to) a.1).length = ((partM M (hdP sp lp)).filter fun a => inR fr to a.1).length := by
    rw [filter_hdP hp, List.length_map]
  rw [hL] at HSC
  obtain ⟨nl, hnl⟩ : ∃ nl, nl = ((partM M (hdP sp lp)).filter fun a => inR fr to a.1).length := ⟨_, rfl⟩
  rw [← hnl] at HSC ⊢
  have HX := hid (⟨h, B2⟩ : _ ∧ _)
  clear hp hf ht h B2 hL hnl
  go_enter Tryz.func93, Tryz.ntmps93
  go_wp2_with fail
  (with_reducible refine HM.out.mono ?_)
  rintro e W3 ⟨rfl, hb3⟩
  obtain ⟨h, B2⟩ := HX.out
  have hb03 := B2.b.trans (hb3.mono (Nat.le_trans (Nat.le_succ _) (Nat.le_of_lt B2.lt)))
  have hP3 := B2.part.below hb3 B2.part.lt
  have p0 : W3.cell? ⟨w.heap.size, 0, none⟩ = some (.int .i64 sp) := hP3.cell 0
  have p1 : W3.cell? ⟨w.heap.size, 1, none⟩ = some (.int .i64 lp) := hP3.cell 1
  have hlp3 := hP3.lt
  have H3 := hid hb03
  clear h B2 hb3 hb03 hP3
  go_wp2_with fail
  (with_reducible refine (HW.out _).mono ?_)
  rintro e W4 ⟨rfl, hb4⟩
  have hb04 := H3.out.trans (hb4.mono H3.out.size)
  have h4 := HX.out.1.below hb04
  have s0 := h4.c0
  have hlt4 := h4.sb_lt
  have HS4 := hid (HSC.out _ hb04)
  have H4 := hid hb04
  clear hb4 hb04 h4 p0 p1
  go_wp2_with fail
  (with_reducible refine HS4.out.mono ?_)
  rintro e W5 ⟨rfl, hT5, hk5⟩
  have h5 := (HX.out.1.below H4.out).turn hk5 (Gr.refl _ _) hT5
  have HF := hid (⟨h5, (Kp.of_below H4.out).trans hk5⟩ : _ ∧ _)
  clear hT5 hk5 h5 s0
  go_wp2
  go_ret2
  exact ⟨rfl, HF.out⟩
def lastP (M : List KV) (fr to : Bs) : Option KV := (M.filter fun a => inR fr to a.1).getLast?
set_option maxHeartbeats 8000000 in
theorem slast_any (h : StI w s O N M) (hp : okP sp lp) (hf : fr.length ≤ 30) (ht : to.length ≤ 30) :
    Calls Tryz.prog 81 #[.pointer (some ⟨s.sb, 0, none⟩), .int .i64 sp, .int .i64 lp, .string (S fr), .string (S to)] w fun e w' => e = .returned (lastR (lastP (partM M (hdP sp lp)) fr to)) ∧ StI w' s O N M ∧ Kp O w w' := by
  obtain ⟨W1, hW1⟩ : ∃ W1, W1 = w.alloc (.cells #[.string ⟨#[]⟩, .string ⟨#[]⟩] 168) := ⟨_, rfl⟩
  have hs1 : W1.heap.size = w.heap.size + 1 := by rw [hW1]; simp
  have hb1 : Below w.heap.size w W1 := by rw [hW1]; exact (Below.refl _ w).alloc (Nat.le_refl _) _
  have hr1 : Blk W1 w.heap.size 168 #[.string ⟨#[]⟩, .string ⟨#[]⟩] := by rw [hW1]; exact Blk.new w _ _
  have B2 := bef2 W1 sp lp fr to
  have HM := hid (smay2 (some ⟨s.sb, 0, none⟩) sp lp fr to (W1.heap.size + 1) 2 _ B2.key B2.key2 B2.lt)
  rw [show (some (⟨s.sb, 0, none⟩ : Addr)).isNone = false from rfl, mayE_ok2 hp hf ht] at HM
  have HW := hid (within_any sp lp hp fr to (by omega) (by omega))
  have HSC := hid (fun W (hW : Below w.heap.size w W) => tlast_any (h.tree.below hW) (hdP sp lp ++ fr) (toK (hdP sp lp) to))
  have hL : (M.filter fun a => inR (hdP sp lp ++ fr) (toK (hdP sp lp) to) a.1).getLast? = (lastP (partM M (hdP sp lp)) fr to).map (addP (hdP sp lp)) := by
    rw [filter_hdP hp, List.getLast?_map]
    rfl
  rw [hL] at HSC
  have HX := hid (⟨h, B2, hb1, hs1, hr1⟩ : _ ∧ _ ∧ _ ∧ _ ∧ _)
  rw [hs1, hW1] at HM
  have HW1 := hid hW1
  clear hp hf ht h B2 hL hs1 hb1 hr1 hW1
  go_enter Tryz.func81, Tryz.ntmps81
  go_wp2_with fail
  (with_reducible refine HM.out.mono ?_)
  rintro e W3 ⟨rfl, hb3⟩
  obtain ⟨h, B2, hb1, hs1, hr1⟩ := HX.out
  rw [← HW1.out] at hb3
  have hb13 := B2.b.trans (hb3.mono (Nat.le_trans (Nat.le_succ _) (Nat.le_of_lt B2.lt)))
  have hb03 := hb1.trans (hb13.mono hb1.size)
  have hP3 := B2.part.below hb3 B2.part.lt
  rw [hs1] at hP3
  have p0 : W3.cell? ⟨w.heap.size + 1, 0, none⟩ = some (.int .i64 sp) := hP3.cell 0
  have p1 : W3.cell? ⟨w.heap.size + 1, 1, none⟩ = some (.int .i64 lp) := hP3.cell 1
  have hlp3 := hP3.lt
  have hr3 := hr1.below hb13 (by omega)
  have H3 := hid (⟨hb03, hr3⟩ : _ ∧ _)
  clear h B2 hb3 hb03 hP3 hb1 hs1 hr1 hb13 hr3
  go_wp2_with fail
  (with_reducible refine (HW.out _).mono ?_)
  rintro e W4 ⟨rfl, hb4⟩
  have hb04 := H3.out.1.trans (hb4.mono H3.out.1.size)
  have h4 := HX.out.1.below hb04
  have s0 := h4.c0
  have hlt4 := h4.sb_lt
  have HS4 := hid (HSC.out _ hb04)
  have H4 := hid (⟨hb04, H3.out.2.below hb4 H3.out.2.lt⟩ : _ ∧ _)
  clear hb4 hb04 h4 p0 p1
  cases hl : lastP (partM M (hdP sp lp)) fr to with
  | none =>
    rw [hl, Option.map_none, lastR] at HS4
    have HL := hid hl
    clear hl
    go_wp2_with fail
    (with_reducible refine HS4.out.mono ?_)
    rintro e W5 ⟨rfl, hT5, hk5⟩
    have h5 := (HX.out.1.below H4.out.1).turn hk5 (Gr.refl _ _) hT5
    have hr5 := H4.out.2.kp hk5 (fun hm => by have := HX.out.1.lts w.heap.size (by simp [hm]); omega)
    have r0 : W5.cell? ⟨w.heap.size, 0, none⟩ = some (.string ⟨#[]⟩) := hr5.cell 0
    have r1 : W5.cell? ⟨w.heap.size, 1, none⟩ = some (.string ⟨#[]⟩) := hr5.cell 1
    have rf0 := hr5.frozen 0
    have rf1 := hr5.frozen 1
    have rlt := hr5.lt
    have hno : ∀ b ∈ s.sb :: s.tb :: O, b ≠ w.heap.size := fun b hb e => by have := HX.out.1.lts b hb; omega
    have HF := hid (⟨h5, (Kp.of_below H4.out.1).trans hk5, hr5, hno⟩ : _ ∧ _ ∧ _ ∧ _)
    clear hT5 hk5 h5 s0 hr5 hno
    go_wp2
    obtain ⟨h5, hk05, hr5, hno⟩ := HF.out
    have hr6 := ((hr5.set_ 0 (.string ⟨#[]⟩)).set_ 1 (.string ⟨#[]⟩)).alloc (.cells #[.string ⟨#[]⟩, .string ⟨#[]⟩] 168)
    have z0 := hr6.cell 0
    have z1 := hr6.cell 1
    simp only [List.setIfInBounds_toArray, List.set_cons_zero, List.set_cons_succ, List.getElem?_toArray, List.getElem?_cons_zero, List.getElem?_cons_succ] at z0 z1
    refine bodyPost_ret (v := .tuple #[.agg #[.string ⟨#[]⟩, .string ⟨#[]⟩], .int .i64 9]) (by simp [results, Tryz.results81, go_sem, z0, z1]) rfl ?_
    rw [HL.out]
    refine ⟨rfl, ?_, ((hk05.setCell (.inr (Nat.le_refl _)) _).setCell (.inr (Nat.le_refl _)) _).alloc _⟩
    exact ((h5.of_blocks (fun b hb => Below.heap_setCell _ _ _ _ (hno b hb))).of_blocks (fun b hb => Below.heap_setCell _ _ _ _ (hno b hb))).below ((Below.refl _ _).alloc (Nat.le_refl _) _)
  | some a =>
    rw [hl, Option.map_some, lastR] at HS4
    have HL := hid hl
    unfold addP at HS4
    simp only at HS4
    clear hl
    go_wp2_with fail
    (with_reducible refine HS4.out.mono ?_)
    rintro e W5 ⟨rfl, hT5, hk5⟩
    have h5 := (HX.out.1.below H4.out.1).turn hk5 (Gr.refl _ _) hT5
    have hr5 := H4.out.2.kp hk5 (fun hm => by have := HX.out.1.lts w.heap.size (by simp [hm]); omega)
    have r0 : W5.cell? ⟨w.heap.size, 0, none⟩ = some (.string ⟨#[]⟩) := hr5.cell 0
    have r1 : W5.cell? ⟨w.heap.size, 1, none⟩ = some (.string ⟨#[]⟩) := hr5.cell 1
    have rf0 := hr5.frozen 0
    have rf1 := hr5.frozen 1
    have rlt := hr5.lt
    have hno : ∀ b ∈ s.sb :: s.tb :: O, b ≠ w.heap.size := fun b hb e => by have := HX.out.1.lts b hb; omega
    have HF := hid (⟨h5, (Kp.of_below H4.out.1).trans hk5, hr5, hno⟩ : _ ∧ _ ∧ _ ∧ _)
    have htk : ((hdP sp lp ++ a.1).drop 2).take ((hdP sp lp).length + a.1.length - 2) = a.1 := by
      rw [drop2_app (hdP_len sp lp)]
      exact List.take_of_length_le (by rw [hdP_len]; omega)
    have hl3 : 2 ≤ (hdP sp lp).length + a.1.length := by rw [hdP_len]; omega
    have hl4 : (2 : Int) ≤ ((hdP sp lp ++ a.1).length : Int) := by rw [List.length_append, hdP_len]; omega
    clear hT5 hk5 h5 s0 hr5 hno
    go_wp2
    obtain ⟨h5, hk05, hr5, hno⟩ := HF.out
    have hr6 := ((hr5.set_ 0 (.string (S a.1))).set_ 1 (.string (S a.2))).alloc (.cells #[.string (S a.1), .string (S a.2)] 168)
    have z0 := hr6.cell 0
    have z1 := hr6.cell 1
    simp only [List.setIfInBounds_toArray, List.set_cons_zero, List.set_cons_succ, List.getElem?_toArray, List.getElem?_cons_zero, List.getElem?_cons_succ] at z0 z1
    refine bodyPost_ret (v := .tuple #[.agg #[.string (S a.1), .string (S a.2)], .int .i64 0]) (by simp [results, Tryz.results81, go_sem, z0, z1]) rfl ?_
    rw [HL.out]
    refine ⟨rfl, ?_, ((hk05.setCell (.inr (Nat.le_refl _)) _).setCell (.inr (Nat.le_refl _)) _).alloc _⟩
    exact ((h5.of_blocks (fun b hb => Below.heap_setCell _ _ _ _ (hno b hb))).of_blocks (fun b hb => Below.heap_setCell _ _ _ _ (hno b hb))).below ((Below.refl _ _).alloc (Nat.le_refl _) _)
end
end Go.Proofs.YtnnghcooidjlhaaGreat
end
section
set_option linter.unusedSimpArgs false
set_option linter.unusedVariables false
set_option maxRecDepth 100000
namespace Go.Proofs.YtnnghcooidjlhaaGreat
open Go.RowKit Go.Lib
set_option maxHeartbeats 2000000 in
theorem sscan_no (p : Option Addr) (sp lp : Int) (fr to : Bs) (n : Int) {c : Int} (hE : mayE p.isNone sp lp [fr, to] = c) (hc : c ≠ 0) (w : World) :
    Calls Tryz.prog 84 #[.pointer p, .int .i64 sp, .int .i64 lp, .string (S fr), .string (S to), .int .i64 n] w fun e w' => e = .returned (.tuple #[.slice none 0 0, .int .i64 c]) ∧ Below w.heap.size w w' := by
  have B2 := bef2 w sp lp fr to
  have HM := hid (smay2 p sp lp fr to (w.heap.size + 1) 2 _ B2.key B2.key2 B2.lt)
  rw [hE] at HM
  have HX := hid B2
  clear B2 hE
  go_enter Tryz.func84, Tryz.ntmps84
  go_wp2_with fail
  (with_reducible refine HM.out.mono ?_)
  rintro e W3 ⟨rfl, hb3⟩
  have HB : Hid (Below w.heap.size w W3) := hid (HX.out.b.trans (hb3.mono (Nat.le_trans (Nat.le_succ _) (Nat.le_of_lt HX.out.lt))))
  clear hb3
  go_wp2
  go_ret2
  exact ⟨rfl, HB.out⟩
set_option maxHeartbeats 2000000 in
theorem sclear_no (p : Option Addr) (sp lp : Int) (fr to : Bs) {c : Int} (hE : mayE p.isNone sp lp [fr, to] = c) (hc : c ≠ 0) (w : World) :
    Calls Tryz.prog 93 #[.pointer p, .int .i64 sp, .int .i64 lp, .string (S fr), .string (S to)] w fun e w' => e = .returned (.tuple #[.int .i64 0, .int .i64 c]) ∧ Below w.heap.size w w' := by
  have B2 := bef2 w sp lp fr to
  have HM := hid (smay2 p sp lp fr to (w.heap.size + 1) 2 _ B2.key B2.key2 B2.lt)
  rw [hE] at HM
  have HX := hid B2
  clear B2 hE
  go_enter Tryz.func93, Tryz.ntmps93
  go_wp2_with fail
  (with_reducible refine HM.out.mono ?_)
  rintro e W3 ⟨rfl, hb3⟩
  have HB : Hid (Below w.heap.size w W3) := hid (HX.out.b.trans (hb3.mono (Nat.le_trans (Nat.le_succ _) (Nat.le_of_lt HX.out.lt))))
  clear hb3
  go_wp2
  go_ret2
  exact ⟨rfl, HB.out⟩
def cntIs (M : List KV) (name : Bs) (n : Int) : Prop := 0 ≤ n ∧ n ≤ 1099511627776 ∧ ((getM M (hdP 7 0 ++ name) = none ∧ n = 0) ∨ getM M (hdP 7 0 ++ name) = some (encI n))
theorem okP70 : okP 7 0 := by unfold okP; omega
section
variable {w : World} {s : SL} {O : List Nat} {N : Nat} {M : List KV}
set_option maxHeartbeats 4000000 in
theorem scount_any (h : StI w s O N M) {name : Bs} (hk : name.length ≤ 30) {n : Int} (hc : cntIs M name n) :
    Calls Tryz.prog 162 #[.pointer (some ⟨s.sb, 0, none⟩), .string (S name)] w fun e w' => e = .returned (.tuple #[.int .i64 n, .int .i64 0]) ∧ StI w' s O N M ∧ Kp O w w' := by
  have HG := hid (sget_any h okP70 hk)
  obtain ⟨h0, h1, hc⟩ := hc
  rcases hc with ⟨hg, rfl⟩ | hg
  · rw [hg, getR] at HG
    clear h hk hg h0 h1
    go_enter Tryz.func162, Tryz.ntmps162
    go_wp2_with fail
    (with_reducible refine HG.out.mono ?_)
    rintro e W1 ⟨rfl, h1, hk1⟩
    have HF := hid (⟨h1, hk1⟩ : _ ∧ _)
    clear h1 hk1
    go_wp2
    go_ret2
    exact ⟨rfl, HF.out⟩
  · rw [hg, getR] at HG
    have HR := hid (fun W => readI_any (encI n) 0 W (by simp) (by simp))
    have he : decI (((encI n).drop 0).take 8) = n := by
      rw [List.drop_zero, List.take_of_length_le (by simp), decI_encI (by omega) (by omega)]
    rw [he] at HR
    have hl8 : (encI n).length = 8 := encI_length n
    clear h hk hg h0 h1 he
    go_enter Tryz.func162, Tryz.ntmps162
    go_wp2_with fail
    (with_reducible refine HG.out.mono ?_)
    rintro e W1 ⟨rfl, h1, hk1⟩
    have HF := hid (⟨h1, hk1⟩ : _ ∧ _)
    clear h1 hk1
    go_wp2_with fail
    refine (HR.out _).mono ?_
    rintro e W2 ⟨rfl, rfl⟩
    have e8 : (((0 + 8 : Nat) : Nat) : Int) = 8 := rfl
    go_wp2
    go_ret2
    exact ⟨rfl, HF.out⟩
theorem add1_any (n least : Int) (w : World) : Calls Tryz.prog 163 #[.int .i64 n, .int .i64 least] w fun e w' => e = .returned (.bool (decide (least ≤ n) && decide (n ≤ 1099511627776))) ∧ w = w' := by
  by_cases h : least ≤ n
  · go_enter Tryz.func163, Tryz.ntmps163
    go_wp2
    go_ret
    exact ⟨by simp [h], rfl⟩
  · go_enter Tryz.func163, Tryz.ntmps163
    go_wp2
    go_ret
    have h' : ¬ least ≤ n := by omega
    rw [decide_eq_false h', Bool.false_and]
    exact ⟨rfl, rfl⟩
set_option maxHeartbeats 4000000 in
theorem sadd_any (h : StI w s O N M) {name : Bs} (hk : name.length ≤ 30) {n : Int} (hc : cntIs M name n) (hn : n < 1099511627776) (hroom : Roomy N M.length (longs M)) :
    Calls Tryz.prog 121 #[.pointer (some ⟨s.sb, 0, none⟩), .string (S name), .int .i64 1] w fun e w' => ∃ O', e = .returned (.tuple #[.int .i64 (n + 1), .int .i64 0]) ∧ StI w' s O' (N + 1) (setM M (hdP 7 0 ++ name) (encI (n + 1))) ∧ Kp O w w' ∧ Gr O w.heap.size O' := by
  have HC := hid (scount_any h hk hc)
  obtain ⟨h0, _, _⟩ := hc
  have a1 := hid (fun W => add1_any 1 (-1099511627776) W)
  have a2 := hid (fun W => add1_any n 0 W)
  have a3 := hid (fun W => add1_any (n + 1) 0 W)
  rw [show (decide ((-1099511627776 : Int) ≤ 1) && decide ((1 : Int) ≤ 1099511627776)) = true from rfl] at a1
  rw [show (decide ((0 : Int) ≤ n) && decide (n ≤ 1099511627776)) = true by simp; omega] at a2
  rw [show (decide ((0 : Int) ≤ n + 1) && decide (n + 1 ≤ 1099511627776)) = true by simp; omega] at a3
  have hw1 : IntKind.i64.wrap (n + 1) = n + 1 := by rw [IntKind.wrap_i64]; omega
  have HP := hid (fun W => packI_any (n + 1) W (by omega) (by omega))
  have HSET := hid (fun W (hW : StI W s O N M) => sset_any (sp := 7) (lp := 0) (k := name) (v := encI (n + 1)) hW okP70 hk (by simp) hroom)
  clear hk hn hroom h0
  go_enter Tryz.func121, Tryz.ntmps121
  go_wp2_with fail
  (with_reducible refine HC.out.mono ?_)
  rintro e W1 ⟨rfl, h1, hk1⟩
  have HF := hid (⟨h1, hk1⟩ : _ ∧ _)
  clear h1 hk1
  go_wp2_with fail
  (with_reducible refine (a1.out _).mono ?_)
  rintro e W2 ⟨rfl, rfl⟩
  go_wp2_with fail
  (with_reducible refine (a2.out _).mono ?_)
  rintro e W2 ⟨rfl, rfl⟩
  go_wp2_with fail
  (with_reducible refine (a3.out _).mono ?_)
  rintro e W2 ⟨rfl, rfl⟩
  go_wp2_with fail
  (with_reducible refine (HP.out _).mono ?_)
  rintro e W3 ⟨rfl, hb3⟩
  have h3 := HF.out.1.below hb3
  have HS := hid (HSET.out W3 h3)
  have HK := hid (HF.out.2.trans (Kp.of_below hb3))
  clear h3 hb3
  go_wp2_with fail
  (with_reducible refine HS.out.mono ?_)
  rintro e W4 ⟨O4, rfl, h4, hk4, hg4⟩
  have HF4 := hid (⟨h4, HK.out.trans hk4, hg4.mono HK.out.size⟩ : _ ∧ _ ∧ _)
  clear h4 hk4 hg4
  go_wp2
  go_ret2
  exact ⟨O4, rfl, HF4.out⟩
end
end Go.Proofs.YtnnghcooidjlhaaGreat
end
section
set_option linter.unusedSimpArgs false
set_option linter.unusedVariables false
namespace Go.Proofs.YtnnghcooidjlhaaGreat
theorem be_mod (k n : Nat) : be k (n % 256 ^ k) = be k n := by
  have h : ∀ j, j ≤ k → be j (n % 256 ^ k) = be j n := fun j => by
    induction j with
    | zero => intro; rfl
    | succ j ih =>
      intro hj
      unfold be
      rw [ih (by omega)]
      congr 1
      have e1 : UInt8.ofNat (n % 256 ^ k / 256 ^ j) = UInt8.ofNat (n % 256 ^ k / 256 ^ j % 256) := by
        apply UInt8.toNat_inj.1; simp
      have e2 : UInt8.ofNat (n / 256 ^ j) = UInt8.ofNat (n / 256 ^ j % 256) := by
        apply UInt8.toNat_inj.1; simp
      rw [e1, e2]
      congr 1
      obtain ⟨d, rfl⟩ : ∃ d, k = j + 1 + d := ⟨k - (j + 1), by omega⟩
      rw [show 256 ^ (j + 1 + d) = 256 ^ j * (256 * 256 ^ d) by rw [Nat.pow_add, Nat.pow_succ, Nat.mul_assoc]]
      rw [Nat.mod_mul_right_div_self, Nat.mod_mul_right_mod]
  exact h k (Nat.le_refl _)
theorem be_lt : ∀ (k : Nat) {n m : Nat}, n < 256 ^ k → m < 256 ^ k → (be k n < be k m ↔ n < m)
  | 0, n, m, hn, hm => by
    have h1 : n = 0 := by simpa using hn
    have h2 : m = 0 := by simpa using hm
    subst h1 h2
    simp [be]
  | k + 1, n, m, hn, hm => by
    unfold be
    rw [List.cons_lt_cons_iff]
    have hp : 0 < 256 ^ k := Nat.pow_pos (by omega)
    have q1 : n / 256 ^ k < 256 := by rw [Nat.div_lt_iff_lt_mul hp]; rw [Nat.pow_succ, Nat.mul_comm] at hn; exact hn
    have q2 : m / 256 ^ k < 256 := by rw [Nat.div_lt_iff_lt_mul hp]; rw [Nat.pow_succ, Nat.mul_comm] at hm; exact hm
    have r1 := Nat.mod_lt n hp
    have r2 := Nat.mod_lt m hp
    have ih := be_lt k r1 r2
    rw [be_mod, be_mod] at ih
    have d1 := Nat.div_add_mod n (256 ^ k)
    have d2 := Nat.div_add_mod m (256 ^ k)
    rw [UInt8.lt_iff_toNat_lt, ← UInt8.toNat_inj]
    have t1 : (UInt8.ofNat (n / 256 ^ k)).toNat = n / 256 ^ k := by simp; omega
    have t2 : (UInt8.ofNat (m / 256 ^ k)).toNat = m / 256 ^ k := by simp; omega
    rw [t1, t2, ih]
    generalize n / 256 ^ k = a at *
    generalize m / 256 ^ k = b at *
    generalize n % 256 ^ k = c at *
    generalize m % 256 ^ k = d at *
    generalize 256 ^ k = P at *
    constructor
    · rintro (h | ⟨rfl, h⟩)
      · have : P * a + P ≤ P * b := by
          have := Nat.mul_le_mul_left P (show a + 1 ≤ b from h)
          rwa [Nat.mul_add, Nat.mul_one] at this
        omega
      · omega
    · intro h
      rcases Nat.lt_trichotomy a b with h1 | h1 | h1
      · exact .inl h1
      · subst h1
        exact .inr ⟨rfl, by omega⟩
      · have : P * b + P ≤ P * a := by
          have := Nat.mul_le_mul_left P (show b + 1 ≤ a from h1)
          rwa [Nat.mul_add, Nat.mul_one] at this
        omega
theorem encI_lt {x y : Int} (h0 : -9223372036854775808 ≤ x) (h1 : x < 9223372036854775808) (h2 : -9223372036854775808 ≤ y) (h3 : y < 9223372036854775808) : encI x < encI y ↔ x < y := by
  unfold encI
  rw [be_lt 8 (by omega) (by omega)]
  omega
theorem setM_snoc {M : List KV} {k v : Bs} (h : ∀ a ∈ M, a.1 < k) : setM M k v = M ++ [(k, v)] := by
  unfold setM
  rw [List.filter_eq_self.2 (by simpa using h), List.filter_eq_nil_iff.2 (fun a ha => by simpa using blt_asymm (h a ha))]
structure Fl where
  k : Nat
  e : Ev
  a : Bool
def flP (l : List Fl) : List KV := l.map fun x => (encI x.k, msgB x.e x.a)
def sentB : Bs := [115, 101, 110, 116]
structure FlM (M : List KV) (n : Nat) (l : List Fl) : Prop where
  part : partM M (hdP 5 0) = flP l
  cnt : cntIs M sentB n
  ok : ∀ x ∈ l, x.k < n ∧ x.e.right ∧ x.e.ok ∧ x.e.nrm = x.e
  asc : l.Pairwise fun x y => x.k < y.k
theorem FlM.nil : FlM [] 0 [] := ⟨rfl, ⟨by omega, by omega, .inl ⟨rfl, rfl⟩⟩, by simp, List.Pairwise.nil⟩
theorem hdP_ne {a b c d : Int} (h : hdP a b ≠ hdP c d) : hdP a b ≠ hdP c d := h
theorem FlM.lt {M : List KV} {n : Nat} {l : List Fl} (h : FlM M n l) : n ≤ 1099511627776 := by
  have := h.cnt.2.1; omega
theorem FlM.send {M : List KV} {n : Nat} {l : List Fl} (h : FlM M n l) (hM : AscM M) (hn : n < 1099511627776) {e : Ev} (hr : e.right) (ho : e.ok) (a : Bool) :
    FlM (setM (setM M (hdP 7 0 ++ sentB) (encI ((n : Int) + 1))) (hdP 5 0 ++ encI n) (msgB e a)) (n + 1) (l ++ [⟨n, e.nrm, a⟩]) := by
  have hM1 := setM_asc hM (hdP 7 0 ++ sentB) (encI ((n : Int) + 1))
  refine ⟨?_, ⟨by omega, by omega, .inr ?_⟩, fun x hx => ?_, ?_⟩
  · rw [setM_part (hdP_len 5 0) hM1, setM_other (hdP_len 7 0) hM (hdP_len 5 0) (by decide), h.part, setM_snoc]
    · simp [flP, msgB, evB_nrm]
    · intro x hx
      obtain ⟨y, hy, rfl⟩ := List.mem_map.1 hx
      have := h.ok y hy
      exact (encI_lt (by omega) (by omega) (by omega) (by omega)).2 (by omega)
  · rw [getM_part (hdP_len 7 0) (setM_asc hM1 _ _), setM_other (hdP_len 5 0) hM1 (hdP_len 7 0) (by decide), setM_part (hdP_len 7 0) hM]
    rw [getM_iff (setM_asc (partM_asc hM _) _ _), mem_setM]
    left
    congr 2
  · rcases List.mem_append.1 hx with hx | hx
    · have := h.ok x hx
      exact ⟨by omega, this.2⟩
    · rw [List.mem_singleton.1 hx]
      exact ⟨Nat.lt_succ_self n, Ev.nrm_right hr, Ev.nrm_ok ho, Ev.nrm_nrm e⟩
  · rw [List.pairwise_append]
    refine ⟨h.asc, by simp, fun x hx y hy => ?_⟩
    rw [List.mem_singleton.1 hy]
    exact (h.ok x hx).1
theorem FlM.take {M : List KV} {n : Nat} {l : List Fl} (h : FlM M n l) (hM : AscM M) {i : Nat} {x : Fl} (hi : l[i]? = some x) :
    FlM (delM M (hdP 5 0 ++ encI x.k)) n (l.eraseIdx i) := by
  have hlt := (List.getElem?_eq_some_iff.1 hi).1
  have hx : x ∈ l := List.mem_of_getElem? hi
  have hsub : (l.eraseIdx i).Sublist l := List.eraseIdx_sublist ..
  refine ⟨?_, ⟨h.cnt.1, h.cnt.2.1, ?_⟩, fun y hy => h.ok y (hsub.subset hy), h.asc.sublist hsub⟩
  · rw [delM_part (hdP_len 5 0), h.part]
    have hsp : l = l.take i ++ x :: l.drop (i + 1) := by
      conv => lhs; rw [← List.take_append_drop i l]
      rw [List.drop_eq_getElem_cons hlt, (List.getElem?_eq_some_iff.1 hi).2]
    have hasc := h.asc
    rw [hsp, List.pairwise_append, List.pairwise_cons] at hasc
    have hk := (h.ok x hx).1
    have hn := h.lt
    have hne : ∀ y ∈ l, y.k ≠ x.k → encI y.k ≠ encI x.k := fun y hy hne e => by
      have h1 := (h.ok y hy).1
      have := encI_inj (by omega) (by omega) (by omega) (by omega) e
      omega
    rw [List.eraseIdx_eq_take_drop_succ]
    unfold delM flP
    conv => lhs; rw [hsp]
    rw [List.map_append, List.map_cons, List.filter_append, List.filter_cons_of_neg (by simp), List.map_append]
    rw [List.filter_eq_self.2, List.filter_eq_self.2]
    · intro a ha
      obtain ⟨y, hy, rfl⟩ := List.mem_map.1 ha
      have h2 := hasc.2.1.1 y hy
      simpa using hne y (List.mem_of_mem_drop hy) (by omega)
    · intro a ha
      obtain ⟨y, hy, rfl⟩ := List.mem_map.1 ha
      have h2 := hasc.2.2 y hy x (by simp)
      simpa using hne y (List.mem_of_mem_take hy) (by omega)
  · have hq : getM (delM M (hdP 5 0 ++ encI x.k)) (hdP 7 0 ++ sentB) = getM M (hdP 7 0 ++ sentB) := by
      rw [getM_part (hdP_len 7 0) (delM_asc hM _), getM_part (hdP_len 7 0) hM, delM_other (hdP_len 5 0) (by decide)]
    rw [hq]
    exact h.cnt.2.2
theorem FlM.has {M : List KV} {n : Nat} {l : List Fl} (h : FlM M n l) (hM : AscM M) {i : Nat} {x : Fl} (hi : l[i]? = some x) : getM M (hdP 5 0 ++ encI x.k) = some (msgB x.e x.a) := by
  rw [getM_part (hdP_len 5 0) hM, getM_iff (partM_asc hM _), h.part]
  exact List.mem_map.2 ⟨x, List.mem_of_getElem? hi, rfl⟩
theorem FlM.scan {M : List KV} {n : Nat} {l : List Fl} (h : FlM M n l) (hl : l.length ≤ 1000) : scanM (partM M (hdP 5 0)) [] [] 1099511627776 = flP l := by
  unfold scanM
  rw [h.part, List.filter_eq_self.2, List.take_of_length_le]
  · simp [flP]; omega
  · intro a _; simp [inR]
end Go.Proofs.YtnnghcooidjlhaaGreat
end
section
set_option linter.unusedSimpArgs false
namespace Go.Proofs.YtnnghcooidjlhaaGreat
section
variable {P : Program} {ops : Array Oper} {C : World → Prop}
def vUpon (C : World → Prop) (V : Value → Prop) : Result Next → Prop
  | .ok (.value u) w' => C w' ∧ V u
  | .ok .skip w' => C w' ∧ V undef
  | _ => False
def vAt (P : Program) (o : Oper) (a : Act) (C : World → Prop) (V : Value → Prop) : Prop := ∀ w, C w → vUpon C V ((execOp a.eval o).run P w)
def vOne (P : Program) (o : Oper) (a : Act) (C : World → Prop) (next : Act → Prop) : Prop := ∃ V, vAt P o a C V ∧ ∀ v, V v → next (a.put o.dst v)
def wpV (P : Program) (ops : Array Oper) (C : World → Prop) (Q : Act → Prop) : List Oper → Act → Prop
  | [], a => Q a
  | o :: rest, a => if Region.wanted o (yielded ops a.tmps) then vOne P o a C (wpV P ops C Q rest) else wpV P ops C Q rest (a.put o.dst undef)
theorem wpV_cons {Q : Act → Prop} {a : Act} {o : Oper} {rest : List Oper} : wpV P ops C Q (o :: rest) a = (if Region.wanted o (yielded ops a.tmps) then vOne P o a C (wpV P ops C Q rest) else wpV P ops C Q rest (a.put o.dst undef)) := rfl
theorem wpV_nil {Q : Act → Prop} {a : Act} (h : Q a) : wpV P ops C Q [] a := h
theorem wpV_step {Q : Act → Prop} {a : Act} {o : Oper} {rest : List Oper}
    (h : ∀ K : Act → Prop, (∀ a, wpV P ops C Q rest a → K a) → if Region.wanted o (yielded ops a.tmps) then vOne P o a C K else K (a.put o.dst undef)) : wpV P ops C Q (o :: rest) a :=
  h _ (fun _ h => h)
def vOp (P : Program) (ops : Array Oper) (C : World → Prop) (i : Nat) (K : Act → Prop) (a : Act) : Prop :=
  match ops[i]? with
  | none => K a
  | some o => if Region.wanted o (yielded ops a.tmps) then vOne P o a C K else K (a.put o.dst undef)
theorem vOne_mono {o : Oper} {a : Act} {K K' : Act → Prop} (h : ∀ a, K a → K' a) (hh : vOne P o a C K) : vOne P o a C K' := by
  obtain ⟨V, h1, h2⟩ := hh
  exact ⟨V, h1, fun v hv => h _ (h2 v hv)⟩
theorem vOp_mono {i : Nat} {a : Act} {K K' : Act → Prop} (h : ∀ a, K a → K' a) (hh : vOp P ops C i K a) : vOp P ops C i K' a := by
  unfold vOp at *
  cases ho : ops[i]? with
  | none => simp only [ho] at hh ⊢; exact h _ hh
  | some o =>
    simp only [ho] at hh ⊢
    by_cases hw : Region.wanted o (yielded ops a.tmps) = true
    · rw [if_pos hw] at hh ⊢; exact vOne_mono h hh
    · rw [if_neg hw] at hh ⊢; exact h _ hh
def wpAnyV (P : Program) (ops : Array Oper) (C : World → Prop) (Q : Act → Prop) : Nat → Array Bool → Act → Prop
  | 0, listed, a => Region.ready .any ops listed = [] ∧ Q a
  | n + 1, listed, a => (Region.ready .any ops listed = [] → Q a) ∧ ∀ i ∈ Region.ready .any ops listed, vOp P ops C i (wpAnyV P ops C Q n (listed.setIfInBounds i true)) a
theorem wp_of_vOne {o : Oper} {a : Act} {K : Act → Prop} {K' : Act → World → Prop} {Q' : Exit → Act → World → Prop} {w : World} (hw : C w) (h : ∀ a w', C w' → K a → K' a w') (hh : vOne P o a C K) : o.wp P a w K' Q' := by
  obtain ⟨V, h1, h2⟩ := hh
  have h3 := h1 w hw
  unfold Oper.wp
  cases hr : (execOp a.eval o).run P w with
  | halt x w' => rw [hr] at h3; exact h3.elim
  | ok n w' =>
    rw [hr] at h3
    cases n with
    | value u => exact h _ _ h3.1 (h2 _ h3.2)
    | skip => exact h _ _ h3.1 (h2 _ h3.2)
    | _ => exact h3.elim
theorem wpOp_of_vOp {i : Nat} {a : Act} {K : Act → Prop} {K' : Act → World → Prop} {Q' : Exit → Act → World → Prop} {w : World} (hC : C w) (h : ∀ a w', C w' → K a → K' a w') (hh : vOp P ops C i K a) : wpOp P ops Q' i K' a w := by
  unfold vOp at hh
  unfold wpOp
  cases ho : ops[i]? with
  | none => simp only [ho] at hh ⊢; exact h _ _ hC hh
  | some o =>
    simp only [ho] at hh ⊢
    by_cases hw : Region.wanted o (yielded ops a.tmps) = true
    · rw [if_pos hw] at hh ⊢; exact .inl (wp_of_vOne hC h hh)
    · rw [if_neg hw] at hh ⊢; exact h _ _ hC hh
theorem wpAny_of_v {Q : Act → Prop} {Q' : Exit → Act → World → Prop} (hQ : ∀ a w, C w → Q a → Q' .normal a w) : ∀ (n : Nat) (listed : Array Bool) (a : Act) (w : World), C w → wpAnyV P ops C Q n listed a → wpAny P .any ops Q' n listed a w
  | 0, _, _, _, hw, h => ⟨h.1, hQ _ _ hw h.2⟩
  | n + 1, _, _, _, hw, h => ⟨fun h0 => hQ _ _ hw (h.1 h0), fun i hi => wpOp_of_vOp hw (fun a' w' hw' => wpAny_of_v hQ n _ a' w' hw') (h.2 i hi)⟩
def VYields (P : Program) (ops : Array Oper) (C : World → Prop) (o : Oper) (V : Value → Prop) (a : Act) : Prop :=
  (Region.wanted o (yielded ops a.tmps) = true ∧ vAt P o a C V) ∨ (Region.wanted o (yielded ops a.tmps) = false ∧ V undef)
theorem VYields.vOp {i : Nat} {o : Oper} {V : Value → Prop} {a : Act} (hi : ops[i]? = some o) (hy : VYields P ops C o V a) {K : Act → Prop} (h : ∀ v, V v → K (a.put o.dst v)) : vOp P ops C i K a := by
  unfold Go.Proofs.YtnnghcooidjlhaaGreat.vOp
  simp only [hi]
  rcases hy with ⟨hw, hv⟩ | ⟨hw, hv⟩
  · rw [if_pos hw]; exact ⟨V, hv, h⟩
  · rw [if_neg (by simp [hw])]; exact h _ hv
theorem VYields.same {o : Oper} {V : Value → Prop} {a a' : Act} (hy : VYields P ops C o V a) (he : execOp a'.eval o = execOp a.eval o)
    (hw : Region.wanted o (yielded ops a'.tmps) = Region.wanted o (yielded ops a.tmps)) : VYields P ops C o V a' := by
  unfold VYields vAt at *
  rw [he, hw]
  exact hy
theorem vyields_of_vOp {i : Nat} {o : Oper} {a : Act} {K : Act → Prop} (hi : ops[i]? = some o) (h : vOp P ops C i K a) : ∃ V, VYields P ops C o V a ∧ ∀ v, V v → K (a.put o.dst v) := by
  unfold vOp at h
  simp only [hi] at h
  by_cases hw : Region.wanted o (yielded ops a.tmps) = true
  · rw [if_pos hw] at h
    obtain ⟨V, h1, h2⟩ := h
    exact ⟨V, .inl ⟨hw, h1⟩, h2⟩
  · rw [if_neg hw] at h
    exact ⟨fun v => v = undef, .inr ⟨by simpa using hw, rfl⟩, fun v hv => by rw [hv]; exact h⟩
theorem VYields.some {o : Oper} {V : Value → Prop} {a : Act} (hy : VYields P ops C o V a) (hC : ∃ w, C w) : ∃ v, V v := by
  rcases hy with ⟨_, hv⟩ | ⟨_, hv⟩
  · obtain ⟨w, hw⟩ := hC
    have := hv w hw
    unfold vUpon at this
    split at this
    · exact ⟨_, this.2⟩
    · exact ⟨_, this.2⟩
    · exact this.elim
  · exact ⟨_, hv⟩
theorem vOp_apart {j : Nat} {oi oj : Oper} {V : Value → Prop} (hC : ∃ w, C w) (hj : ops[j]? = some oj) (hap : oi.apart ops oj = true)
    (hsi : ∀ cs b, oi.op ≠ .select cs b) (hsj : ∀ cs b, oj.op ≠ .select cs b) {K : Act → Prop} {a : Act}
    (hy : VYields P ops C oi V a) (h : ∀ v, V v → vOp P ops C j K (a.put oi.dst v)) :
    vOp P ops C j (fun a' => VYields P ops C oi V a' ∧ ∀ v, V v → K (a'.put oi.dst v)) a := by
  obtain ⟨h1, h2, h3⟩ := Oper.apart_spec hap
  have keep : ∀ u, VYields P ops C oi V (a.put oj.dst u) := fun u => hy.same (execOp_put oi hsi a oj.dst u h3) (wanted_put oi a oj.dst u h3)
  have hw' : ∀ v, Region.wanted oj (yielded ops (a.put oi.dst v).tmps) = Region.wanted oj (yielded ops a.tmps) := fun v => wanted_put oj a oi.dst v h1
  have he' : ∀ v, execOp (a.put oi.dst v).eval oj = execOp a.eval oj := fun v => execOp_put oj hsj a oi.dst v h1
  obtain ⟨v0, hv0⟩ := hy.some hC
  by_cases hw : Region.wanted oj (yielded ops a.tmps) = true
  · have hx : ∀ v, V v → vOne P oj (a.put oi.dst v) C K := fun v hv => by
      have := h v hv
      unfold vOp at this
      simp only [hj] at this
      rwa [if_pos (by rw [hw']; exact hw)] at this
    unfold vOp
    simp only [hj]
    rw [if_pos hw]
    refine ⟨fun u => ∀ v, V v → K ((a.put oj.dst u).put oi.dst v), fun w hCw => ?_, fun u hu => ⟨keep u, hu⟩⟩
    have one : ∀ v, V v → ∃ Vj : Value → Prop, vUpon C Vj ((execOp a.eval oj).run P w) ∧ ∀ u, Vj u → K ((a.put oj.dst u).put oi.dst v) := fun v hv => by
      obtain ⟨Vj, g1, g2⟩ := hx v hv
      have g3 := g1 w hCw
      rw [he' v] at g3
      exact ⟨Vj, g3, fun u hu => by rw [← Act.put_comm a v u h2]; exact g2 u hu⟩
    generalize (execOp a.eval oj).run P w = r at one
    obtain ⟨V0, g0, _⟩ := one v0 hv0
    unfold vUpon at g0 ⊢
    split at g0
    · exact ⟨g0.1, fun v hv => by obtain ⟨Vj, g1, g2⟩ := one v hv; exact g2 _ g1.2⟩
    · exact ⟨g0.1, fun v hv => by obtain ⟨Vj, g1, g2⟩ := one v hv; exact g2 _ g1.2⟩
    · exact g0.elim
  · have hx : ∀ v, V v → K ((a.put oi.dst v).put oj.dst undef) := fun v hv => by
      have := h v hv
      unfold vOp at this
      simp only [hj] at this
      rwa [if_neg (by rw [hw']; exact hw)] at this
    unfold vOp
    simp only [hj]
    rw [if_neg hw]
    exact ⟨keep _, fun v hv => by rw [← Act.put_comm a v undef h2]; exact hx v hv⟩
theorem wpAnyV_ahead {Q : Act → Prop} {i : Nat} {oi : Oper} {V : Value → Prop} (hC : ∃ w, C w) (hi : ops[i]? = some oi) (hsel : ∀ (j : Nat) (o : Oper) cs b, ops[j]? = some o → o.op ≠ .select cs b) (n : Nat) :
    ∀ (listed : Array Bool) (a : Act),
      (∀ j oj, ops[j]? = some oj → j ≠ i → listed.getD j true = false → (∀ e ∈ oj.after, Region.binds .any e = true → e.on ≠ i) → oi.apart ops oj = true) →
      i ∈ Region.ready .any ops listed → VYields P ops C oi V a →
      (∀ v, V v → wpAnyV P ops C Q n (listed.setIfInBounds i true) (a.put oi.dst v)) → wpAnyV P ops C Q (n + 1) listed a := by
  induction n with
  | zero =>
    intro listed a _ hr hy H
    obtain ⟨v0, hv0⟩ := hy.some hC
    refine ⟨fun h => (by rw [h] at hr; cases hr), fun j hj => ?_⟩
    by_cases hji : j = i
    · subst hji; exact hy.vOp hi H
    · have := ready_mono hj hji
      rw [(H v0 hv0).1] at this
      cases this
  | succ n ih =>
    intro listed a hfree hr hy H
    refine ⟨fun h => (by rw [h] at hr; cases hr), fun j hj => ?_⟩
    by_cases hji : j = i
    · subst hji; exact hy.vOp hi H
    · obtain ⟨hjun, oj, hoj, hall⟩ := mem_ready.1 hj
      have hno : ∀ e ∈ oj.after, Region.binds .any e = true → e.on ≠ i := fun e he hb heq => by
        have g1 := hall e he hb
        have g0 := (mem_ready.1 hr).1
        rw [heq] at g1
        rcases Nat.lt_or_ge i listed.size with h' | h'
        · simp [h'] at g0 g1; rw [g0] at g1; cases g1
        · simp [Array.getElem?_eq_none h'] at g1
      have h2 := vOp_apart hC hoj (hfree j oj hoj hji hjun hno) (fun cs b => hsel i oi cs b hi) (fun cs b => hsel j oj cs b hoj) hy (fun v hv => (H v hv).2 j (ready_mono hj hji))
      refine vOp_mono (fun a' h3 => ih (listed.setIfInBounds j true) a' (fun k ok hk hki hun hn => hfree k ok hk hki ?_ hn) (ready_mono hr (Ne.symm hji)) h3.1 fun v hv => ?_) h2
      · by_cases hjk : j = k
        · subst hjk; exact hjun
        · rw [getD_set_ne true hjk] at hun; exact hun
      · rw [Array.setIfInBounds_comm _ _ hji]
        exact h3.2 v hv
theorem wpAnyV_lex {Q : Act → Prop} (hC : ∃ w, C w) (hs : Region.noSelect ops = true) : ∀ (l : List Oper) (k : Nat) (listed : Array Bool) (a : Act), (∀ j, l[j]? = ops[k + j]?) →
    Region.lexFrom .any ops l.length k listed = true → wpV P ops C Q l a → wpAnyV P ops C Q l.length listed a
  | [], _, _, _, _, hB, h => ⟨by simpa [Region.lexFrom] using hB, h⟩
  | o :: l, k, listed, a, hl, hB, h => by
    have h0 : ops[k]? = some o := by simpa using (hl 0).symm
    simp only [List.length_cons, Region.lexFrom, Bool.and_eq_true] at hB
    obtain ⟨⟨hr, hf⟩, hB'⟩ := hB
    have hst : vOp P ops C k (wpV P ops C Q l) a := by unfold vOp; simp only [h0]; exact h
    obtain ⟨V, hy, hK⟩ := vyields_of_vOp h0 hst
    exact wpAnyV_ahead hC h0 (Region.noSelect_spec hs) l.length listed a (Region.free_spec h0 hf) (by simpa using hr) hy
      fun v hv => wpAnyV_lex hC hs l (k + 1) _ _ (fun j => by have := hl (j + 1); simpa [Nat.add_assoc, Nat.add_comm 1 j] using this) hB' (hK v hv)
def Dr (w : World) (w' : World) : Prop := ∃ n, w' = w.drewN n
theorem wp_region_v {id : Nat} {Q : Exit → Act → World → Prop} {a : Act} {w : World} {l : List Oper} (hm : P.follows .mixedOrders = true) (hB : Region.lexB .any l.toArray = true)
    (h : wpV P l.toArray (Dr w) (fun a' => ∀ n, Q .normal a' (w.drewN n)) l a) : (Code.region id l.toArray true).wp P Q a w := by
  simp only [Region.lexB, Bool.and_eq_true] at hB
  refine wp_region_any hm (wpAny_of_v (C := Dr w) (Q := fun a' => ∀ n, Q .normal a' (w.drewN n)) (fun _ w' hw' h => by obtain ⟨n, rfl⟩ := hw'; exact h n) _ _ _ _ ⟨1, rfl⟩ ?_)
  have := wpAnyV_lex (C := Dr w) (Q := fun a' => ∀ n, Q .normal a' (w.drewN n)) ⟨_, 1, rfl⟩ hB.1 l 0 (Array.replicate l.toArray.size false) a (by simp) (by simpa using hB.2) h
  simpa using this
end
attribute [irreducible] wpV
end Go.Proofs.YtnnghcooidjlhaaGreat
end
