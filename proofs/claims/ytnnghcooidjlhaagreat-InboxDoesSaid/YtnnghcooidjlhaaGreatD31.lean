/- Parts of the proof: Rd Re Xd. -/
import Derived.Deep.RegionLaw
import Derived.Deep.RegionHeld3
import Derived.Test.YtnnghcooidjlhaaGreatD08
import Derived.Test.YtnnghcooidjlhaaGreatD23
import Derived.Test.YtnnghcooidjlhaaGreatD26
import Derived.Test.YtnnghcooidjlhaaGreatD27
import Derived.Test.YtnnghcooidjlhaaGreatD28
import Derived.Test.YtnnghcooidjlhaaGreatD29
import Derived.Test.YtnnghcooidjlhaaGreatD30
set_option linter.all false
set_option maxRecDepth 100000
namespace Go.Proofs.YtnnghcooidjlhaaGreat
section
open Go.RowKit Go.Lib
def fr0 : Fr := ⟨-1, [], 0, false, false⟩
theorem infFrame : (Tryz.prog.info? 269).map (fun i => (i.zero, i.size, i.bytes)) = some (some (.agg #[.int .i64 0, .string ⟨#[]⟩, .int .i64 0, .bool false, .bool false]), 5, 40) := by kernel_rfl
theorem frC_one (x : Fr) : ∀ u ∈ frC x, u.oneCell' = true := by
 intro u hu
 simp [frC] at hu
 rcases hu with rfl | rfl | rfl | rfl | rfl <;> rfl
set_option maxHeartbeats 1000000 in
theorem pempty_any (w : World) : Calls Tryz.prog 143 #[] w fun e w' => e = .returned (.agg #[.int .i64 (-1), .string ⟨#[]⟩, .int .i64 0, .bool false, .bool false]) ∧ Below w.heap.size w w' := by
 go_enter Tryz.func143, Tryz.ntmps143
 go_wp2
 have hr := Blk.new w 269 #[.int .i64 (-1), .string ⟨#[]⟩, .int .i64 0, .bool false, .bool false]
 have v0 := hr.cell 0
 have v1 := hr.cell 1
 have v2 := hr.cell 2
 have v3 := hr.cell 3
 have v4 := hr.cell 4
 simp only [List.getElem?_toArray, List.getElem?_cons_zero, List.getElem?_cons_succ] at v0 v1 v2 v3 v4
 refine bodyPost_ret (v := .agg #[.int .i64 (-1), .string ⟨#[]⟩, .int .i64 0, .bool false, .bool false]) (by simp [results, Tryz.results143, go_sem, v0, v1, v2, v3, v4]) rfl ⟨rfl, (Below.refl _ w).alloc (Nat.le_refl _) _⟩
theorem step_app_one {ops : Array Oper} {o : Oper} {a : Act} {K : Act → World → Prop} {Q : Exit → Act → World → Prop} (hgd : o.guard = none) (s x : Operand) (t : TypeId)
  (ho : o.op = .call { callee := .builtin .append, args := #[s, x], argTypes := #[t, t] }) {α : Type} (enc : α → List Value) {e : TypeId} {z : Value} {size bytes : Nat} (hi : (Tryz.prog.info? e).map (fun i => (i.zero, i.size, i.bytes)) = some (some z, size, bytes)) (ht : Tryz.prog.underlying t = some (.slice e))
  (hzs : z.cells.size = size) (hsz : 0 < size) (hby : bytes ≤ 1000) (hk : ∀ x, (enc x).length = size) (hone : ∀ x, ∀ u ∈ enc x, u.oneCell' = true) {B : Nat} {W : World} {v : Value} {l : List α} {n : Nat} (x0 : α) (hown : W.ownsRow B e size v n (rowV enc l)) (hn : n ≤ 100000) (hB : B ≤ W.heap.size)
  (hs : a.eval s = v) (hx : a.eval x = .slice (some ⟨W.heap.size, 0, none⟩) 1 1)
  (h : ∀ v' w', w'.ownsRow B e size v' (n + 1) (rowV enc (l ++ [x0])) → Kp v.ownBlock.toList W w' → (∀ g, v'.ownBlock = some g → v.ownBlock = some g ∨ W.heap.size ≤ g) → K (a.put o.dst v') w') :
  if Region.wanted o (yielded ops a.tmps) = true then Oper.wp Tryz.prog o a (W.alloc (.cells (enc x0).toArray e)) K Q else K (a.put o.dst undef) (W.alloc (.cells (enc x0).toArray e)) := by
 rw [if_pos (by unfold Region.wanted; rw [hgd])]
 obtain ⟨i0, hi0, hz0, hz1, hz2⟩ := info_parts hi
 obtain ⟨v', w', hr, h2, h3, h4⟩ := run_app_fresh (P := Tryz.prog) (W.alloc (.cells (enc x0).toArray e)) B t o.type e i0 z size bytes ht hi0 hz0 hz1 hz2 hzs hsz v n _ (hown.alloc _) ⟨W.heap.size, 0, none⟩ 1 (enc x0) (hk x0) (news_of (Blk.new W e (enc x0).toArray)) (hone x0) (by unfold maxLen; omega)
  (by
   have : (n + 1) * bytes ≤ 100001 * 1000 := Nat.mul_le_mul (by omega) hby
   omega) (by simp; omega)
 unfold Oper.wp execOp
 simp only [ho, resolve, invoke, builtin, Sem.run_bind, Sem.run_pure, Result.andThen_ok, List.map_toArray, List.map_cons, List.map_nil, hs, hx, hr]
 refine h v' w' (by rw [rowV_append, rowV_cons, rowV_nil, List.append_nil]; exact h2) (((Kp.refl _ W).alloc _).grown h3 (fun g hg => .inl (Option.mem_toList.2 hg))) (fun g hg => (h4 g hg).imp id (fun h' => ?_))
 simp at h'
 omega
set_option maxHeartbeats 8000000 in
theorem pool_new (s : Nat) (w : World) : Calls Tryz.prog 91 #[.pointer (some ⟨s, 0, none⟩), .int .i64 5] w fun e w' => ∃ p v, e = .returned (.tuple #[.pointer (some ⟨p, 0, none⟩), .int .i64 0]) ∧ Blk w' p 267 #[.pointer (some ⟨s, 0, none⟩), v, .int .i64 0] ∧ w'.ownsRow (p + 1) 269 5 v 5 (rowV frC (List.replicate 5 fr0)) ∧ w.heap.size ≤ p ∧ Below w.heap.size w w' := by
 have HE := hid (fun W => pempty_any W)
 go_enter Tryz.func91, Tryz.ntmps91
 go_wp2
 have hP0 := Blk.new w 267 #[.pointer (some ⟨s, 0, none⟩), .slice none 0 0, .int .i64 0]
 obtain ⟨W1, hW1⟩ : ∃ W1, W1 = w.alloc (.cells #[.pointer (some ⟨s, 0, none⟩), .slice none 0 0, .int .i64 0] 267) := ⟨_, rfl⟩
 rw [← hW1] at hP0 ⊢
 have hb1 : Below w.heap.size w W1 := by rw [hW1]; exact (Below.refl _ w).alloc (Nat.le_refl _) _
 have HI0 : Hid (Blk W1 w.heap.size 267 #[.pointer (some ⟨s, 0, none⟩), .slice none 0 0, .int .i64 0] ∧ W1.ownsRow (w.heap.size + 1) 269 5 (.slice none 0 0) 0 (rowV frC (List.replicate 0 fr0)) ∧ Below w.heap.size w W1) := hid ⟨hP0, ⟨rfl, .inl ⟨rfl, rfl⟩⟩, hb1⟩
 clear hP0 hb1 hW1
 go_loopg [21] 5 (fun gg s21 wr => ∃ (j : Nat) (v : Value), j ≤ 5 ∧ 5 - j ≤ gg ∧ s21 = .int .i64 j ∧ Hid (Blk wr w.heap.size 267 #[.pointer (some ⟨s, 0, none⟩), v, .int .i64 0] ∧ wr.ownsRow (w.heap.size + 1) 269 5 v j (rowV frC (List.replicate j fr0)) ∧ Below w.heap.size w wr))
 case atStart => exact ⟨0, _, by omega, by omega, rfl, HI0⟩
 case round =>
  obtain ⟨j, v, hj, hgg, rfl, HI⟩ := hrel
  by_cases hje : j < 5
  ·obtain ⟨hB, hO, hb⟩ := HI.out
   obtain ⟨pa, pc, rfl⟩ := own_slice2 hO
   have c1 : wr.cell? ⟨w.heap.size, 1, none⟩ = some (.slice pa j pc) := hB.cell 1
   have f1 := hB.frozen 1
   have hlt := hB.lt
   have hji : (j : Int) < 5 := by omega
   clear hB hO hb
   go_wp2
   go_region_law (first
    | (refine step_app_one rfl _ _ 265 rfl frC infFrame Tryz.underlying265 rfl (by decide) (by decide) frC_len frC_one fr0 (hOE : World.ownsRow _ _ _ _ _ _ _) (by omega) hszE rfl rfl ?_; intro v' w5 hO5 hk5 hg5; obtain ⟨g2, c2, rfl, hg21, hg22, hg23⟩ := own_form hO5 (by omega); have hB5 := (HI.out.1.below hbE' hlt).kp hk5 (fun hm => by have := (hOE.lt _ (Option.mem_toList.1 hm)).1; omega); have c5 := hB5.cell 1; have f5 := hB5.frozen 1; have l5 := hB5.lt)
    | (go_simp; refine (HE.out _).mono ?_; rintro e wE ⟨rfl, hbE⟩; have hbE' := below_undrew hbE; have hOE := row_of HI.out.2.1 (fun b hb => hbE'.block b (HI.out.2.1.lt b hb).2); have hszE : w.heap.size + 1 ≤ wE.heap.size := Nat.le_trans hlt hbE'.size; have cE := (HI.out.1.below hbE' hlt).cell 1; have fE := (HI.out.1.below hbE' hlt).frozen 1; have lE := (HI.out.1.below hbE' hlt).lt; dsimp only))
   all_goals
    go_wp2
    go_roundg (5 - (j + 1))
    case measure => omega
    case rel =>
     have e1 : List.replicate (j + 1) fr0 = List.replicate j fr0 ++ [fr0] := by rw [← List.replicate_append_replicate]; rfl
     refine ⟨j + 1, _, by omega, by omega, by go_num, hid ⟨by simpa using hB5.set_ 1 (.slice (some ⟨g2, 0, none⟩) (j + 1) c2), ?_, ?_⟩⟩
     ·rw [e1]
      exact row_of hO5 (fun b hb => by
       simp [Value.ownBlock] at hb
       subst hb
       exact Below.heap_setCell _ _ _ _ (by show g2 ≠ w.heap.size; omega))
     ·have hbw : Below w.heap.size w wE := HI.out.2.2.trans (hbE'.mono HI.out.2.2.size)
      have hb5 : Below w.heap.size wE w5 := hk5.to_below (Nat.le_trans (Nat.le_succ _) hszE) (fun x hx => by have := (hOE.lt _ (Option.mem_toList.1 hx)).1; omega)
      exact (hbw.trans hb5).setCell (Nat.le_refl _) _
  ·have hj5 : j = 5 := by omega
   subst hj5
   go_wp2
   go_ret2
   exact ⟨w.heap.size, v, rfl, HI.out.1, HI.out.2.1, Nat.le_refl _, HI.out.2.2⟩
theorem ShI.below_ {w w' : World} {L : ShL} {G : ShG} {pgs : List (Option Bs)} (h : ShI w L G pgs) (hb : Below w.heap.size w w') : ShI w' L G pgs := h.of_blocks fun b hx => hb.block b (h.lts b hx)
theorem rel_new : Rel (List.replicate 5 fr0) [] [] := by
 have hf : ∀ {i : Nat} {x : Fr}, (List.replicate 5 fr0)[i]? = some x → x = fr0 := fun {i x} h => by
  rw [List.getElem?_replicate] at h
  split at h
  ·injection h with h; exact h.symm
  ·cases h
 refine ⟨fun q => rfl, fun q => .inl rfl, fun i x q h hp => ?_, fun i j x y q h h2 hp => ?_, fun i x h _ => ?_⟩
 ·rw [hf h] at hp; simp [fr0] at hp
 ·intro hp2
  rw [hf h] at hp; simp [fr0] at hp
 ·rw [hf h]; rfl
set_option maxHeartbeats 2000000 in
theorem pool_fresh {w : World} {L : ShL} {G : ShG} (h : ShI w L G []) :
  Calls Tryz.prog 91 #[.pointer (some ⟨L.s, 0, none⟩), .int .i64 5] w fun e w' => ∃ P O, e = .returned (.tuple #[.pointer (some ⟨P.p, 0, none⟩), .int .i64 0]) ∧ P.S = L ∧ PoI w' P O [] ∧ Below w.heap.size w w' ∧ ∀ b ∈ O, b ∈ shOwn L G ∨ w.heap.size ≤ b := by
 have hl := h.lts
 refine (pool_new L.s w).mono ?_
 rintro e w' ⟨p, v, rfl, hP, hO, hp, hb⟩
 obtain ⟨g, c, rfl, hg1, hg2, hg3⟩ := own_form hO (by omega)
 refine ⟨⟨L, p, g, c⟩, _, rfl, rfl, ⟨G, List.replicate 5 fr0, 0, [], rfl, ⟨⟨hP, own_base hO (Nat.zero_le _), by simp, by omega, by show p ≠ g; omega⟩, h.below_ hb, fun hm => ?_, fun hm => ?_, rel_new⟩, fun i y hy => ?_⟩, hb, fun b hb' => ?_⟩
 ·have := hl p hm; omega
 ·have := hl g hm; omega
 ·rw [List.getElem?_replicate] at hy
  split at hy
  ·injection hy with hy; rw [← hy]; rfl
  ·cases hy
 ·simp only [poOwn, List.mem_cons] at hb'
  rcases hb' with rfl | rfl | hb'
  ·exact .inr hp
  ·exact .inr (by omega)
  ·exact .inl hb'
end
section
open Go.RowKit Go.Lib
set_option maxHeartbeats 2000000 in
theorem sh_none {w : World} {P : PL} {O : List Nat} (h : PoI w P O []) :
  Calls Tryz.prog 145 #[.pointer (some ⟨P.S.s, 0, none⟩)] w fun e w' => e = .returned (.slice none 0 0) ∧ w = w' := by
 obtain ⟨G, l, hand, p0, rfl, h, h0⟩ := h
 have hp0 : p0 = [] := by
  have := h.rl.len
  exact List.eq_nil_of_length_eq_zero (by simpa using this.symm)
 have hT : G.T = [] := List.eq_nil_of_length_eq_zero (by rw [h.sh.tl, hp0]; rfl)
 have htb := h.sh.tb
 rw [hT] at htb
 obtain ⟨a, c, htv⟩ := own_slice2 htb
 have c2 : w.cell? ⟨P.S.s, 2, none⟩ = some (.slice a 0 c) := by rw [h.sh.c.cell]; simp [shCells, htv]
 clear h h0 hp0 hT htb htv
 go_enter Tryz.func145, Tryz.ntmps145
 go_wp2
 go_loopg [3, 4, 5, 14] 0 (fun gg s3 s4 s5 s14 wr => s14 = .int .i64 0 ∧ s3 = .slice none 0 0 ∧ wr = w)
 case atStart => exact ⟨rfl, rfl, rfl⟩
 case round =>
  obtain ⟨rfl, rfl, rfl⟩ := hrel
  go_wp2
  go_ret
  exact ⟨rfl, rfl⟩
theorem leaf0_used : used (recs ⟨true, []⟩) ≤ 232 := by decide
theorem leaf0_may : mayN ⟨true, []⟩ := ⟨by simp, List.Pairwise.nil⟩
theorem mapI_fresh {m : Mp} (h : m 0 = some (pgOf ⟨true, []⟩)) (hall : ∀ r, m r ≠ none → r = 0) : MapI m 0 [] [(0, 0, 0)] 0 where
 rep := ⟨⟨h, leaf0_may, by simp⟩, rfl⟩
 nd := by simp [fars]
 all := fun r hr => by rw [hall r hr]; simp
 ch := by simp
 pot := fun p => by simp [Pot.sum, Pot.one]
 dep := fun h hh => by omega
set_option maxHeartbeats 8000000 in
theorem tree_open {w : World} {P : PL} {O : List Nat} (h : PoI w P O []) :
  Calls Tryz.prog 146 #[.pointer (some ⟨P.p, 0, none⟩)] w fun e w' => ∃ tb O', e = .returned (.tuple #[.pointer (some ⟨tb, 0, none⟩), .int .i64 0]) ∧ TreeI w' P O' tb 0 [] ∧ Kp O w w' ∧ Gr O w.heap.size O' ∧ w.heap.size ≤ tb := by
 have hno : ∀ b, w.heap.size ≤ b → b ∉ O := fun b hb hm => by have := h.lts b hm; omega
 obtain ⟨W1, hW1⟩ : ∃ W1, W1 = w.alloc (.cells #[.pointer (some ⟨P.p, 0, none⟩)] 318) := ⟨_, rfl⟩
 have hb1 : Below w.heap.size w W1 := by rw [hW1]; exact (Below.refl _ w).alloc (Nat.le_refl _) _
 have hs1 : W1.heap.size = w.heap.size + 1 := by rw [hW1]; simp
 have hT1 : TrI W1 P w.heap.size := by rw [hW1]; exact Blk.new w _ _
 have h1 := h.below hb1
 have HST := hid (pi_store h1)
 have HSP := hid (sh_none h1)
 have HNP := hid (nput_any (w := W1) (n := ⟨true, []⟩) (v := .slice none 0 0) leaf0_may ⟨⟨none, 0, rfl, by simp, (fun g o e => by cases e), fun e => absurd rfl e⟩⟩ (by simp))
 rw [show putR ⟨true, []⟩ = .tuple #[.string (S (pgOf ⟨true, []⟩)), .int .i64 0] from ofR_pos leaf0_used] at HNP
 have hpl : (pgOf ⟨true, []⟩).length = 232 := lay_length leaf0_used
 unfold ndV at HNP
 have HX := hid (⟨h1, hT1, hb1, hno, hs1⟩ : _ ∧ _ ∧ _ ∧ _ ∧ _)
 rw [hW1] at HST HSP HNP
 have HW1 := hid hW1
 clear h hno hb1 hs1 hT1 h1 hW1
 go_enter Tryz.func146, Tryz.ntmps146
 go_wp2_with fail
 (with_reducible refine HST.out.mono ?_)
 rintro e w1 ⟨rfl, rfl⟩
 go_wp2_with fail
 (with_reducible refine HSP.out.mono ?_)
 rintro e w1 ⟨rfl, rfl⟩
 go_wp2_with fail
 (with_reducible refine HNP.out.mono ?_)
 rintro e W2 ⟨rfl, hb2⟩
 rw [← HW1.out] at hb2
 obtain ⟨h1, hT1, hb1, hno, hs1⟩ := HX.out
 have h2 := h1.below hb2
 have hT2 : TrI W2 P w.heap.size := Blk.below hT1 hb2 (Blk.lt hT1)
 have HNEW := hid (pi_new h2 (pgOf ⟨true, []⟩) (by omega) (by decide))
 have H2 := hid (⟨hb1.trans (hb2.mono hb1.size), hT2⟩ : _ ∧ _)
 clear h1 hT1 hb1 hno hs1 h2 hT2 hb2
 go_wp2_with fail
 (with_reducible refine HNEW.out.mono ?_)
 rintro e W3 ⟨q, O3, rfl, hq1, hq2, h3, hk3, hg3⟩
 obtain rfl : q = 0 := by simpa using hq1
 have hpg : newAt [] 0 (pad (pgOf ⟨true, []⟩)) = [some (pgOf ⟨true, []⟩)] := by
  have : pad (pgOf ⟨true, []⟩) = pgOf ⟨true, []⟩ := by unfold pad; rw [hpl]; simp
  rw [this]; rfl
 rw [hpg] at h3
 have hT3 : TrI W3 P w.heap.size := Blk.kp H2.out.2 hk3 (HX.out.2.2.2.1 _ (Nat.le_refl _))
 have HRD := hid (read_any hT3 h3 (q := 0) (n := ⟨true, []⟩) rfl leaf0_may (by simp))
 rw [show ((0 : Nat) : Int) = 0 from rfl] at HRD
 have H3 := hid (⟨(Kp.of_below H2.out.1).trans hk3, hg3.mono H2.out.1.size, hT3, hg3⟩ : _ ∧ _ ∧ _ ∧ _)
 clear hq1 hq2 h3 hk3 hg3 hpg hT3
 go_wp2_with fail
 (with_reducible refine HRD.out.mono ?_)
 rintro e W4 ⟨v, rfl, hO4, hk4, h4⟩
 unfold ndV
 obtain ⟨a4, c4, rfl⟩ := own_slice2 hO4
 have hto : w.heap.size ∉ O3 := H3.out.2.2.2.out (Nat.lt_of_lt_of_le (Blk.lt (show Blk W2 w.heap.size _ _ from H2.out.2)) (Nat.le_refl _)) (HX.out.2.2.2.1 _ (Nat.le_refl _))
 have hT4 : TrI W4 P w.heap.size := Blk.kp H3.out.2.2.1 hk4 hto
 have hm : MapI (pg [some (pgOf ⟨true, []⟩)]) 0 [] [(0, 0, 0)] 0 := mapI_fresh rfl (fun r hr => by
  cases r with
  | zero => rfl
  | succ r => exact absurd rfl hr)
 have hF : ∀ W, Below W4.heap.size W4 W → TreeI W P O3 w.heap.size 0 [] ∧ Kp O w W := fun W hW => ⟨⟨[some (pgOf ⟨true, []⟩)], 0, [], [(0, 0, 0)], h4.below hW, Blk.below hT4 hW (Blk.lt hT4), hto, hm, by omega, rfl⟩,
  (H3.out.1.trans_gr H3.out.2.1 hk4).trans (Kp.of_below hW)⟩
 have HF := hid hF
 clear hO4 hk4 h4 hto hT4 hm hF
 go_wp2
 go_ret2
 have h5 := HF.out _ ((Below.refl _ W4).alloc (Nat.le_refl _) (.cells #[.bool true, .slice a4 0 c4] 292))
 exact ⟨w.heap.size, O3, rfl, h5.1, h5.2, H3.out.2.1, Nat.le_refl _⟩
set_option maxHeartbeats 4000000 in
theorem store_open {w : World} {P : PL} {O : List Nat} (h : PoI w P O []) :
  Calls Tryz.prog 92 #[.pointer (some ⟨P.p, 0, none⟩)] w fun e w' => ∃ s O', e = .returned (.tuple #[.pointer (some ⟨s.sb, 0, none⟩), .int .i64 0]) ∧ StI w' s O' 0 [] ∧ Kp O w w' ∧ Gr O w.heap.size O' ∧ w.heap.size ≤ s.sb ∧ w.heap.size ≤ s.tb := by
 have HST := hid (pi_store h)
 have HSP := hid (sh_none h)
 have HTO := hid (tree_open h)
 have HX := hid h
 clear h
 go_enter Tryz.func92, Tryz.ntmps92
 go_wp2_with fail
 (with_reducible refine HST.out.mono ?_)
 rintro e w1 ⟨rfl, rfl⟩
 go_wp2_with fail
 (with_reducible refine HSP.out.mono ?_)
 rintro e w1 ⟨rfl, rfl⟩
 go_wp2_with fail
 (with_reducible refine HTO.out.mono ?_)
 rintro e W1 ⟨tb, O1, rfl, hT, hk, hg, htb⟩
 have HF : Hid (StI (W1.alloc (.cells #[.pointer (some ⟨tb, 0, none⟩), .pointer (some ⟨P.p, 0, none⟩), .bool true] 238)) ⟨W1.heap.size, tb, P⟩ O1 0 [] ∧ Kp O w (W1.alloc (.cells #[.pointer (some ⟨tb, 0, none⟩), .pointer (some ⟨P.p, 0, none⟩), .bool true] 238)) ∧ Gr O w.heap.size O1 ∧ w.heap.size ≤ W1.heap.size ∧ w.heap.size ≤ tb) := hid ⟨⟨hT.below ((Below.refl _ _).alloc (Nat.le_refl _) _), ⟨true, Blk.new W1 _ _⟩, fun hm => by have := hT.lts W1.heap.size (List.mem_cons_of_mem _ hm); omega⟩, hk.alloc _, hg, hk.size, htb⟩
 clear hT hk hg htb
 go_wp2
 go_ret2
 exact ⟨⟨W1.heap.size, tb, P⟩, O1, rfl, HF.out⟩
set_option maxHeartbeats 4000000 in
theorem begun_any (w : World) :
  Calls Tryz.prog 26 #[] w fun e w' => ∃ s O, e = .returned (.pointer (some ⟨s.sb, 0, none⟩)) ∧ StI w' s O 0 [] ∧ Below w.heap.size w w' ∧ ∀ b ∈ s.sb :: s.tb :: O, w.heap.size ≤ b := by
 have HD := hid (disk_new 1202 (by omega) (by omega) w)
 rw [show ((1202 : Nat) : Int) = 1202 from rfl] at HD
 go_enter Tryz.func26, Tryz.ntmps26
 go_wp2_with fail
 (with_reducible refine HD.out.mono ?_)
 rintro e W1 ⟨D, sec, rfl, hD, hb1, ho1⟩
 have HSF := hid (sh_format hD)
 have H1 := hid (⟨hb1, ho1⟩ : _ ∧ _)
 clear hD hb1 ho1
 go_wp2_with fail
 (with_reducible refine HSF.out.mono ?_)
 rintro e W2 ⟨L, G, rfl, hS, hk2, ho2⟩
 have hb2 : Below w.heap.size w W2 := H1.out.1.trans (hk2.to_below H1.out.1.size H1.out.2)
 have ho2' : ∀ b ∈ shOwn L G, w.heap.size ≤ b := fun b hb => (ho2 b hb).elim (H1.out.2 b) (fun h => Nat.le_trans H1.out.1.size h)
 have HPF := hid (pool_fresh hS)
 have H2 := hid (⟨hb2, ho2'⟩ : _ ∧ _)
 clear hS hk2 ho2 hb2 ho2'
 go_wp2_with fail
 (with_reducible refine HPF.out.mono ?_)
 rintro e W3 ⟨P, O3, rfl, hPL, hP, hb3, ho3⟩
 have hb03 := H2.out.1.trans (hb3.mono H2.out.1.size)
 have ho3' : ∀ b ∈ O3, w.heap.size ≤ b := fun b hb => (ho3 b hb).elim (H2.out.2 b) (fun h => Nat.le_trans H2.out.1.size h)
 have HSO := hid (store_open hP)
 have H3 := hid (⟨hb03, ho3'⟩ : _ ∧ _)
 clear hPL hP hb3 ho3 hb03 ho3'
 go_wp2_with fail
 (with_reducible refine HSO.out.mono ?_)
 rintro e W4 ⟨s, O4, rfl, hI, hk4, hg4, hs1, hs2⟩
 have hb04 := H3.out.1.trans (hk4.to_below H3.out.1.size H3.out.2)
 have ho4 : ∀ b ∈ s.sb :: s.tb :: O4, w.heap.size ≤ b := fun b hb => by
  have hsz := H3.out.1.size
  rcases List.mem_cons.1 hb with rfl | hb
  ·omega
  ·rcases List.mem_cons.1 hb with rfl | hb
   ·omega
   ·rcases hg4 b hb with h | h
    ·exact H3.out.2 b h
    ·omega
 have HF := hid (⟨hI, hb04, ho4⟩ : _ ∧ _ ∧ _)
 clear hI hk4 hg4 hs1 hs2 hb04 ho4
 go_wp2
 go_ret
 exact ⟨s, O4, rfl, HF.out⟩
end
section
open Go.RowKit Go.Lib
def IbX (w : World) (ib : Nat) (s : SL) (lp : Int) : Prop := Blk w ib 212 #[.pointer (some ⟨s.sb, 0, none⟩), .int .i64 lp]
theorem iof_any (s : SL) (lp : Int) (h : 0 ≤ lp ∧ lp < 6) (w : World) : Calls Tryz.prog 76 #[.pointer (some ⟨s.sb, 0, none⟩), .int .i64 lp] w fun e w' => e = .returned (.tuple #[.pointer (some ⟨w.heap.size, 0, none⟩), .int .i64 0]) ∧ w.alloc (.cells #[.pointer (some ⟨s.sb, 0, none⟩), .int .i64 lp] 212) = w' := by
 have h0 : ¬ lp < 0 := by omega
 have h1 : ¬ 6 ≤ lp := by omega
 clear h
 go_enter Tryz.func76, Tryz.ntmps76
 go_wp2
 go_ret2
 exact ⟨rfl, rfl⟩
theorem iof_nil (lp : Int) (w : World) : Calls Tryz.prog 76 #[.pointer none, .int .i64 lp] w fun e w' => e = .returned (.tuple #[.pointer none, .int .i64 1]) ∧ w = w' := by
 go_enter Tryz.func76, Tryz.ntmps76
 go_wp2
 go_ret2
 exact ⟨rfl, rfl⟩
theorem iof_bad (p : Addr) (lp : Int) (h : ¬ (0 ≤ lp ∧ lp < 6)) (w : World) : Calls Tryz.prog 76 #[.pointer (some p), .int .i64 lp] w fun e w' => e = .returned (.tuple #[.pointer none, .int .i64 2]) ∧ w = w' := by
 have hc : lp < 0 ∨ (¬ lp < 0 ∧ 6 ≤ lp) := by omega
 clear h
 rcases hc with h0 | ⟨h0, h1⟩
 all_goals
  go_enter Tryz.func76, Tryz.ntmps76
  go_wp2
  go_ret2
  exact ⟨rfl, rfl⟩
structure IbI (w : World) (ib : Nat) (s : SL) (lp : Int) (O : List Nat) (N c : Nat) (l : List Ix) : Prop where
 x : IbX w ib s lp
 nx : ib ∉ s.sb :: s.tb :: O
 hlp : 0 ≤ lp ∧ lp ≤ 5
 m : ∃ M, StI w s O N M ∧ IxM M lp c l ∧ longs M = 0
section
variable {w w' : World} {ib : Nat} {s : SL} {lp : Int} {O : List Nat} {N c : Nat} {l : List Ix}
theorem IbI.below (h : IbI w ib s lp O N c l) (hb : Below w.heap.size w w') : IbI w' ib s lp O N c l := by
 obtain ⟨M, h1, h2⟩ := h.m
 exact ⟨Blk.below h.x hb (Blk.lt h.x), h.nx, h.hlp, M, h1.below hb, h2⟩
theorem IbI.of_blocks (h : IbI w ib s lp O N c l) (e : ∀ b ∈ ib :: s.sb :: s.tb :: O, w'.heap[b]? = w.heap[b]?) : IbI w' ib s lp O N c l := by
 obtain ⟨M, h1, h2⟩ := h.m
 exact ⟨(e ib (by simp)).trans h.x, h.nx, h.hlp, M, h1.of_blocks (fun b hb => e b (List.mem_cons_of_mem _ hb)), h2⟩
theorem IbI.lts (h : IbI w ib s lp O N c l) : ∀ b ∈ ib :: s.sb :: s.tb :: O, b < w.heap.size := by
 obtain ⟨M, h1, h2⟩ := h.m
 intro b hb
 rcases List.mem_cons.1 hb with rfl | hb
 ·exact Blk.lt h.x
 ·exact h1.lts b hb
theorem IbI.nxO (h : IbI w ib s lp O N c l) : ib ∉ O := fun hm => h.nx (by simp [hm])
theorem IbI.okp (h : IbI w ib s lp O N c l) : okP 0 lp := by
 have := h.hlp
 unfold okP; omega
theorem IbI.turn {O' : List Nat} {N' c' : Nat} {l' : List Ix} {M' : List KV} (h : IbI w ib s lp O N c l) (hk : Kp O w w') (hg : Gr O w.heap.size O') (hs : StI w' s O' N' M') (h1 : IxM M' lp c' l') (h3 : longs M' = 0) : IbI w' ib s lp O' N' c' l' := by
 have hnx := h.nx
 simp only [List.mem_cons, not_or] at hnx
 refine ⟨Blk.kp h.x hk hnx.2.2, ?_, h.hlp, M', hs, h1, h3⟩
 simp only [List.mem_cons, not_or]
 exact ⟨hnx.1, hnx.2.1, hg.out (Blk.lt h.x) hnx.2.2⟩
theorem IbI.up (h : IbI w ib s lp O N c l) {c' : Nat} (hc : c ≤ c') : IbI w ib s lp O N c' l := by
 obtain ⟨M, h1, h2, h3⟩ := h.m
 exact ⟨h.x, h.nx, h.hlp, M, h1, h2.up hc, h3⟩
theorem IbI.ok (h : IbI w ib s lp O N c l) : ∀ x ∈ l, x.fit lp := by
 obtain ⟨M, _, h2, _⟩ := h.m
 exact h2.ok
theorem IbI.le (h : IbI w ib s lp O N c l) : ∀ x ∈ l, x.n.natAbs ≤ c := by
 obtain ⟨M, _, h2, _⟩ := h.m
 exact h2.le
theorem IbI.asc (h : IbI w ib s lp O N c l) : AscI l := by
 obtain ⟨M, h1, h2, _⟩ := h.m
 exact h2.asc h1.asc
end
theorem icount_any (n : Int) (h : -9223372036854775808 ≤ n ∧ n < 9223372036854775808) (w : World) : Calls Tryz.prog 108 #[.string (S (encI n))] w fun r w' => r = .returned (.tuple #[.int .i64 n, .int .i64 0]) ∧ w = w' := by
 have HR := hid (fun W => readI_any (encI n) 0 W (by simp) (by simp))
 rw [List.drop_zero, List.take_of_length_le (by simp), decI_encI h.1 h.2] at HR
 have hl : (encI n).length = 8 := encI_length n
 clear h
 go_enter Tryz.func108, Tryz.ntmps108
 go_wp2_with fail
 refine (HR.out _).mono ?_
 rintro e w' ⟨rfl, rfl⟩
 have e8 : (((0 + 8 : Nat) : Nat) : Int) = 8 := rfl
 go_wp2
 go_ret2
 exact ⟨rfl, rfl⟩
end
end Go.Proofs.YtnnghcooidjlhaaGreat
