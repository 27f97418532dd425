/- Parts of the proof: Xl Xm Xp Mf23n Xn Xq. -/
import Derived.WalkMore
import Derived.Test.YtnnghcooidjlhaaGreatD27
import Derived.Test.YtnnghcooidjlhaaGreatD34
import Derived.Test.YtnnghcooidjlhaaGreatD35
set_option linter.all false
set_option maxRecDepth 100000
namespace Go.Proofs.YtnnghcooidjlhaaGreat
section
open Go.RowKit Go.Lib
theorem evC_len (e : Ev) : (evC e).length = 5 := rfl
theorem evC_one (e : Ev) : ∀ u ∈ evC e, u.oneCell' = true := by
 intro u hu
 simp [evC] at hu
 rcases hu with rfl | rfl | rfl | rfl | rfl <;> rfl
theorem infEvt : (Tryz.prog.info? 67).map (fun i => (i.zero, i.size, i.bytes)) = some (some (.agg #[.float .f64 0, .int .i64 0, .int .i64 0, .int .i64 0, .int .i64 0]), 5, 40) := by kernel_rfl
theorem ibetween_no (q : Addr) (a u : Bs) (h : 29 < u.length) (w : World) : Calls Tryz.prog 52 #[.pointer (some q), .string (S a), .string (S u)] w fun e w' => e = .returned (.tuple #[.slice none 0 0, .int .i64 2]) ∧ Below w.heap.size w w' := by
 have HB := hid (((Below.refl _ w).alloc (Nat.le_refl _) (.cells #[.string (S u)] 9)).alloc (by simp) (.cells #[.slice none 0 0] 36))
 have hg1 : (29 : Int) < (u.length : Int) := by omega
 clear h
 go_enter Tryz.func52, Tryz.ntmps52
 go_wp2
 go_step3
 go_wp2
 try rw [Exit.noGoto_ret]
 go_ret2
 exact ⟨rfl, HB.out⟩
section
variable {w w' : World} {ib : Nat} {s : SL} {lp : Int} {O : List Nat} {N c : Nat} {l : List Ix}
set_option maxHeartbeats 16000000 in
theorem ibetween_any (h : IbI w ib s lp O N c l) (hl : l.length ≤ 1000) (hcc : c ≤ 2000) (a u : Bs) (ha : a.length ≤ 29) (hu : u.length ≤ 29) :
  Calls Tryz.prog 52 #[.pointer (some ⟨ib, 0, none⟩), .string (S a), .string (S u)] w fun r w' => ∃ v, r = .returned (.tuple #[v, .int .i64 0]) ∧ IbI w' ib s lp O N c l ∧ Kp O w w' ∧ w'.ownsRow w.heap.size 67 5 v (betI l a u).length (rowV evC (betI l a u)) := by
 obtain ⟨W1, hW1⟩ : ∃ W1, W1 = (w.alloc (.cells #[.string (S u)] 9)).alloc (.cells #[.slice none 0 0] 36) := ⟨_, rfl⟩
 have hb1 : Below w.heap.size w W1 := by rw [hW1]; exact ((Below.refl _ w).alloc (Nat.le_refl _) _).alloc (by simp) _
 have hU1 : Blk W1 w.heap.size 9 #[.string (S u)] := by rw [hW1]; exact (Blk.new w _ _).alloc _
 have hL1 : Blk W1 (w.heap.size + 1) 36 #[.slice none 0 0] := by
  rw [hW1]
  have := Blk.new (w.alloc (.cells #[.string (S u)] 9)) 36 #[.slice none 0 0]
  simpa using this
 have u1 : W1.cell? ⟨w.heap.size, 0, none⟩ = some (.string (S u)) := hU1.cell 0
 rw [hW1] at u1
 have hlts := h.lts
 have HE := hid (ieach_any (between_do w.heap.size (w.heap.size + 1) u) (h.below hb1) hl hcc a [] ha (by simp) (Z := [w.heap.size + 1, w.heap.size]) ⟨_, hL1, ⟨rfl, .inl ⟨rfl, rfl⟩⟩, hU1, by omega, rfl⟩ (fun z hz hm => by
  have := hlts z hm
  simp only [List.mem_cons, List.not_mem_nil, or_false] at hz
  omega))
 rw [show S [] = { data := #[] } from rfl, hW1] at HE
 obtain ⟨K, hK⟩ : ∃ K, K = keysI u (goX (fun x => !decide (u < x.key)) (rngI l a [])) := ⟨_, rfl⟩
 have hKE := keysI_go h.asc a u
 rw [← hK] at hKE
 have HKM : Hid (∀ x ∈ K, x.fit lp) := hid fun x hx => by
  rw [hK] at hx
  exact h.ok x (goX_sub _ _ x (List.mem_filter.1 hx).1 |> fun g => (List.mem_filter.1 g).1)
 have hKl : K.length ≤ 1000 := by
  have := congrArg List.length hKE
  rw [List.length_map] at this
  rw [this]
  unfold betI
  rw [List.length_map]
  exact Nat.le_trans (List.length_filter_le _ _) hl
 obtain ⟨nk, hnk⟩ : ∃ nk, nk = K.length := ⟨_, rfl⟩
 rw [← hnk] at hKl
 have hlp : 0 ≤ lp ∧ lp < 6 := by have := h.hlp; omega
 have HX := hid (⟨hW1, hb1, hK, hKE, hnk, hlp, hlts⟩ : _ ∧ _ ∧ _ ∧ _ ∧ _ ∧ _ ∧ _)
 have HL := hid hKl
 have hli : (nk : Int) ≤ 1000 := by omega
 have hg1 : ¬ (29 : Int) < (u.length : Int) := by omega
 rw [← hKE, List.length_map, ← hnk]
 clear h hl hcc ha hu hW1 hb1 hU1 hL1 hlts hK hKE hnk hlp hKl
 go_enter Tryz.func52, Tryz.ntmps52
 go_wp2
 go_step3
 go_wp2_with fail
 (with_reducible refine HE.out.mono ?_)
 rintro r W2 ⟨Z2, rfl, ⟨v2, hL2, hO2, hU2, hul, rfl⟩, hI2, hk2, _⟩
 rw [← HX.out.1] at hk2
 rw [← HX.out.2.2.1, ← HX.out.2.2.2.2.1] at hO2
 obtain ⟨p2, c2, rfl⟩ := own_slice2 hO2
 have l0 : W2.cell? ⟨w.heap.size + 1, 0, none⟩ = some (.slice p2 nk c2) := hL2.cell 0
 have hk02 : Kp O w W2 := Kp.fresh HX.out.2.1 (fun z hz => by
  rcases List.mem_cons.1 hz with rfl | hz
  ·omega
  ·rw [List.mem_singleton.1 hz]; exact Nat.le_refl _) hk2
 have HI0 : Hid (IbI W2 ib s lp O N c l ∧ Kp O w W2 ∧ W2.ownsRow (w.heap.size + 1 + 1) 9 1 (.slice p2 nk c2) nk (rowV strC (K.map Ix.key)) ∧ W2.ownsRow W2.heap.size 67 5 (.slice none 0 0) 0 (rowV evC ((K.map Ix.e).take 0)) ∧ W2.heap.size ≤ W2.heap.size) := hid ⟨hI2, hk02, hO2, ⟨rfl, .inl ⟨rfl, rfl⟩⟩, Nat.le_refl _⟩
 have HB := hid (⟨fun b hb => hO2.lt b hb, hk02.size⟩ : (∀ b, (Value.slice p2 nk c2).ownBlock = some b → w.heap.size + 1 + 1 ≤ b ∧ b < W2.heap.size) ∧ w.heap.size ≤ W2.heap.size)
 clear hL2 hO2 hU2 hul hI2 hk2 hk02 u1
 go_wp2
 go_step3
 go_wp2
 go_loopg [9, 10, 31] nk (fun gg s9 s10 s31 wr => ∃ (j : Nat) (v : Value), j ≤ nk ∧ nk - j ≤ gg ∧ s31 = .int .i64 j ∧ s10 = v ∧ s9 = .int .i64 0 ∧ Hid (IbI wr ib s lp O N c l ∧ Kp O w wr ∧ wr.ownsRow (w.heap.size + 1 + 1) 9 1 (.slice p2 nk c2) nk (rowV strC (K.map Ix.key)) ∧ wr.ownsRow W2.heap.size 67 5 v j (rowV evC ((K.map Ix.e).take j)) ∧ W2.heap.size ≤ wr.heap.size))
 case atStart => exact ⟨0, _, by omega, by omega, rfl, rfl, rfl, HI0⟩
 case round =>
  obtain ⟨j, v, hj, hgg, rfl, rfl, rfl, HI⟩ := hrel
  by_cases hje : j < nk
  ·obtain ⟨x, hx⟩ : ∃ x, K[j]? = some x := ⟨_, List.getElem?_eq_getElem (by rw [← HX.out.2.2.2.2.1]; exact hje)⟩
   obtain ⟨hIb, hk, hOp, hOo, hsz⟩ := HI.out
   obtain ⟨g, cc, e1, hg1', hg2, hg3⟩ := own_form hOp (by omega)
   injection e1 with e1 elen e3
   clear elen
   subst e1 e3
   have hxk : (K.map Ix.key)[j]? = some x.key := by rw [List.getElem?_map, hx]; rfl
   have m0 : wr.cell? ⟨g, j, none⟩ = some (.string (S x.key)) := own_at hOp rfl (j := j) (by
    have := rowV_get strC_len _ j _ hxk 0 (by omega)
    rw [Nat.mul_one, Nat.add_zero] at this
    rw [this]; rfl)
   have c1 : wr.cell? ⟨ib, 1, none⟩ = some (.int .i64 lp) := Blk.cell hIb.x 1
   have hfit := HKM.out x (List.mem_of_getElem? hx)
   have hex : ({ x.e.nrm with dst := lp } : Ev) = x.e := by
    rw [hfit.2.2.1, ← hfit.2.2.2.1]
   have HRO := hid (fun W => recof_any x.e hfit.1 hfit.2.1 lp HX.out.2.2.2.2.2.1 W)
   rw [hex] at HRO
   obtain ⟨kx, hkx⟩ : ∃ kx, kx = keyB x.e := ⟨_, rfl⟩
   rw [← hkx] at HRO
   rw [show x.key = kx from hkx.symm] at m0
   unfold evV at HRO
   have hji : (j : Int) < (nk : Int) := by omega
   have htk : (K.map Ix.e).take (j + 1) = (K.map Ix.e).take j ++ [x.e] := by rw [List.take_add_one, List.getElem?_map, hx]; rfl
   have HTK := hid htk
   obtain ⟨wo, hwo⟩ : ∃ wo, wo = wr := ⟨_, rfl⟩
   subst hwo
   obtain ⟨av, cv, rfl⟩ := own_slice2 hOo
   clear hx hIb hk hOp hOo hsz hxk hfit hex hkx htk
   go_wp2_with fail
   (with_reducible refine (HRO.out _).mono ?_)
   rintro r W3 ⟨rfl, hb3⟩
   obtain ⟨W4, hW4⟩ : ∃ W4, W4 = W3.alloc (.cells #[.float .f64 x.e.t, .int .i64 x.e.src, .int .i64 x.e.n, .int .i64 x.e.dst, .int .i64 x.e.pay] 67) := ⟨_, rfl⟩
   have hb34 : Below W3.heap.size W3 W4 := by rw [hW4]; exact (Below.refl _ W3).alloc (Nat.le_refl _) _
   have hb04 : Below wo.heap.size wo W4 := hb3.trans (hb34.mono hb3.size)
   have hs4 : W4.heap.size = W3.heap.size + 1 := by rw [hW4]; simp
   have HW4 := hid (⟨hW4, hb04, hs4⟩ : _ ∧ _ ∧ _)
   clear hb3 hb34 hW4 hb04 hs4 m0 c1
   go_wp2_with (with_reducible refine stopAt .append rfl ?_)
   with_reducible refine goOn ?_
   rw [← HW4.out.1, ← HW4.out.2.2]
   obtain ⟨hIb, hk, hOp, hOo, hsz⟩ := HI.out
   have hb04 := HW4.out.2.1
   have hO4 := row_of hOo (fun b hb => hb04.block b (hOo.lt b hb).2)
   have hOp4 := row_of hOp (fun b hb => hb04.block b (hOp.lt b hb).2)
   have hI4 := hIb.below hb04
   refine app_one rfl _ _ 104 rfl evC infEvt Tryz.underlying104 rfl (by decide) (by decide) evC_len evC_one x.e hO4 (by have := HL.out; omega) (Nat.le_trans hsz hb04.size) rfl rfl ?_
   intro v' W6 hO6 hk6 _
   rw [← HTK.out] at hO6
   have hno6 : ∀ b, b < W2.heap.size → b ∉ (Value.slice av j cv).ownBlock.toList := fun b hb hm => by
    have := (hO4.lt b (Option.mem_toList.1 hm)).1
    omega
   have hlt0 : ∀ b ∈ ib :: s.sb :: s.tb :: O, b < W2.heap.size := fun b hb => Nat.lt_of_lt_of_le (HX.out.2.2.2.2.2.2 b hb) HB.out.2
   have hI6 : IbI W6 ib s lp O N c l := hI4.of_blocks (fun b hb => hk6.block b (hI4.lts b hb) (hno6 b (hlt0 b hb)))
   have hOp6 := row_of hOp4 (fun b hb => hk6.block b (hOp4.lt b hb).2 (hno6 b (HB.out.1 b hb).2))
   have hk06 : Kp O w W6 := (hk.trans (Kp.of_below hb04)).trans_gr (O' := (Value.slice av j cv).ownBlock.toList ++ O) (fun b hb => by
    rcases List.mem_append.1 hb with hb | hb
    ·have := (hO4.lt b (Option.mem_toList.1 hb)).1
     have := HB.out.2
     exact .inr (by omega)
    ·exact .inl hb) (hk6.mono (fun b hb => .inl (by simp [hb])))
   have HI6 := hid (⟨hI6, hk06, hOp6, hO6, Nat.le_trans (Nat.le_trans hsz hb04.size) hk6.size⟩ : _ ∧ _ ∧ _ ∧ _ ∧ _)
   clear hIb hk hOp hOo hsz hO4 hOp4 hI4 hO6 hk6 hno6 hlt0 hI6 hOp6 hk06 hb04
   go_wp2
   go_roundg (nk - (j + 1))
   case measure => omega
   case rel => exact ⟨j + 1, v', by omega, by omega, by go_num, rfl, rfl, HI6⟩
  ·have hjl : j = nk := by omega
   have HJ := hid hjl
   have hji : ¬ ((j : Int) < (nk : Int)) := by omega
   clear hjl
   go_wp2
   try rw [Exit.noGoto_ret]
   go_ret2
   obtain ⟨hIb, hk, hOp, hOo, hsz⟩ := HI.out
   rw [HJ.out, HX.out.2.2.2.2.1, ← List.length_map (f := Ix.e), List.take_length, List.length_map, ← HX.out.2.2.2.2.1] at hOo
   exact ⟨_, rfl, hIb, hk, own_base hOo HB.out.2⟩
end
end
section
open Go.RowKit Go.Lib
def evZ : Value := .agg #[.float .f64 0, .int .i64 0, .int .i64 0, .int .i64 0, .int .i64 0]
theorem inext_no (p : Option Addr) (a : Bs) (er : Int) (h : (p = none ∧ er = 1) ∨ (p ≠ none ∧ 29 < a.length ∧ er = 2)) (w : World) :
  Calls Tryz.prog 51 #[.pointer p, .string (S a)] w fun r w' => r = .returned (.tuple #[evZ, .bool false, .int .i64 er]) ∧ Below w.heap.size w w' := by
 obtain ⟨W1, hW1⟩ : ∃ W1, W1 = (w.alloc (.cells #[.float .f64 0, .int .i64 0, .int .i64 0, .int .i64 0, .int .i64 0] 67)).alloc (.cells #[.string ⟨#[]⟩] 9) := ⟨_, rfl⟩
 have hb1 : Below w.heap.size w W1 := by rw [hW1]; exact ((Below.refl _ w).alloc (Nat.le_refl _) _).alloc (by simp) _
 have hE1 : Blk W1 w.heap.size 67 #[.float .f64 0, .int .i64 0, .int .i64 0, .int .i64 0, .int .i64 0] := by rw [hW1]; exact (Blk.new w _ _).alloc _
 have g0 : W1.cell? ⟨w.heap.size, 0, none⟩ = some (.float .f64 0) := hE1.cell 0
 have g1 : W1.cell? ⟨w.heap.size, 1, none⟩ = some (.int .i64 0) := hE1.cell 1
 have g2 : W1.cell? ⟨w.heap.size, 2, none⟩ = some (.int .i64 0) := hE1.cell 2
 have g3 : W1.cell? ⟨w.heap.size, 3, none⟩ = some (.int .i64 0) := hE1.cell 3
 have g4 : W1.cell? ⟨w.heap.size, 4, none⟩ = some (.int .i64 0) := hE1.cell 4
 have f0 := hE1.frozen 0
 have f1 := hE1.frozen 1
 have f2 := hE1.frozen 2
 have f3 := hE1.frozen 3
 have f4 := hE1.frozen 4
 have el := hE1.lt
 have HX := hid (⟨hW1, hb1, hE1⟩ : _ ∧ _ ∧ _)
 unfold evZ
 rcases h with ⟨rfl, rfl⟩ | ⟨hp, hl, rfl⟩
 ·have HE := hid (ieach_nil (S a) ⟨#[]⟩ (.func (.func 112) #[] #[.pointer (some ⟨w.heap.size + 1, 0, none⟩)]) W1)
  rw [hW1] at HE
  clear hW1 hb1 hE1
  go_enter Tryz.func51, Tryz.ntmps51
  go_wp2_with fail
  (with_reducible refine HE.out.mono ?_)
  rintro r W2 ⟨rfl, hw2⟩
  rw [← HX.out.1] at hw2
  subst hw2
  go_wp2
  have hr8 := ((((HX.out.2.2.set_ 0 (.float .f64 0)).set_ 1 (.int .i64 0)).set_ 2 (.int .i64 0)).set_ 3 (.int .i64 0)).set_ 4 (.int .i64 0)
  have v0 := hr8.cell 0
  have v1 := hr8.cell 1
  have v2 := hr8.cell 2
  have v3 := hr8.cell 3
  have v4 := hr8.cell 4
  simp only [List.setIfInBounds_toArray, List.set_cons_zero, List.set_cons_succ, List.getElem?_toArray, List.getElem?_cons_zero, List.getElem?_cons_succ] at v0 v1 v2 v3 v4
  refine bodyPost_ret (v := .tuple #[.agg #[.float .f64 0, .int .i64 0, .int .i64 0, .int .i64 0, .int .i64 0], .bool false, .int .i64 1]) (by simp [results, Tryz.results51, go_sem, v0, v1, v2, v3, v4]) rfl ?_
  exact ⟨rfl, ((((HX.out.2.1.setCell (Nat.le_refl _) _).setCell (Nat.le_refl _) _).setCell (Nat.le_refl _) _).setCell (Nat.le_refl _) _).setCell (Nat.le_refl _) _⟩
 ·obtain ⟨q, rfl⟩ := Option.ne_none_iff_exists'.1 hp
  have HE := hid (ieach_no q a [] (.func (.func 112) #[] #[.pointer (some ⟨w.heap.size + 1, 0, none⟩)]) (by omega) W1)
  rw [show S [] = { data := #[] } from rfl, hW1] at HE
  clear hW1 hb1 hE1 hp hl
  go_enter Tryz.func51, Tryz.ntmps51
  go_wp2_with fail
  (with_reducible refine HE.out.mono ?_)
  rintro r W2 ⟨rfl, hw2⟩
  rw [← HX.out.1] at hw2
  subst hw2
  go_wp2
  have hr8 := ((((HX.out.2.2.set_ 0 (.float .f64 0)).set_ 1 (.int .i64 0)).set_ 2 (.int .i64 0)).set_ 3 (.int .i64 0)).set_ 4 (.int .i64 0)
  have v0 := hr8.cell 0
  have v1 := hr8.cell 1
  have v2 := hr8.cell 2
  have v3 := hr8.cell 3
  have v4 := hr8.cell 4
  simp only [List.setIfInBounds_toArray, List.set_cons_zero, List.set_cons_succ, List.getElem?_toArray, List.getElem?_cons_zero, List.getElem?_cons_succ] at v0 v1 v2 v3 v4
  refine bodyPost_ret (v := .tuple #[.agg #[.float .f64 0, .int .i64 0, .int .i64 0, .int .i64 0, .int .i64 0], .bool false, .int .i64 2]) (by simp [results, Tryz.results51, go_sem, v0, v1, v2, v3, v4]) rfl ?_
  exact ⟨rfl, ((((HX.out.2.1.setCell (Nat.le_refl _) _).setCell (Nat.le_refl _) _).setCell (Nat.le_refl _) _).setCell (Nat.le_refl _) _).setCell (Nat.le_refl _) _⟩
theorem iahead_nil (a : Bs) (w : World) :
  Calls Tryz.prog 72 #[.pointer none, .string (S a)] w fun r w' => r = .returned (.tuple #[.string ⟨#[]⟩, .bool false, .int .i64 1]) ∧ Below w.heap.size w w' := by
 have HB := hid ((Below.refl _ w).alloc (Nat.le_refl _) (.cells #[.string ⟨#[]⟩] 9))
 have HE := hid (fun v W => ieach_nil ⟨#[]⟩ (S a) v W)
 go_enter Tryz.func72, Tryz.ntmps72
 go_wp2_with (go_at_call 110; refine (HE.out _ _).mono ?_; rintro r w1 ⟨rfl, rfl⟩)
 go_ret3
 exact ⟨rfl, HB.out⟩
theorem ibetween_nil (a u : Bs) (w : World) :
  Calls Tryz.prog 52 #[.pointer none, .string (S a), .string (S u)] w fun r w' => r = .returned (.tuple #[.slice none 0 0, .int .i64 1]) ∧ Below w.heap.size w w' := by
 have HB := hid (((Below.refl _ w).alloc (Nat.le_refl _) (.cells #[.string (S u)] 9)).alloc (by simp) (.cells #[.slice none 0 0] 36))
 have HE := hid (fun v W => ieach_nil (S a) ⟨#[]⟩ v W)
 have hc : (29 : Int) < (u.length : Int) ∨ ¬ (29 : Int) < (u.length : Int) := by omega
 rcases hc with hl | hl
 all_goals
  go_enter Tryz.func52, Tryz.ntmps52
  go_wp2
  go_step3
  go_wp2_with (go_at_call 110; refine (HE.out _ _).mono ?_; rintro r w1 ⟨rfl, rfl⟩)
  try rw [Exit.noGoto_ret]
  go_ret2
  exact ⟨rfl, HB.out⟩
theorem icounts_nil (w : World) :
  Calls Tryz.prog 50 #[.pointer none] w fun r w' => r = .returned (.tuple #[.int .i64 0, .int .i64 0, .int .i64 1]) ∧ Below w.heap.size w w' := by
 have HB := hid (((Below.refl _ w).alloc (Nat.le_refl _) (.cells #[.int .i64 0] 3)).alloc (by simp) (.cells #[.int .i64 0] 3))
 have HE := hid (fun v W => ieach_nil ⟨#[]⟩ ⟨#[]⟩ v W)
 go_enter Tryz.func50, Tryz.ntmps50
 go_wp2_with (go_at_call 110; refine (HE.out _ _).mono ?_; rintro r w1 ⟨rfl, rfl⟩)
 go_ret3
 exact ⟨rfl, HB.out⟩
theorem iforget_nil (u : Bs) (w : World) :
  Calls Tryz.prog 77 #[.pointer none, .string (S u)] w fun r w' => r = .returned (.int .i64 1) ∧ Below w.heap.size w w' := by
 go_enter Tryz.func77, Tryz.ntmps77
 go_wp2
 go_ret
 exact ⟨rfl, Below.refl _ w⟩
theorem iforget_long (q : Addr) (u : Bs) (h : 29 < u.length) (w : World) :
  Calls Tryz.prog 77 #[.pointer (some q), .string (S u)] w fun r w' => r = .returned (.int .i64 2) ∧ Below w.heap.size w w' := by
 have hg1 : (29 : Int) < (u.length : Int) := by omega
 clear h
 go_enter Tryz.func77, Tryz.ntmps77
 go_wp2
 go_ret
 exact ⟨rfl, Below.refl _ w⟩
end
section
open Go.RowKit Go.Lib
set_option maxHeartbeats 32000000 in
theorem inone23_any (kd : Int) (e : Ev) (a : Bool) (lp : Int) (key : Bs) (w : World) :
  Calls Tryz.prog 18 #[.agg #[.int .i64 kd, .float .f64 e.t, .int .i64 e.src, .int .i64 e.n, .int .i64 e.dst, .int .i64 e.pay, .bool a], .int .i64 lp, .string (S key)] w fun r w' => r = .returned (.bool true) ∧ Below w.heap.size w w' := by
 obtain ⟨W1, hW1⟩ : ∃ W1, W1 = w.alloc (.cells #[.int .i64 kd, .float .f64 e.t, .int .i64 e.src, .int .i64 e.n, .int .i64 e.dst, .int .i64 e.pay, .bool a] 97) := ⟨_, rfl⟩
 have hb1 : Below w.heap.size w W1 := by rw [hW1]; exact (Below.refl _ w).alloc (Nat.le_refl _) _
 have HX := hid (⟨hW1, hb1⟩ : _ ∧ _)
 have HAD := hid (iadd_nil e false W1)
 rw [hW1] at HAD
 unfold msgV at HAD
 have HN := hid (fun W => inext_no none key 1 (.inl ⟨rfl, rfl⟩) W)
 have HAH := hid (fun W => iahead_nil key W)
 have HBE := hid (fun W => ibetween_nil key key W)
 have HCO := hid (fun W => icounts_nil W)
 have HFO := hid (fun W => iforget_nil key W)
 have HOF := hid (fun W => iof_nil lp W)
 have HBG := hid (fun W => begun_any W)
 have HAW := hid (fun W => awake23_any W)
 have HSM := hid (fun W => same20_any ev0 W)
 rw [show evV ev0 = .agg #[.float .f64 0, .int .i64 0, .int .i64 0, .int .i64 0, .int .i64 0] from rfl] at HSM
 unfold evZ at HN
 clear hW1 hb1
 go_enter Tryz.func18, Tryz.ntmps18
 go_wp2_with fail
 (with_reducible refine HAD.out.mono ?_)
 rintro r W2 ⟨rfl, hb2⟩
 rw [← HX.out.1] at hb2
 have H2 := hid (HX.out.2.trans (hb2.mono HX.out.2.size))
 clear hb2
 go_wp2_with fail
 (with_reducible refine (HN.out _).mono ?_)
 rintro r W3 ⟨rfl, hb3⟩
 obtain ⟨W4, hW4⟩ : ∃ W4, W4 = W3.alloc (.cells #[.float .f64 0, .int .i64 0, .int .i64 0, .int .i64 0, .int .i64 0] 67) := ⟨_, rfl⟩
 have hb4 : Below W3.heap.size W3 W4 := by rw [hW4]; exact (Below.refl _ W3).alloc (Nat.le_refl _) _
 have hB4 : Blk W4 W3.heap.size 67 #[.float .f64 0, .int .i64 0, .int .i64 0, .int .i64 0, .int .i64 0] := by rw [hW4]; exact Blk.new W3 _ _
 have hb04 := (H2.out.trans (hb3.mono H2.out.size)).trans (hb4.mono (Nat.le_trans H2.out.size hb3.size))
 have H4 := hid (⟨hB4, hb04⟩ : _ ∧ _)
 have HA4 := hid (HAH.out W4)
 rw [hW4] at HA4
 have HW4 := hid hW4
 clear hb3 hb4 hB4 hb04 hW4
 go_wp2_with fail
 (with_reducible refine HA4.out.mono ?_)
 rintro r W5 ⟨rfl, hb5⟩
 rw [← HW4.out] at hb5
 have H5 := hid hb5
 clear hb5
 go_wp2_with fail
 (with_reducible refine (HBE.out _).mono ?_)
 rintro r W6 ⟨rfl, hb6⟩
 have H6 := hid (H5.out.trans (hb6.mono H5.out.size))
 clear hb6
 go_wp2_with fail
 (with_reducible refine (HCO.out _).mono ?_)
 rintro r W7 ⟨rfl, hb7⟩
 have H7 := hid (H6.out.trans (hb7.mono H6.out.size))
 clear hb7
 go_wp2_with (go_at_call 76; refine (HOF.out _).mono ?_; rintro e w' ⟨rfl, rfl⟩)
 (with_reducible refine (HBG.out _).mono ?_)
 rintro r W8 ⟨s, O, rfl, hS, hb8, _⟩
 have H8 := hid (H7.out.trans (hb8.mono H7.out.size))
 clear hS hb8
 have HFIN : Hid (∀ W, Below W4.heap.size W4 W → W.cell? ⟨W3.heap.size, 0, none⟩ = some (.float .f64 0) ∧ W.cell? ⟨W3.heap.size, 1, none⟩ = some (.int .i64 0) ∧ W.cell? ⟨W3.heap.size, 2, none⟩ = some (.int .i64 0) ∧ W.cell? ⟨W3.heap.size, 3, none⟩ = some (.int .i64 0) ∧ W.cell? ⟨W3.heap.size, 4, none⟩ = some (.int .i64 0)) := hid fun W hW => by
  have h := H4.out.1.below hW H4.out.1.lt
  exact ⟨h.cell 0, h.cell 1, h.cell 2, h.cell 3, h.cell 4⟩
 have hc : (0 ≤ lp ∧ lp < 6 ∧ (29 : Int) < (key.length : Int) ∧ 29 < key.length) ∨ (0 ≤ lp ∧ lp < 6 ∧ ¬ (29 : Int) < (key.length : Int)) ∨ (¬ 0 ≤ lp ∧ (29 : Int) < (key.length : Int)) ∨ (¬ 0 ≤ lp ∧ ¬ (29 : Int) < (key.length : Int)) ∨ (0 ≤ lp ∧ ¬ lp < 6 ∧ (29 : Int) < (key.length : Int)) ∨ (0 ≤ lp ∧ ¬ lp < 6 ∧ ¬ (29 : Int) < (key.length : Int)) := by omega
 rcases hc with ⟨h0, h1, hl, hln⟩ | ⟨h0, h1, hl⟩ | ⟨h0, hl⟩ | ⟨h0, hl⟩ | ⟨h0, h1, hl⟩ | ⟨h0, h1, hl⟩
 case' inr.inl =>
  have HO8 : Hid (∀ W, Calls Tryz.prog 76 #[.pointer (some ⟨s.sb, 0, none⟩), .int .i64 lp] W fun e w' => ∃ g : Addr, e = .returned (.tuple #[.pointer (some g), .int .i64 0]) ∧ Below W.heap.size W w') := hid fun W => (iof_any s lp ⟨h0, h1⟩ W).mono fun e w' ⟨h1, h2⟩ => ⟨_, h1, by rw [← h2]; exact (Below.refl _ W).alloc (Nat.le_refl _) _⟩
 case' inr.inr.inl =>
  have HO8 : Hid (∀ W, Calls Tryz.prog 76 #[.pointer (some ⟨s.sb, 0, none⟩), .int .i64 lp] W fun e w' => ∃ g : Nat, e = .returned (.tuple #[.pointer none, .int .i64 2]) ∧ Below W.heap.size W w') := hid fun W => (iof_bad _ lp (by omega) W).mono fun e w' ⟨h1, h2⟩ => ⟨0, h1, by rw [← h2]; exact Below.refl _ W⟩
 case' inr.inr.inr.inl =>
  have HO8 : Hid (∀ W, Calls Tryz.prog 76 #[.pointer (some ⟨s.sb, 0, none⟩), .int .i64 lp] W fun e w' => ∃ g : Nat, e = .returned (.tuple #[.pointer none, .int .i64 2]) ∧ Below W.heap.size W w') := hid fun W => (iof_bad _ lp (by omega) W).mono fun e w' ⟨h1, h2⟩ => ⟨0, h1, by rw [← h2]; exact Below.refl _ W⟩
 case' inr.inr.inr.inr.inl =>
  have HO8 : Hid (∀ W, Calls Tryz.prog 76 #[.pointer (some ⟨s.sb, 0, none⟩), .int .i64 lp] W fun e w' => ∃ g : Nat, e = .returned (.tuple #[.pointer none, .int .i64 2]) ∧ Below W.heap.size W w') := hid fun W => (iof_bad _ lp (by omega) W).mono fun e w' ⟨h1, h2⟩ => ⟨0, h1, by rw [← h2]; exact Below.refl _ W⟩
 case' inr.inr.inr.inr.inr =>
  have HO8 : Hid (∀ W, Calls Tryz.prog 76 #[.pointer (some ⟨s.sb, 0, none⟩), .int .i64 lp] W fun e w' => ∃ g : Nat, e = .returned (.tuple #[.pointer none, .int .i64 2]) ∧ Below W.heap.size W w') := hid fun W => (iof_bad _ lp (by omega) W).mono fun e w' ⟨h1, h2⟩ => ⟨0, h1, by rw [← h2]; exact Below.refl _ W⟩
 case' inl =>
  have HO8 : Hid (∀ W, Calls Tryz.prog 76 #[.pointer (some ⟨s.sb, 0, none⟩), .int .i64 lp] W fun e w' => ∃ g : Addr, e = .returned (.tuple #[.pointer (some g), .int .i64 0]) ∧ Below W.heap.size W w') := hid fun W => (iof_any s lp ⟨h0, h1⟩ W).mono fun e w' ⟨h1, h2⟩ => ⟨_, h1, by rw [← h2]; exact (Below.refl _ W).alloc (Nat.le_refl _) _⟩
 all_goals
  go_wp2_with fail
  (with_reducible refine (HO8.out _).mono ?_)
  rintro r W9 ⟨g, rfl, hb9⟩
  have H9 := hid (H8.out.trans (hb9.mono H8.out.size))
  clear hb9
 focus
  have HNL := hid (fun W => inext_no (some g) key 2 (.inr ⟨by simp, hln, rfl⟩) W)
  have HBL := hid (fun W => ibetween_no g [] key hln W)
  have HFL := hid (fun W => iforget_long g key hln W)
  unfold evZ at HNL
  rw [show S [] = { data := #[] } from rfl] at HBL
  go_wp2_with fail
  (with_reducible refine (HNL.out _).mono ?_)
  rintro r W10 ⟨rfl, hb10⟩
  have hb10' := H9.out.trans (hb10.mono H9.out.size)
  have H10 := hid (hb10'.alloc hb10'.size (.cells #[.float .f64 0, .int .i64 0, .int .i64 0, .int .i64 0, .int .i64 0] 67))
  clear hb10 hb10'
  go_wp2_with fail
  (with_reducible refine (HBL.out _).mono ?_)
  rintro r W11 ⟨rfl, hb11⟩
  have H11 := hid (H10.out.trans (hb11.mono H10.out.size))
  clear hb11
  go_wp2_with fail
  (with_reducible refine (HFL.out _).mono ?_)
  rintro r W12 ⟨rfl, hb12⟩
  have H9 := hid (H11.out.trans (hb12.mono H11.out.size))
  clear hb12 hln
 all_goals
  go_wp2_with fail
  (with_reducible refine (HAW.out _).mono ?_)
  rintro r W13 ⟨rfl, hb13⟩
  have hb413 := H9.out.trans (hb13.mono H9.out.size)
  obtain ⟨z0, z1, z2, z3, z4⟩ := HFIN.out W13 hb413
  have H13 := hid hb413
  clear hb13 hb413
  go_wp2_with fail
  (with_reducible refine (HSM.out _).mono ?_)
  rintro r W14 ⟨rfl, hb14⟩
  have H14 := hid (H13.out.trans (hb14.mono H13.out.size))
  clear hb14 z0 z1 z2 z3 z4
  go_wp2_with fail
  (with_reducible refine (HFO.out _).mono ?_)
  rintro r W15 ⟨rfl, hb15⟩
  have H15 := hid (H14.out.trans (hb15.mono H14.out.size))
  clear hb15
  go_wp2
  go_ret
  exact ⟨by first | rfl | simp [h0, h1], H4.out.2.trans (H15.out.mono H4.out.2.size)⟩
end
section
open Go.ChangeShapes Go.WideShapes Go.ChangeAt Go.RowKit Go.Deep
set_option maxHeartbeats 8000000 in
set_option maxRecDepth 100000 in
theorem inboxNone_facts : joinedFacts Tryz.checked.prog 18 Tryz.f18 Rows.inboxNoneSpec Rows.inboxNoneRow = true := by
 unfold joinedFacts
 repeat' (rw [Bool.and_eq_true]; refine ⟨?_, ?_⟩)
 all_goals (as_aux_lemma => kernel_rfl)
end
section
open Go.RowKit Go.Lib
def fpI (i : Nat) (s : SL) (O : List Nat) : List Nat := i :: s.sb :: s.tb :: O
def I2 (w W : World) (i1 : Nat) (s1 : SL) (i2 : Nat) (s2 : SL) (lp : Int) (j : Nat) (kb : List (Nat × TypeId × Array Value)) (ex : List (Value × List Ev)) (l1 l2 : List Ix) : Prop :=
 ∃ O1 N1 c1 O2 N2 c2, IbI W i1 s1 lp O1 N1 c1 l1 ∧ IbI W i2 s2 lp O2 N2 c2 l2 ∧ (N1 ≤ j ∧ c1 ≤ j ∧ l1.length ≤ j) ∧ (N2 ≤ j ∧ c2 ≤ j ∧ l2.length ≤ j) ∧ (∀ b ∈ fpI i1 s1 O1, b ∉ fpI i2 s2 O2) ∧ Below w.heap.size w W ∧ (∀ b, b ∈ fpI i1 s1 O1 ∨ b ∈ fpI i2 s2 O2 → w.heap.size ≤ b) ∧ (∀ z ∈ kb, Blk W z.1 z.2.1 z.2.2 ∧ z.1 ∉ fpI i1 s1 O1 ∧ z.1 ∉ fpI i2 s2 O2) ∧ ∀ z ∈ ex, Vw 5 evC W z.1 z.2 ∧ ∀ b, z.1.ownBlock = some b → b ∉ fpI i1 s1 O1 ∧ b ∉ fpI i2 s2 O2 ∧ b < W.heap.size
section
variable {w W W' : World} {i1 : Nat} {s1 : SL} {i2 : Nat} {s2 : SL} {lp : Int} {j : Nat} {kb : List (Nat × TypeId × Array Value)} {ex : List (Value × List Ev)} {l1 l2 : List Ix}
theorem I2.swap (h : I2 w W i1 s1 i2 s2 lp j kb ex l1 l2) : I2 w W i2 s2 i1 s1 lp j kb ex l2 l1 := by
 obtain ⟨O1, N1, c1, O2, N2, c2, h1, h2, h3, h4, h5, h6, h7, h8, h9⟩ := h
 exact ⟨O2, N2, c2, O1, N1, c1, h2, h1, h4, h3, fun b hb hm => h5 b hm hb, h6, fun b hb => h7 b hb.symm, fun z hz => ⟨(h8 z hz).1, (h8 z hz).2.2, (h8 z hz).2.1⟩, fun z hz => ⟨(h9 z hz).1, fun b e => ⟨((h9 z hz).2 b e).2.1, ((h9 z hz).2 b e).1, ((h9 z hz).2 b e).2.2⟩⟩⟩
theorem I2.below (h : I2 w W i1 s1 i2 s2 lp j kb ex l1 l2) (hb : Below W.heap.size W W') : I2 w W' i1 s1 i2 s2 lp j kb ex l1 l2 := by
 obtain ⟨O1, N1, c1, O2, N2, c2, h1, h2, h3, h4, h5, h6, h7, h8, h9⟩ := h
 exact ⟨O1, N1, c1, O2, N2, c2, h1.below hb, h2.below hb, h3, h4, h5, h6.trans (hb.mono h6.size), h7, fun z hz => ⟨(h8 z hz).1.below hb (h8 z hz).1.lt, (h8 z hz).2⟩, fun z hz => ⟨(h9 z hz).1.below hb, fun b e => ⟨((h9 z hz).2 b e).1, ((h9 z hz).2 b e).2.1, Nat.lt_of_lt_of_le ((h9 z hz).2 b e).2.2 hb.size⟩⟩⟩
theorem I2.fr (h : I2 w W i1 s1 i2 s2 lp j kb ex l1 l2) : Below w.heap.size w W := by
 obtain ⟨O1, N1, c1, O2, N2, c2, h1, h2, h3, h4, h5, h6, h7, h8, h9⟩ := h
 exact h6
theorem I2.up (h : I2 w W i1 s1 i2 s2 lp j kb ex l1 l2) {i : Nat} (hi : j ≤ i) : I2 w W i1 s1 i2 s2 lp i kb ex l1 l2 := by
 obtain ⟨O1, N1, c1, O2, N2, c2, h1, h2, h3, h4, h5⟩ := h
 exact ⟨O1, N1, c1, O2, N2, c2, h1, h2, by omega, by omega, h5⟩
theorem I2.sub (h : I2 w W i1 s1 i2 s2 lp j kb ex l1 l2) {kb' : List (Nat × TypeId × Array Value)} {ex' : List (Value × List Ev)} (hk : ∀ z ∈ kb', z ∈ kb) (he : ∀ z ∈ ex', z ∈ ex) : I2 w W i1 s1 i2 s2 lp j kb' ex' l1 l2 := by
 obtain ⟨O1, N1, c1, O2, N2, c2, h1, h2, h3, h4, h5, h6, h7, h8, h9⟩ := h
 exact ⟨O1, N1, c1, O2, N2, c2, h1, h2, h3, h4, h5, h6, h7, fun z hz => h8 z (hk z hz), fun z hz => h9 z (he z hz)⟩
theorem I2.blk (h : I2 w W i1 s1 i2 s2 lp j kb ex l1 l2) {z : Nat × TypeId × Array Value} (hz : z ∈ kb) : Blk W z.1 z.2.1 z.2.2 := by
 obtain ⟨O1, N1, c1, O2, N2, c2, h1, h2, h3, h4, h5, h6, h7, h8, h9⟩ := h
 exact (h8 z hz).1
theorem I2.vw (h : I2 w W i1 s1 i2 s2 lp j kb ex l1 l2) {z : Value × List Ev} (hz : z ∈ ex) : Vw 5 evC W z.1 z.2 := by
 obtain ⟨O1, N1, c1, O2, N2, c2, h1, h2, h3, h4, h5, h6, h7, h8, h9⟩ := h
 exact (h9 z hz).1
theorem I2.ok (h : I2 w W i1 s1 i2 s2 lp j kb ex l1 l2) : l1.length ≤ j ∧ l2.length ≤ j := by
 obtain ⟨O1, N1, c1, O2, N2, c2, h1, h2, h3, h4, h5, h6, h7, h8, h9⟩ := h
 exact ⟨h3.2.2, h4.2.2⟩
theorem I2.box (h : I2 w W i1 s1 i2 s2 lp j kb ex l1 l2) (T : TypeId) (cs : Array Value) : I2 w (W.alloc (.cells cs T)) i1 s1 i2 s2 lp j ((W.heap.size, T, cs) :: kb) ex l1 l2 := by
 have hb : Below W.heap.size W (W.alloc (.cells cs T)) := (Below.refl _ W).alloc (Nat.le_refl _) _
 obtain ⟨O1, N1, c1, O2, N2, c2, h1, h2, h3, h4, h5, h6, h7, h8, h9⟩ := h
 refine ⟨O1, N1, c1, O2, N2, c2, h1.below hb, h2.below hb, h3, h4, h5, h6.trans (hb.mono h6.size), h7, fun z hz => ?_, fun z hz => ⟨(h9 z hz).1.below hb, fun b e => ⟨((h9 z hz).2 b e).1, ((h9 z hz).2 b e).2.1, Nat.lt_of_lt_of_le ((h9 z hz).2 b e).2.2 hb.size⟩⟩⟩
 rcases List.mem_cons.1 hz with rfl | hz
 ·exact ⟨Blk.new W T cs, fun hm => Nat.lt_irrefl _ (h1.lts _ hm), fun hm => Nat.lt_irrefl _ (h2.lts _ hm)⟩
 ·exact ⟨(h8 z hz).1.below hb (h8 z hz).1.lt, (h8 z hz).2⟩
theorem fpI_grow {i : Nat} {s : SL} {O O' : List Nat} {n b : Nat} (hg : Gr O n O') (h : b ∈ fpI i s O') : b ∈ fpI i s O ∨ n ≤ b := by
 unfold fpI at h ⊢
 rcases List.mem_cons.1 h with e | h
 ·exact .inl (by simp [e])
 rcases List.mem_cons.1 h with e | h
 ·exact .inl (by simp [e])
 rcases List.mem_cons.1 h with e | h
 ·exact .inl (by simp [e])
 exact (hg b h).imp (fun h => by simp [h]) id
theorem I2.turn {O1 O1' O2 : List Nat} {N1' c1' N2 c2 i : Nat} {l1' : List Ix} (h2 : IbI W i2 s2 lp O2 N2 c2 l2) (h4 : N2 ≤ j ∧ c2 ≤ j ∧ l2.length ≤ j) (h5 : ∀ b ∈ fpI i1 s1 O1, b ∉ fpI i2 s2 O2) (h6 : Below w.heap.size w W) (h7 : ∀ b, b ∈ fpI i1 s1 O1 ∨ b ∈ fpI i2 s2 O2 → w.heap.size ≤ b) (h8 : ∀ z ∈ kb, Blk W z.1 z.2.1 z.2.2 ∧ z.1 ∉ fpI i1 s1 O1 ∧ z.1 ∉ fpI i2 s2 O2) (h9 : ∀ z ∈ ex, Vw 5 evC W z.1 z.2 ∧ ∀ b, z.1.ownBlock = some b → b ∉ fpI i1 s1 O1 ∧ b ∉ fpI i2 s2 O2 ∧ b < W.heap.size) (g1 : IbI W' i1 s1 lp O1' N1' c1' l1') (g2 : N1' ≤ i ∧ c1' ≤ i ∧ l1'.length ≤ i) (hi : j ≤ i) (hK : Kp O1 W W') (hG : Gr O1 W.heap.size O1') : I2 w W' i1 s1 i2 s2 lp i kb ex l1' l2 := by
 have sub : ∀ b, b ∈ O1 → b ∈ fpI i1 s1 O1 := fun b hb => by unfold fpI; simp [hb]
 have out : ∀ b, b < W.heap.size → b ∉ fpI i1 s1 O1 → b ∉ fpI i1 s1 O1' := fun b hb hn hm => by
  rcases fpI_grow hG hm with h | h
  ·exact hn h
  ·omega
 have h2' : IbI W' i2 s2 lp O2 N2 c2 l2 := h2.of_blocks (fun b hb => hK.block b (h2.lts b hb) (fun hm => h5 b (sub b hm) hb))
 refine ⟨O1', N1', c1', O2, N2, c2, g1, h2', g2, by omega, fun b hb hm => ?_, h6.trans (hK.to_below h6.size (fun x hx => h7 x (.inl (sub x hx)))), fun b hb => ?_, fun z hz => ⟨(h8 z hz).1.kp hK (fun hm => (h8 z hz).2.1 (sub _ hm)), out _ (h8 z hz).1.lt (h8 z hz).2.1, (h8 z hz).2.2⟩, fun z hz => ⟨(h9 z hz).1.kpI hK fun b e hm => ((h9 z hz).2 b e).1 (sub b hm), fun b e => ⟨out b ((h9 z hz).2 b e).2.2 ((h9 z hz).2 b e).1, ((h9 z hz).2 b e).2.1, Nat.lt_of_lt_of_le ((h9 z hz).2 b e).2.2 hK.size⟩⟩⟩
 ·rcases fpI_grow hG hb with h | h
  ·exact h5 b h hm
  ·have := h2.lts b hm; omega
 ·rcases hb with hb | hb
  ·rcases fpI_grow hG hb with h | h
   ·exact h7 b (.inl h)
   ·exact Nat.le_trans h6.size h
  ·exact h7 b (.inr hb)
theorem i2_step (h : I2 w W i1 s1 i2 s2 lp j kb ex l1 l2) (hj : j ≤ 100) (e : Ev) (a : Bool) (ho : e.ok) :
  Calls Tryz.prog 49 #[.pointer (some ⟨i1, 0, none⟩), msgV e a] W fun r w' => ∃ x y z, r = .returned (.tuple #[.int .i64 x, .int .i64 y, .int .i64 z]) ∧ I2 w w' i1 s1 i2 s2 lp (j + 1) kb ex (stepI lp l1 (e, a)) l2 := by
 have h0 := h
 obtain ⟨O1, N1, c1, O2, N2, c2, h1, h2, h3, h4, h5, h6, h7, h8, h9⟩ := h
 by_cases hr : e.right ∧ e.dst = lp
 ·refine (iadd_any h1 e a hr.1 ho hr.2 (by omega) (by omega)).mono ?_
  rintro r w' ⟨O', N', rfl, g1, g2, g3, g4⟩
  have hlen := addI_length l1 e (sgI a)
  refine ⟨_, _, _, rfl, ?_⟩
  unfold stepI
  rw [if_pos hr]
  exact I2.turn (l1' := addI l1 e (sgI a)) h2 h4 h5 h6 h7 h8 h9 g2 ⟨by omega, by omega, by omega⟩ (Nat.le_succ j) g3 g4
 ·refine (iadd_no h1 e a ho hr).mono ?_
  rintro r w' ⟨rfl, hb⟩
  refine ⟨_, _, _, rfl, ?_⟩
  unfold stepI
  rw [if_neg hr]
  exact (h0.below hb).up (Nat.le_succ j)
theorem i2_counts (h : I2 w W i1 s1 i2 s2 lp j kb ex l1 l2) (hj : j ≤ 1000) :
  Calls Tryz.prog 50 #[.pointer (some ⟨i1, 0, none⟩)] W fun r w' => r = .returned (.tuple #[.int .i64 (moreI l1), .int .i64 (l1.length - moreI l1 : Nat), .int .i64 0]) ∧ I2 w w' i1 s1 i2 s2 lp j kb ex l1 l2 := by
 obtain ⟨O1, N1, c1, O2, N2, c2, h1, h2, h3, h4, h5, h6, h7, h8, h9⟩ := h
 refine (icounts_any h1 (by omega) (by omega)).mono ?_
 rintro r w' ⟨rfl, g1, g2⟩
 exact ⟨rfl, I2.turn h2 h4 h5 h6 h7 h8 h9 g1 h3 (Nat.le_refl _) g2 (Gr.refl _ _)⟩
theorem i2_between (h : I2 w W i1 s1 i2 s2 lp j kb ex l1 l2) (hj : j ≤ 1000) (a u : Bs) (ha : a.length ≤ 29) (hu : u.length ≤ 29) :
  Calls Tryz.prog 52 #[.pointer (some ⟨i1, 0, none⟩), .string (S a), .string (S u)] W fun r w' => ∃ p c, r = .returned (.tuple #[.slice p (betI l1 a u).length c, .int .i64 0]) ∧ I2 w w' i1 s1 i2 s2 lp j kb ((.slice p (betI l1 a u).length c, betI l1 a u) :: ex) l1 l2 := by
 obtain ⟨O1, N1, c1, O2, N2, c2, h1, h2, h3, h4, h5, h6, h7, h8, h9⟩ := h
 refine (ibetween_any h1 (by omega) (by omega) a u ha hu).mono ?_
 rintro r w' ⟨v, rfl, g1, g2, g3⟩
 obtain ⟨p, c, rfl⟩ := own_slice2 g3
 have h0 := I2.turn (kb := kb) (ex := ex) h2 h4 h5 h6 h7 h8 h9 g1 h3 (Nat.le_refl _) g2 (Gr.refl _ _)
 have hlt1 := h1.lts
 have hlt2 := h2.lts
 obtain ⟨O1', N1', c1', O2', N2', c2', _⟩ := h0
 refine ⟨p, c, rfl, O1, N1, c1, O2, N2, c2, g1, h2.of_blocks (fun b hb => g2.block b (hlt2 b hb) (fun hm => h5 b (by unfold fpI; simp [hm]) hb)), h3, h4, h5, h6.trans (g2.to_below h6.size (fun x hx => h7 x (.inl (by unfold fpI; simp [hx])))), h7, fun z hz => ⟨(h8 z hz).1.kp g2 (fun hm => (h8 z hz).2.1 (by unfold fpI; simp [hm])), (h8 z hz).2⟩, fun z hz => ?_⟩
 rcases List.mem_cons.1 hz with rfl | hz
 ·refine ⟨Vw.of_own evC_len g3 rfl, fun b e => ⟨fun hm => ?_, fun hm => ?_, (g3.lt b e).2⟩⟩
  ·have q1 := (g3.lt b e).1
   have q2 := hlt1 b hm
   omega
  ·have q1 := (g3.lt b e).1
   have q2 := hlt2 b hm
   omega
 ·exact ⟨(h9 z hz).1.kpI g2 fun b e hm => ((h9 z hz).2 b e).1 (by unfold fpI; simp [hm]), fun b e => ⟨((h9 z hz).2 b e).1, ((h9 z hz).2 b e).2.1, Nat.lt_of_lt_of_le ((h9 z hz).2 b e).2.2 g2.size⟩⟩
end
theorem I2.of {w W1 W2 : World} {i1 : Nat} {s1 : SL} {i2 : Nat} {s2 : SL} {lp : Int} (h1 : Ib w W1 i1 s1 lp 0 [] [] []) (h2 : Ib W1 W2 i2 s2 lp 0 [] [] []) : I2 w W2 i1 s1 i2 s2 lp 0 [] [] [] [] := by
 obtain ⟨O1, N1, c1, g1, g2, g3, g4, g5, g6, _⟩ := h1
 obtain ⟨O2, N2, c2, k1, k2, k3, k4, k5, k6, _⟩ := h2
 refine ⟨O1, N1, c1, O2, N2, c2, g1.below k5, k1, ⟨g2, g3, g4⟩, ⟨k2, k3, k4⟩, fun b hb hm => ?_, g5.trans (k5.mono g5.size), fun b hb => ?_, by simp, by simp⟩
 ·have := g1.lts b hb
  have := k6 b hm
  omega
 ·rcases hb with hb | hb
  ·exact g6 b hb
  ·exact Nat.le_trans g5.size (k6 b hb)
end
section
open Go.RowKit Go.Lib
def EvAt (W : World) (b o j : Nat) (x : Ev) : Prop := W.cell? ⟨b, o + j * 5, none⟩ = some (.float .f64 x.t) ∧ W.cell? ⟨b, o + j * 5 + 1, none⟩ = some (.int .i64 x.src) ∧ W.cell? ⟨b, o + j * 5 + 2, none⟩ = some (.int .i64 x.n) ∧ W.cell? ⟨b, o + j * 5 + 3, none⟩ = some (.int .i64 x.dst) ∧ W.cell? ⟨b, o + j * 5 + 4, none⟩ = some (.int .i64 x.pay)
theorem Vw.evAt {W : World} {p : Option Addr} {n c j : Nat} {l : List Ev} {x : Ev} (h : Vw 5 evC W (.slice p n c) l) (hx : l[j]? = some x) : ∃ b o, p = some ⟨b, o, none⟩ ∧ ∀ W', Below W.heap.size W W' → EvAt W' b o j x := by
 obtain ⟨b, o, c', e, _, hb, k⟩ := h.ex (by rintro rfl; simp at hx)
 injection e with e1 _ _
 refine ⟨b, o, e1, fun W' hW => ?_⟩
 have f1 : ∀ q u, (evC x)[q]? = some u → W'.cell? ⟨b, o + j * 5 + q, none⟩ = some u := fun q u hu => (World.cell?_of_block (hW.block b hb)).trans (k j x hx q u hu)
 exact ⟨f1 0 _ rfl, f1 1 _ rfl, f1 2 _ rfl, f1 3 _ rfl, f1 4 _ rfl⟩
set_option maxHeartbeats 8000000 in
theorem sameev08_any {w : World} {p1 p2 : Option Addr} {n c1 c2 : Nat} {l : List Ev} (h1 : Vw 5 evC w (.slice p1 n c1) l) (h2 : Vw 5 evC w (.slice p2 n c2) l) (hn : n = l.length) (hl : n ≤ 1000) :
  Calls Tryz.prog 115 #[.slice p1 n c1, .slice p2 n c2] w fun r w' => r = .returned (.bool true) ∧ Below w.heap.size w w' := by
 have hli : (n : Int) ≤ 1000 := by omega
 have HG := hid (⟨h1, h2, hn⟩ : _ ∧ _ ∧ _)
 clear h1 h2 hn hl
 go_enter Tryz.func115, Tryz.ntmps115
 go_wp2
 go_loopg [5] n (fun gg s5 wr => ∃ j : Nat, j ≤ n ∧ n - j ≤ gg ∧ s5 = .int .i64 j ∧ Hid (Below w.heap.size w wr))
 case atStart => exact ⟨0, by omega, by omega, rfl, hid (Below.refl _ _)⟩
 case round =>
  obtain ⟨j, hj, hgg, rfl, HI⟩ := hrel
  by_cases hje : j < n
  ·obtain ⟨x, hx⟩ : ∃ x, l[j]? = some x := ⟨_, List.getElem?_eq_getElem (by rw [← HG.out.2.2]; exact hje)⟩
   obtain ⟨b1, o1, e1, k1⟩ := HG.out.1.evAt hx
   obtain ⟨b2, o2, e2, k2⟩ := HG.out.2.1.evAt hx
   subst e1 e2
   have HC : Hid (∀ W, BelC wr W → EvAt W b1 o1 j x ∧ EvAt W b2 o2 j x) := hid fun W hW => by
    have hb := HI.out.trans (hW.out.mono HI.out.size)
    exact ⟨k1 W hb, k2 W hb⟩
   have hji : (j : Int) < (n : Int) := by omega
   have HDR := hid (BelC.drew wr)
   have H1 := hid (BelC.call (W1 := wr) (same02_any x.t x.src x.n))
   clear hx k1 k2
   obtain ⟨wo, hwo⟩ : ∃ wo, wo = wr := ⟨_, rfl⟩
   subst hwo
   go_wp2
   refine qC_region (by kernel_rfl) (by kernel_rfl) (BelC wo) HDR.out ?_
   repeat (first | (refine qC_none rfl (fun K hK => ?_); apply Exists.intro; refine ⟨fun w0 hw0 => ?_, ?_⟩; (focus (obtain ⟨⟨q0, q1, q2, q3, q4⟩, r0, r1, r2, r3, r4⟩ := HC.out w0 hw0; go_simp; first | exact rfl | exact ⟨rfl, rfl⟩ | (exact H1.out w0 hw0))); go_simp; refine hK _ ?_; clear hK K) | (refine qC_yes _ _ _ rfl rfl (by rfl) (fun K hK => ?_); apply Exists.intro; refine ⟨fun w0 hw0 => ?_, ?_⟩; (focus (obtain ⟨⟨q0, q1, q2, q3, q4⟩, r0, r1, r2, r3, r4⟩ := HC.out w0 hw0; go_simp; first | exact rfl | exact ⟨rfl, rfl⟩ | (exact H1.out w0 hw0))); go_simp; refine hK _ ?_; clear hK K) | (refine qC_no _ _ _ rfl rfl (by rfl) (fun K hK => ?_); go_simp; refine hK _ ?_; clear hK K) | (refine qC_undef _ _ _ rfl rfl (by rfl) (fun K hK => ?_); go_simp; refine hK _ ?_; clear hK K))
   refine qC_nil ?_
   intro w5 hw5
   have HI5 := hid (HI.out.trans (hw5.out.mono HI.out.size))
   clear hw5
   go_wp2
   go_roundg (n - (j + 1))
   case measure => omega
   case rel => exact ⟨j + 1, by omega, by omega, by go_num, HI5⟩
  ·have hji : ¬ ((j : Int) < (n : Int)) := by omega
   go_wp2
   go_ret
   exact ⟨rfl, HI.out⟩
theorem events23_any {w : World} {p1 p2 : Option Addr} {n c1 c2 : Nat} {l : List Ev} (h1 : Vw 5 evC w (.slice p1 n c1) l) (h2 : Vw 5 evC w (.slice p2 n c2) l) (hn : n = l.length) (hl : n ≤ 1000) :
  Calls Tryz.prog 53 #[.slice p1 n c1, .slice p2 n c2] w fun r w' => r = .returned (.bool true) ∧ Below w.heap.size w w' := by
 have HS := hid (sameev08_any h1 h2 hn hl)
 clear h1 h2 hn hl
 go_enter Tryz.func53, Tryz.ntmps53
 go_wp2_with fail
 (with_reducible refine HS.out.mono ?_)
 rintro r W1 ⟨rfl, hb⟩
 have HB := hid hb
 clear hb
 go_wp2
 go_ret
 exact ⟨rfl, HB.out⟩
end
end Go.Proofs.YtnnghcooidjlhaaGreat
