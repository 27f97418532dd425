/- Parts of the proof: Re. -/
import Derived.Test.YtnnghcooidjlhaaGreatD26
import Derived.Test.YtnnghcooidjlhaaGreatE30
set_option linter.all false
set_option maxRecDepth 100000
namespace Go.Proofs.YtnnghcooidjlhaaGreat
section
open Go.RowKit Go.Lib
set_option maxHeartbeats 2000000 in
theorem sh_none {w : World} {P : PL} {O : List Nat} (h : PoI w P O []) :
  Calls Tryz.prog 145 #[.pointer (some ⟨P.S.s, 0, none⟩)] w fun e w' => e = .returned (.slice none 0 0) ∧ w = w' := by
 obtain ⟨G, l, hand, p0, rfl, h, h0⟩ := h
 have hp0 : p0 = [] := by
  have := h.rl.len
  exact List.eq_nil_of_length_eq_zero (by simpa using this.symm)
 have hT : G.T = [] := List.eq_nil_of_length_eq_zero (by rw [h.sh.tl, hp0]; rfl)
 have htb := h.sh.tb
 rw [hT] at htb
 obtain ⟨a, c, htv⟩ := own_slice2 htb
 have c2 : w.cell? ⟨P.S.s, 2, none⟩ = some (.slice a 0 c) := by rw [h.sh.c.cell]; simp [shCells, htv]
 clear h h0 hp0 hT htb htv
 go_enter Tryz.func145, Tryz.ntmps145
 go_wp2
 go_loopg [3, 4, 5, 14] 0 (fun gg s3 s4 s5 s14 wr => s14 = .int .i64 0 ∧ s3 = .slice none 0 0 ∧ wr = w)
 case atStart => exact ⟨rfl, rfl, rfl⟩
 case round =>
  obtain ⟨rfl, rfl, rfl⟩ := hrel
  go_wp2
  go_ret
  exact ⟨rfl, rfl⟩
theorem leaf0_used : used (recs ⟨true, []⟩) ≤ 232 := by decide
theorem leaf0_may : mayN ⟨true, []⟩ := ⟨by simp, List.Pairwise.nil⟩
theorem mapI_fresh {m : Mp} (h : m 0 = some (pgOf ⟨true, []⟩)) (hall : ∀ r, m r ≠ none → r = 0) : MapI m 0 [] [(0, 0, 0)] 0 where
 rep := ⟨⟨h, leaf0_may, by simp⟩, rfl⟩
 nd := by simp [fars]
 all := fun r hr => by rw [hall r hr]; simp
 ch := by simp
 pot := fun p => by simp [Pot.sum, Pot.one]
 dep := fun h hh => by omega
set_option maxHeartbeats 8000000 in
theorem tree_open {w : World} {P : PL} {O : List Nat} (h : PoI w P O []) :
  Calls Tryz.prog 146 #[.pointer (some ⟨P.p, 0, none⟩)] w fun e w' => ∃ tb O', e = .returned (.tuple #[.pointer (some ⟨tb, 0, none⟩), .int .i64 0]) ∧ TreeI w' P O' tb 0 [] ∧ Kp O w w' ∧ Gr O w.heap.size O' ∧ w.heap.size ≤ tb := by
 have hno : ∀ b, w.heap.size ≤ b → b ∉ O := fun b hb hm => by have := h.lts b hm; omega
 obtain ⟨W1, hW1⟩ : ∃ W1, W1 = w.alloc (.cells #[.pointer (some ⟨P.p, 0, none⟩)] 318) := ⟨_, rfl⟩
 have hb1 : Below w.heap.size w W1 := by rw [hW1]; exact (Below.refl _ w).alloc (Nat.le_refl _) _
 have hs1 : W1.heap.size = w.heap.size + 1 := by rw [hW1]; simp
 have hT1 : TrI W1 P w.heap.size := by rw [hW1]; exact Blk.new w _ _
 have h1 := h.below hb1
 have HST := hid (pi_store h1)
 have HSP := hid (sh_none h1)
 have HNP := hid (nput_any (w := W1) (n := ⟨true, []⟩) (v := .slice none 0 0) leaf0_may ⟨⟨none, 0, rfl, by simp, (fun g o e => by cases e), fun e => absurd rfl e⟩⟩ (by simp))
 rw [show putR ⟨true, []⟩ = .tuple #[.string (S (pgOf ⟨true, []⟩)), .int .i64 0] from ofR_pos leaf0_used] at HNP
 have hpl : (pgOf ⟨true, []⟩).length = 232 := lay_length leaf0_used
 unfold ndV at HNP
 have HX := hid (⟨h1, hT1, hb1, hno, hs1⟩ : _ ∧ _ ∧ _ ∧ _ ∧ _)
 rw [hW1] at HST HSP HNP
 have HW1 := hid hW1
 clear h hno hb1 hs1 hT1 h1 hW1
 go_enter Tryz.func146, Tryz.ntmps146
 go_wp2_with fail
 (with_reducible refine HST.out.mono ?_)
 rintro e w1 ⟨rfl, rfl⟩
 go_wp2_with fail
 (with_reducible refine HSP.out.mono ?_)
 rintro e w1 ⟨rfl, rfl⟩
 go_wp2_with fail
 (with_reducible refine HNP.out.mono ?_)
 rintro e W2 ⟨rfl, hb2⟩
 rw [← HW1.out] at hb2
 obtain ⟨h1, hT1, hb1, hno, hs1⟩ := HX.out
 have h2 := h1.below hb2
 have hT2 : TrI W2 P w.heap.size := Blk.below hT1 hb2 (Blk.lt hT1)
 have HNEW := hid (pi_new h2 (pgOf ⟨true, []⟩) (by omega) (by decide))
 have H2 := hid (⟨hb1.trans (hb2.mono hb1.size), hT2⟩ : _ ∧ _)
 clear h1 hT1 hb1 hno hs1 h2 hT2 hb2
 go_wp2_with fail
 (with_reducible refine HNEW.out.mono ?_)
 rintro e W3 ⟨q, O3, rfl, hq1, hq2, h3, hk3, hg3⟩
 obtain rfl : q = 0 := by simpa using hq1
 have hpg : newAt [] 0 (pad (pgOf ⟨true, []⟩)) = [some (pgOf ⟨true, []⟩)] := by
  have : pad (pgOf ⟨true, []⟩) = pgOf ⟨true, []⟩ := by unfold pad; rw [hpl]; simp
  rw [this]; rfl
 rw [hpg] at h3
 have hT3 : TrI W3 P w.heap.size := Blk.kp H2.out.2 hk3 (HX.out.2.2.2.1 _ (Nat.le_refl _))
 have HRD := hid (read_any hT3 h3 (q := 0) (n := ⟨true, []⟩) rfl leaf0_may (by simp))
 rw [show ((0 : Nat) : Int) = 0 from rfl] at HRD
 have H3 := hid (⟨(Kp.of_below H2.out.1).trans hk3, hg3.mono H2.out.1.size, hT3, hg3⟩ : _ ∧ _ ∧ _ ∧ _)
 clear hq1 hq2 h3 hk3 hg3 hpg hT3
 go_wp2_with fail
 (with_reducible refine HRD.out.mono ?_)
 rintro e W4 ⟨v, rfl, hO4, hk4, h4⟩
 unfold ndV
 obtain ⟨a4, c4, rfl⟩ := own_slice2 hO4
 have hto : w.heap.size ∉ O3 := H3.out.2.2.2.out (Nat.lt_of_lt_of_le (Blk.lt (show Blk W2 w.heap.size _ _ from H2.out.2)) (Nat.le_refl _)) (HX.out.2.2.2.1 _ (Nat.le_refl _))
 have hT4 : TrI W4 P w.heap.size := Blk.kp H3.out.2.2.1 hk4 hto
 have hm : MapI (pg [some (pgOf ⟨true, []⟩)]) 0 [] [(0, 0, 0)] 0 := mapI_fresh rfl (fun r hr => by
  cases r with
  | zero => rfl
  | succ r => exact absurd rfl hr)
 have hF : ∀ W, Below W4.heap.size W4 W → TreeI W P O3 w.heap.size 0 [] ∧ Kp O w W := fun W hW => ⟨⟨[some (pgOf ⟨true, []⟩)], 0, [], [(0, 0, 0)], h4.below hW, Blk.below hT4 hW (Blk.lt hT4), hto, hm, by omega, rfl⟩,
  (H3.out.1.trans_gr H3.out.2.1 hk4).trans (Kp.of_below hW)⟩
 have HF := hid hF
 clear hO4 hk4 h4 hto hT4 hm hF
 go_wp2
 go_ret2
 have h5 := HF.out _ ((Below.refl _ W4).alloc (Nat.le_refl _) (.cells #[.bool true, .slice a4 0 c4] 292))
 exact ⟨w.heap.size, O3, rfl, h5.1, h5.2, H3.out.2.1, Nat.le_refl _⟩
set_option maxHeartbeats 4000000 in
theorem store_open {w : World} {P : PL} {O : List Nat} (h : PoI w P O []) :
  Calls Tryz.prog 92 #[.pointer (some ⟨P.p, 0, none⟩)] w fun e w' => ∃ s O', e = .returned (.tuple #[.pointer (some ⟨s.sb, 0, none⟩), .int .i64 0]) ∧ StI w' s O' 0 [] ∧ Kp O w w' ∧ Gr O w.heap.size O' ∧ w.heap.size ≤ s.sb ∧ w.heap.size ≤ s.tb := by
 have HST := hid (pi_store h)
 have HSP := hid (sh_none h)
 have HTO := hid (tree_open h)
 have HX := hid h
 clear h
 go_enter Tryz.func92, Tryz.ntmps92
 go_wp2_with fail
 (with_reducible refine HST.out.mono ?_)
 rintro e w1 ⟨rfl, rfl⟩
 go_wp2_with fail
 (with_reducible refine HSP.out.mono ?_)
 rintro e w1 ⟨rfl, rfl⟩
 go_wp2_with fail
 (with_reducible refine HTO.out.mono ?_)
 rintro e W1 ⟨tb, O1, rfl, hT, hk, hg, htb⟩
 have HF : Hid (StI (W1.alloc (.cells #[.pointer (some ⟨tb, 0, none⟩), .pointer (some ⟨P.p, 0, none⟩), .bool true] 238)) ⟨W1.heap.size, tb, P⟩ O1 0 [] ∧ Kp O w (W1.alloc (.cells #[.pointer (some ⟨tb, 0, none⟩), .pointer (some ⟨P.p, 0, none⟩), .bool true] 238)) ∧ Gr O w.heap.size O1 ∧ w.heap.size ≤ W1.heap.size ∧ w.heap.size ≤ tb) := hid ⟨⟨hT.below ((Below.refl _ _).alloc (Nat.le_refl _) _), ⟨true, Blk.new W1 _ _⟩, fun hm => by have := hT.lts W1.heap.size (List.mem_cons_of_mem _ hm); omega⟩, hk.alloc _, hg, hk.size, htb⟩
 clear hT hk hg htb
 go_wp2
 go_ret2
 exact ⟨⟨W1.heap.size, tb, P⟩, O1, rfl, HF.out⟩
set_option maxHeartbeats 4000000 in
theorem begun_any (w : World) :
  Calls Tryz.prog 26 #[] w fun e w' => ∃ s O, e = .returned (.pointer (some ⟨s.sb, 0, none⟩)) ∧ StI w' s O 0 [] ∧ Below w.heap.size w w' ∧ ∀ b ∈ s.sb :: s.tb :: O, w.heap.size ≤ b := by
 have HD := hid (disk_new 1202 (by omega) (by omega) w)
 rw [show ((1202 : Nat) : Int) = 1202 from rfl] at HD
 go_enter Tryz.func26, Tryz.ntmps26
 go_wp2_with fail
 (with_reducible refine HD.out.mono ?_)
 rintro e W1 ⟨D, sec, rfl, hD, hb1, ho1⟩
 have HSF := hid (sh_format hD)
 have H1 := hid (⟨hb1, ho1⟩ : _ ∧ _)
 clear hD hb1 ho1
 go_wp2_with fail
 (with_reducible refine HSF.out.mono ?_)
 rintro e W2 ⟨L, G, rfl, hS, hk2, ho2⟩
 have hb2 : Below w.heap.size w W2 := H1.out.1.trans (hk2.to_below H1.out.1.size H1.out.2)
 have ho2' : ∀ b ∈ shOwn L G, w.heap.size ≤ b := fun b hb => (ho2 b hb).elim (H1.out.2 b) (fun h => Nat.le_trans H1.out.1.size h)
 have HPF := hid (pool_fresh hS)
 have H2 := hid (⟨hb2, ho2'⟩ : _ ∧ _)
 clear hS hk2 ho2 hb2 ho2'
 go_wp2_with fail
 (with_reducible refine HPF.out.mono ?_)
 rintro e W3 ⟨P, O3, rfl, hPL, hP, hb3, ho3⟩
 have hb03 := H2.out.1.trans (hb3.mono H2.out.1.size)
 have ho3' : ∀ b ∈ O3, w.heap.size ≤ b := fun b hb => (ho3 b hb).elim (H2.out.2 b) (fun h => Nat.le_trans H2.out.1.size h)
 have HSO := hid (store_open hP)
 have H3 := hid (⟨hb03, ho3'⟩ : _ ∧ _)
 clear hPL hP hb3 ho3 hb03 ho3'
 go_wp2_with fail
 (with_reducible refine HSO.out.mono ?_)
 rintro e W4 ⟨s, O4, rfl, hI, hk4, hg4, hs1, hs2⟩
 have hb04 := H3.out.1.trans (hk4.to_below H3.out.1.size H3.out.2)
 have ho4 : ∀ b ∈ s.sb :: s.tb :: O4, w.heap.size ≤ b := fun b hb => by
  have hsz := H3.out.1.size
  rcases List.mem_cons.1 hb with rfl | hb
  ·omega
  ·rcases List.mem_cons.1 hb with rfl | hb
   ·omega
   ·rcases hg4 b hb with h | h
    ·exact H3.out.2 b h
    ·omega
 have HF := hid (⟨hI, hb04, ho4⟩ : _ ∧ _ ∧ _)
 clear hI hk4 hg4 hs1 hs2 hb04 ho4
 go_wp2
 go_ret
 exact ⟨s, O4, rfl, HF.out⟩
end
end Go.Proofs.YtnnghcooidjlhaaGreat
