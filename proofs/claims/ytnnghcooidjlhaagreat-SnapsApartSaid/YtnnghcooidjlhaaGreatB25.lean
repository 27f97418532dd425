/- Parts of the proof: Re Ye Yf Yg Yh Yi Yj. -/
import Derived.Deep.RegionHeld3
import Derived.Test.YtnnghcooidjlhaaGreatA19
import Derived.Test.YtnnghcooidjlhaaGreatB24
set_option linter.all false
section
set_option linter.unusedSimpArgs false
set_option linter.unusedVariables false
set_option maxRecDepth 100000
namespace Go.Proofs.YtnnghcooidjlhaaGreat
open Go.RowKit Go.Lib
set_option maxHeartbeats 2000000 in
theorem sh_none {w : World} {P : PL} {O : List Nat} (h : PoI w P O []) :
    Calls Tryz.prog 145 #[.pointer (some ⟨P.S.s, 0, none⟩)] w fun e w' => e = .returned (.slice none 0 0) ∧ w = w' := by
  obtain ⟨G, l, hand, p0, rfl, h, h0⟩ := h
  have hp0 : p0 = [] := by
    have := h.rl.len
    exact List.eq_nil_of_length_eq_zero (by simpa using this.symm)
  have hT : G.T = [] := List.eq_nil_of_length_eq_zero (by rw [h.sh.tl, hp0]; rfl)
  have htb := h.sh.tb
  rw [hT] at htb
  obtain ⟨a, c, htv⟩ := own_slice2 htb
  have c2 : w.cell? ⟨P.S.s, 2, none⟩ = some (.slice a 0 c) := by rw [h.sh.c.cell]; simp [shCells, htv]
  clear h h0 hp0 hT htb htv
  go_enter Tryz.func145, Tryz.ntmps145
  go_wp2
  go_loopg [3, 4, 5, 14] 0 (fun gg s3 s4 s5 s14 wr => s14 = .int .i64 0 ∧ s3 = .slice none 0 0 ∧ wr = w)
  case atStart => exact ⟨rfl, rfl, rfl⟩
  case round =>
    obtain ⟨rfl, rfl, rfl⟩ := hrel
    go_wp2
    go_ret
    exact ⟨rfl, rfl⟩
theorem leaf0_used : used (recs ⟨true, []⟩) ≤ 232 := by decide
theorem leaf0_may : mayN ⟨true, []⟩ := ⟨by simp, List.Pairwise.nil⟩
theorem mapI_fresh {m : Mp} (h : m 0 = some (pgOf ⟨true, []⟩)) (hall : ∀ r, m r ≠ none → r = 0) : MapI m 0 [] [(0, 0, 0)] 0 where
  rep := ⟨⟨h, leaf0_may, by simp⟩, rfl⟩
  nd := by simp [fars]
  all := fun r hr => by rw [hall r hr]; simp
  ch := by simp
  pot := fun p => by simp [Pot.sum, Pot.one]
  dep := fun h hh => by omega
set_option maxHeartbeats 8000000 in
theorem tree_open {w : World} {P : PL} {O : List Nat} (h : PoI w P O []) :
    Calls Tryz.prog 146 #[.pointer (some ⟨P.p, 0, none⟩)] w fun e w' => ∃ tb O', e = .returned (.tuple #[.pointer (some ⟨tb, 0, none⟩), .int .i64 0]) ∧ TreeI w' P O' tb 0 [] ∧ Kp O w w' ∧ Gr O w.heap.size O' ∧ w.heap.size ≤ tb := by
  have hno : ∀ b, w.heap.size ≤ b → b ∉ O := fun b hb hm => by have := h.lts b hm; omega
  obtain ⟨W1, hW1⟩ : ∃ W1, W1 = w.alloc (.cells #[.pointer (some ⟨P.p, 0, none⟩)] 318) := ⟨_, rfl⟩
  have hb1 : Below w.heap.size w W1 := by rw [hW1]; exact (Below.refl _ w).alloc (Nat.le_refl _) _
  have hs1 : W1.heap.size = w.heap.size + 1 := by rw [hW1]; simp
  have hT1 : TrI W1 P w.heap.size := by rw [hW1]; exact Blk.new w _ _
  have h1 := h.below hb1
  have HST := hid (pi_store h1)
  have HSP := hid (sh_none h1)
  have HNP := hid (nput_any (w := W1) (n := ⟨true, []⟩) (v := .slice none 0 0) leaf0_may ⟨⟨none, 0, rfl, by simp, (fun g o e => by cases e), fun e => absurd rfl e⟩⟩ (by simp))
  rw [show putR ⟨true, []⟩ = .tuple #[.string (S (pgOf ⟨true, []⟩)), .int .i64 0] from ofR_pos leaf0_used] at HNP
  have hpl : (pgOf ⟨true, []⟩).length = 232 := lay_length leaf0_used
  unfold ndV at HNP
  have HX := hid (⟨h1, hT1, hb1, hno, hs1⟩ : _ ∧ _ ∧ _ ∧ _ ∧ _)
  rw [hW1] at HST HSP HNP
  have HW1 := hid hW1
  clear h hno hb1 hs1 hT1 h1 hW1
  go_enter Tryz.func146, Tryz.ntmps146
  go_wp2_with fail
  (with_reducible refine HST.out.mono ?_)
  rintro e w1 ⟨rfl, rfl⟩
  go_wp2_with fail
  (with_reducible refine HSP.out.mono ?_)
  rintro e w1 ⟨rfl, rfl⟩
  go_wp2_with fail
  (with_reducible refine HNP.out.mono ?_)
  rintro e W2 ⟨rfl, hb2⟩
  rw [← HW1.out] at hb2
  obtain ⟨h1, hT1, hb1, hno, hs1⟩ := HX.out
  have h2 := h1.below hb2
  have hT2 : TrI W2 P w.heap.size := Blk.below hT1 hb2 (Blk.lt hT1)
  have HNEW := hid (pi_new h2 (pgOf ⟨true, []⟩) (by omega) (by decide))
  have H2 := hid (⟨hb1.trans (hb2.mono hb1.size), hT2⟩ : _ ∧ _)
  clear h1 hT1 hb1 hno hs1 h2 hT2 hb2
  go_wp2_with fail
  (with_reducible refine HNEW.out.mono ?_)
  rintro e W3 ⟨q, O3, rfl, hq1, hq2, h3, hk3, hg3⟩
  obtain rfl : q = 0 := by simpa using hq1
  have hpg : newAt [] 0 (pad (pgOf ⟨true, []⟩)) = [some (pgOf ⟨true, []⟩)] := by
    have : pad (pgOf ⟨true, []⟩) = pgOf ⟨true, []⟩ := by unfold pad; rw [hpl]; simp
    rw [this]; rfl
  rw [hpg] at h3
  have hT3 : TrI W3 P w.heap.size := Blk.kp H2.out.2 hk3 (HX.out.2.2.2.1 _ (Nat.le_refl _))
  have HRD := hid (read_any hT3 h3 (q := 0) (n := ⟨true, []⟩) rfl leaf0_may (by simp))
  rw [show ((0 : Nat) : Int) = 0 from rfl] at HRD
  have H3 := hid (⟨(Kp.of_below H2.out.1).trans hk3, hg3.mono H2.out.1.size, hT3, hg3⟩ : _ ∧ _ ∧ _ ∧ _)
  clear hq1 hq2 h3 hk3 hg3 hpg hT3
  go_wp2_with fail
  (with_reducible refine HRD.out.mono ?_)
  rintro e W4 ⟨v, rfl, hO4, hk4, h4⟩
  unfold ndV
  obtain ⟨a4, c4, rfl⟩ := own_slice2 hO4
  have hto : w.heap.size ∉ O3 := H3.out.2.2.2.out (Nat.lt_of_lt_of_le (Blk.lt (show Blk W2 w.heap.size _ _ from H2.out.2)) (Nat.le_refl _)) (HX.out.2.2.2.1 _ (Nat.le_refl _))
  have hT4 : TrI W4 P w.heap.size := Blk.kp H3.out.2.2.1 hk4 hto
  have hm : MapI (pg [some (pgOf ⟨true, []⟩)]) 0 [] [(0, 0, 0)] 0 := mapI_fresh rfl (fun r hr => by
    cases r with
    | zero => rfl
    | succ r => exact absurd rfl hr)
  have hF : ∀ W, Below W4.heap.size W4 W → TreeI W P O3 w.heap.size 0 [] ∧ Kp O w W := fun W hW => ⟨⟨[some (pgOf ⟨true, []⟩)], 0, [], [(0, 0, 0)], h4.below hW, Blk.below hT4 hW (Blk.lt hT4), hto, hm, by omega, rfl⟩,
    (H3.out.1.trans_gr H3.out.2.1 hk4).trans (Kp.of_below hW)⟩
  have HF := hid hF
  clear hO4 hk4 h4 hto hT4 hm hF
  go_wp2
  go_ret2
  have h5 := HF.out _ ((Below.refl _ W4).alloc (Nat.le_refl _) (.cells #[.bool true, .slice a4 0 c4] 292))
  exact ⟨w.heap.size, O3, rfl, h5.1, h5.2, H3.out.2.1, Nat.le_refl _⟩
set_option maxHeartbeats 4000000 in
theorem store_open {w : World} {P : PL} {O : List Nat} (h : PoI w P O []) :
    Calls Tryz.prog 92 #[.pointer (some ⟨P.p, 0, none⟩)] w fun e w' => ∃ s O', e = .returned (.tuple #[.pointer (some ⟨s.sb, 0, none⟩), .int .i64 0]) ∧ StI w' s O' 0 [] ∧ Kp O w w' ∧ Gr O w.heap.size O' ∧ w.heap.size ≤ s.sb ∧ w.heap.size ≤ s.tb := by
  have HST := hid (pi_store h)
  have HSP := hid (sh_none h)
  have HTO := hid (tree_open h)
  have HX := hid h
  clear h
  go_enter Tryz.func92, Tryz.ntmps92
  go_wp2_with fail
  (with_reducible refine HST.out.mono ?_)
  rintro e w1 ⟨rfl, rfl⟩
  go_wp2_with fail
  (with_reducible refine HSP.out.mono ?_)
  rintro e w1 ⟨rfl, rfl⟩
  go_wp2_with fail
  (with_reducible refine HTO.out.mono ?_)
  rintro e W1 ⟨tb, O1, rfl, hT, hk, hg, htb⟩
  have HF : Hid (StI (W1.alloc (.cells #[.pointer (some ⟨tb, 0, none⟩), .pointer (some ⟨P.p, 0, none⟩), .bool true] 238)) ⟨W1.heap.size, tb, P⟩ O1 0 [] ∧ Kp O w (W1.alloc (.cells #[.pointer (some ⟨tb, 0, none⟩), .pointer (some ⟨P.p, 0, none⟩), .bool true] 238)) ∧ Gr O w.heap.size O1 ∧ w.heap.size ≤ W1.heap.size ∧ w.heap.size ≤ tb) := hid ⟨⟨hT.below ((Below.refl _ _).alloc (Nat.le_refl _) _), ⟨true, Blk.new W1 _ _⟩, fun hm => by have := hT.lts W1.heap.size (List.mem_cons_of_mem _ hm); omega⟩, hk.alloc _, hg, hk.size, htb⟩
  clear hT hk hg htb
  go_wp2
  go_ret2
  exact ⟨⟨W1.heap.size, tb, P⟩, O1, rfl, HF.out⟩
set_option maxHeartbeats 4000000 in
theorem begun_any (w : World) :
    Calls Tryz.prog 26 #[] w fun e w' => ∃ s O, e = .returned (.pointer (some ⟨s.sb, 0, none⟩)) ∧ StI w' s O 0 [] ∧ Below w.heap.size w w' ∧ ∀ b ∈ s.sb :: s.tb :: O, w.heap.size ≤ b := by
  have HD := hid (disk_new 1202 (by omega) (by omega) w)
  rw [show ((1202 : Nat) : Int) = 1202 from rfl] at HD
  go_enter Tryz.func26, Tryz.ntmps26
  go_wp2_with fail
  (with_reducible refine HD.out.mono ?_)
  rintro e W1 ⟨D, sec, rfl, hD, hb1, ho1⟩
  have HSF := hid (sh_format hD)
  have H1 := hid (⟨hb1, ho1⟩ : _ ∧ _)
  clear hD hb1 ho1
  go_wp2_with fail
  (with_reducible refine HSF.out.mono ?_)
  rintro e W2 ⟨L, G, rfl, hS, hk2, ho2⟩
  have hb2 : Below w.heap.size w W2 := H1.out.1.trans (hk2.to_below H1.out.1.size H1.out.2)
  have ho2' : ∀ b ∈ shOwn L G, w.heap.size ≤ b := fun b hb => (ho2 b hb).elim (H1.out.2 b) (fun h => Nat.le_trans H1.out.1.size h)
  have HPF := hid (pool_fresh hS)
  have H2 := hid (⟨hb2, ho2'⟩ : _ ∧ _)
  clear hS hk2 ho2 hb2 ho2'
  go_wp2_with fail
  (with_reducible refine HPF.out.mono ?_)
  rintro e W3 ⟨P, O3, rfl, hPL, hP, hb3, ho3⟩
  have hb03 := H2.out.1.trans (hb3.mono H2.out.1.size)
  have ho3' : ∀ b ∈ O3, w.heap.size ≤ b := fun b hb => (ho3 b hb).elim (H2.out.2 b) (fun h => Nat.le_trans H2.out.1.size h)
  have HSO := hid (store_open hP)
  have H3 := hid (⟨hb03, ho3'⟩ : _ ∧ _)
  clear hPL hP hb3 ho3 hb03 ho3'
  go_wp2_with fail
  (with_reducible refine HSO.out.mono ?_)
  rintro e W4 ⟨s, O4, rfl, hI, hk4, hg4, hs1, hs2⟩
  have hb04 := H3.out.1.trans (hk4.to_below H3.out.1.size H3.out.2)
  have ho4 : ∀ b ∈ s.sb :: s.tb :: O4, w.heap.size ≤ b := fun b hb => by
    have hsz := H3.out.1.size
    rcases List.mem_cons.1 hb with rfl | hb
    · omega
    · rcases List.mem_cons.1 hb with rfl | hb
      · omega
      · rcases hg4 b hb with h | h
        · exact H3.out.2 b h
        · omega
  have HF := hid (⟨hI, hb04, ho4⟩ : _ ∧ _ ∧ _)
  clear hI hk4 hg4 hs1 hs2 hb04 ho4
  go_wp2
  go_ret
  exact ⟨s, O4, rfl, HF.out⟩
end Go.Proofs.YtnnghcooidjlhaaGreat
end
section
set_option linter.unusedSimpArgs false
set_option linter.unusedVariables false
set_option maxRecDepth 100000
namespace Go.Proofs.YtnnghcooidjlhaaGreat
open Go.RowKit Go.Lib
def SnX (w : World) (xb : Nat) (s : SL) (lp : Int) : Prop := Blk w xb 165 #[.pointer (some ⟨s.sb, 0, none⟩), .int .i64 lp]
theorem snof_any (s : SL) (lp : Int) (h : 0 ≤ lp ∧ lp < 6) (w : World) : Calls Tryz.prog 27 #[.pointer (some ⟨s.sb, 0, none⟩), .int .i64 lp] w fun e w' => e = .returned (.tuple #[.pointer (some ⟨w.heap.size, 0, none⟩), .int .i64 0]) ∧ w.alloc (.cells #[.pointer (some ⟨s.sb, 0, none⟩), .int .i64 lp] 165) = w' := by
  have h0 : ¬ lp < 0 := by omega
  have h1 : ¬ 6 ≤ lp := by omega
  clear h
  go_enter Tryz.func27, Tryz.ntmps27
  go_wp2
  go_ret2
  exact ⟨rfl, rfl⟩
theorem snof_nil (lp : Int) (w : World) : Calls Tryz.prog 27 #[.pointer none, .int .i64 lp] w fun e w' => e = .returned (.tuple #[.pointer none, .int .i64 1]) ∧ w = w' := by
  go_enter Tryz.func27, Tryz.ntmps27
  go_wp2
  go_ret2
  exact ⟨rfl, rfl⟩
theorem snof_bad (p : Addr) (lp : Int) (h : ¬ (0 ≤ lp ∧ lp < 6)) (w : World) : Calls Tryz.prog 27 #[.pointer (some p), .int .i64 lp] w fun e w' => e = .returned (.tuple #[.pointer none, .int .i64 2]) ∧ w = w' := by
  have hc : lp < 0 ∨ (¬ lp < 0 ∧ 6 ≤ lp) := by omega
  clear h
  rcases hc with h0 | ⟨h0, h1⟩
  all_goals
    go_enter Tryz.func27, Tryz.ntmps27
    go_wp2
    go_ret2
    exact ⟨rfl, rfl⟩
theorem snmay_ok (p : Addr) (k : Bs) (h : k.length ≤ 29) (w : World) : Calls Tryz.prog 78 #[.pointer (some p), .string (S k)] w fun e w' => e = .returned (.int .i64 0) ∧ w = w' := by
  have h0 : ¬ (29 : Int) < (k.length : Int) := by omega
  go_enter Tryz.func78, Tryz.ntmps78
  go_wp2
  go_ret
  exact ⟨rfl, rfl⟩
theorem snmay_long (p : Addr) (k : Bs) (h : 29 < k.length) (w : World) : Calls Tryz.prog 78 #[.pointer (some p), .string (S k)] w fun e w' => e = .returned (.int .i64 2) ∧ w = w' := by
  have h0 : (29 : Int) < (k.length : Int) := by omega
  go_enter Tryz.func78, Tryz.ntmps78
  go_wp2
  go_ret
  exact ⟨rfl, rfl⟩
theorem snmay_nil (k : ByteArray) (w : World) : Calls Tryz.prog 78 #[.pointer none, .string k] w fun e w' => e = .returned (.int .i64 1) ∧ w = w' := by
  go_enter Tryz.func78, Tryz.ntmps78
  go_wp2
  go_ret
  exact ⟨rfl, rfl⟩
section
variable {w : World} {xb : Nat} {s : SL} {lp : Int} {O : List Nat} {N : Nat} {M : List KV}
set_option maxHeartbeats 4000000 in
theorem stake_no (q : Addr) (k : Bs) (p : Option Addr) (n c : Nat) (st : Sta) (hn : n = st.words.length) (h : ¬ (k.length ≤ 29 ∧ st.right)) (w : World) :
    Calls Tryz.prog 22 #[.pointer (some q), .string (S k), staV p n c st] w fun e w' => e = .returned (.int .i64 2) ∧ Below w.heap.size w w' := by
  have HB := hid ((Below.refl _ w).alloc (Nat.le_refl _) (.cells #[.slice p n c, .int .i64 st.sent, .int .i64 st.dice] 29))
  by_cases hk : k.length ≤ 29
  · have hr : ¬ st.right := fun hr => h ⟨hk, hr⟩
    have HM := hid (fun W => snmay_ok q k hk W)
    have HP := hid (fun W => putsta_no p n c st hn hr W)
    unfold staV at HP ⊢
    clear h hk hr hn
    go_enter Tryz.func22, Tryz.ntmps22
    go_wp2_with fail
    (with_reducible refine (HM.out _).mono ?_)
    rintro r w1 ⟨rfl, rfl⟩
    go_wp2_with fail
    (with_reducible refine (HP.out _).mono ?_)
    rintro r W2 ⟨rfl, hb2⟩
    have HF := hid (HB.out.trans (hb2.mono (by simp)))
    clear hb2
    go_wp2
    go_ret
    exact ⟨rfl, HF.out⟩
  · have HM := hid (fun W => snmay_long q k (by omega) W)
    unfold staV
    clear h hk hn
    go_enter Tryz.func22, Tryz.ntmps22
    go_wp2_with fail
    (with_reducible refine (HM.out _).mono ?_)
    rintro r w1 ⟨rfl, rfl⟩
    go_wp2
    go_ret
    exact ⟨rfl, HB.out⟩
theorem stake_nil (k : ByteArray) (p : Option Addr) (n c : Nat) (st : Sta) (w : World) :
    Calls Tryz.prog 22 #[.pointer none, .string k, staV p n c st] w fun e w' => e = .returned (.int .i64 1) ∧ Below w.heap.size w w' := by
  have HB := hid ((Below.refl _ w).alloc (Nat.le_refl _) (.cells #[.slice p n c, .int .i64 st.sent, .int .i64 st.dice] 29))
  have HM := hid (fun W => snmay_nil k W)
  unfold staV
  go_enter Tryz.func22, Tryz.ntmps22
  go_wp2_with fail
  (with_reducible refine (HM.out _).mono ?_)
  rintro r w1 ⟨rfl, rfl⟩
  go_wp2
  go_ret
  exact ⟨rfl, HB.out⟩
set_option maxHeartbeats 8000000 in
theorem stake_any (hX : SnX w xb s lp) (hS : StI w s O N M) (hxO : xb ∉ O) (hlp : 0 ≤ lp ∧ lp < 6) {k : Bs} (hk : k.length ≤ 29) {p : Option Addr} {n c : Nat} {st : Sta} (hv : Vw 1 wC w (.slice p n c) st.words) (hn : n = st.words.length) (hr : st.right) (ho : st.ok) (hroom : Roomy N M.length (longs M)) :
    Calls Tryz.prog 22 #[.pointer (some ⟨xb, 0, none⟩), .string (S k), staV p n c st] w fun e w' => ∃ O', e = .returned (.int .i64 0) ∧ StI w' s O' (N + 1) (setM M (hdP 3 lp ++ k) (staB st)) ∧ Kp O w w' ∧ Gr O w.heap.size O' := by
  have HM := hid (fun W => snmay_ok ⟨xb, 0, none⟩ k hk W)
  obtain ⟨W1, hW1⟩ : ∃ W1, W1 = w.alloc (.cells #[.slice p n c, .int .i64 st.sent, .int .i64 st.dice] 29) := ⟨_, rfl⟩
  have hb1 : Below w.heap.size w W1 := by rw [hW1]; exact (Below.refl _ w).alloc (Nat.le_refl _) _
  have HP := hid (putsta_any (hv.below hb1) hn hr ho)
  rw [hW1] at HP
  have HSET : Hid (∀ W, Below w.heap.size w W → Calls Tryz.prog 80 #[.pointer (some ⟨s.sb, 0, none⟩), .int .i64 3, .int .i64 lp, .string (S k), .string (S (staB st))] W fun e w' => ∃ O', e = .returned (.int .i64 0) ∧ StI w' s O' (N + 1) (setM M (hdP 3 lp ++ k) (staB st)) ∧ Kp O W w' ∧ Gr O W.heap.size O') := hid fun W hW =>
    sset_any (hS.below hW) (by unfold okP; omega) (by omega) (by rw [staB_length]; have := hr.1; omega) hroom
  have HX := hid (⟨hX, hxO, hb1⟩ : _ ∧ _ ∧ _)
  have HW1 := hid hW1
  unfold staV at HP ⊢
  clear hX hS hxO hlp hk hv hn hr ho hroom hb1 hW1
  go_enter Tryz.func22, Tryz.ntmps22
  go_wp2_with fail
  (with_reducible refine (HM.out _).mono ?_)
  rintro r w1 ⟨rfl, rfl⟩
  go_wp2_with fail
  (with_reducible refine HP.out.mono ?_)
  rintro r W2 ⟨rfl, hb2⟩
  rw [← HW1.out] at hb2
  have hb02 : Below w.heap.size w W2 := HX.out.2.2.trans (hb2.mono HX.out.2.2.size)
  have hX2 : SnX W2 xb s lp := Blk.below HX.out.1 hb02 (Blk.lt HX.out.1)
  have c0 : W2.cell? ⟨xb, 0, none⟩ = some (.pointer (some ⟨s.sb, 0, none⟩)) := Blk.cell hX2 0
  have c1 : W2.cell? ⟨xb, 1, none⟩ = some (.int .i64 lp) := Blk.cell hX2 1
  have HS2 := hid (HSET.out W2.drew (below_drewN hb02 1))
  have HX2 := hid (⟨hX2, hb02⟩ : _ ∧ _)
  have HCK : Hid (∀ W', Kp O W2.drew W' → W'.cell? ⟨xb, 0, none⟩ = some (.pointer (some ⟨s.sb, 0, none⟩)) ∧ W'.cell? ⟨xb, 1, none⟩ = some (.int .i64 lp)) := hid fun W' hk => by
    have := (Blk.drew hX2).kp hk HX.out.2.1
    exact ⟨this.cell 0, this.cell 1⟩
  clear hb2 hb02 hX2
  go_wp2
  go_region_held3 (fun W => W.cell? ⟨xb, 0, none⟩ = some (.pointer (some ⟨s.sb, 0, none⟩)) ∧ W.cell? ⟨xb, 1, none⟩ = some (.int .i64 lp)) (first | exact hck5 | exact ⟨c0, c1⟩)
    (first
      | (go_at_call 80; refine HS2.out.mono ?_; rintro r W5 ⟨O5, rfl, hS5, hk5, hg5⟩; have hck5 := HCK.out W5 hk5))
  all_goals
    have HF := hid (⟨hS5, (Kp.of_below HX2.out.2).trans ((Kp.refl O W2).drew.trans hk5), hg5.mono HX2.out.2.size⟩ : _ ∧ _ ∧ _)
    clear hS5 hk5 hg5 hck5
    go_wp2
    go_ret
    exact ⟨O5, rfl, HF.out⟩
end
end Go.Proofs.YtnnghcooidjlhaaGreat
end
section
set_option linter.unusedSimpArgs false
set_option linter.unusedVariables false
set_option maxRecDepth 100000
namespace Go.Proofs.YtnnghcooidjlhaaGreat
open Go.RowKit Go.Lib
section
variable {w : World} {xb : Nat} {s : SL} {lp : Int} {O : List Nat} {N : Nat} {M : List KV}
theorem sfrom_nil (k : ByteArray) (w : World) : Calls Tryz.prog 28 #[.pointer none, .string k] w fun e w' => e = .returned (.tuple #[.int .i64 0, .int .i64 1]) ∧ w = w' := by
  have HM := hid (fun W => snmay_nil k W)
  go_enter Tryz.func28, Tryz.ntmps28
  go_wp2_with (go_at_call 78; refine (HM.out _).mono ?_; rintro r w1 ⟨rfl, rfl⟩)
  go_ret2
  exact ⟨rfl, rfl⟩
theorem sfrom_long (q : Addr) (k : Bs) (h : 29 < k.length) (w : World) : Calls Tryz.prog 28 #[.pointer (some q), .string (S k)] w fun e w' => e = .returned (.tuple #[.int .i64 0, .int .i64 2]) ∧ w = w' := by
  have HM := hid (fun W => snmay_long q k h W)
  clear h
  go_enter Tryz.func28, Tryz.ntmps28
  go_wp2_with (go_at_call 78; refine (HM.out _).mono ?_; rintro r w1 ⟨rfl, rfl⟩)
  go_ret2
  exact ⟨rfl, rfl⟩
set_option maxHeartbeats 4000000 in
theorem sfrom_any (hX : SnX w xb s lp) (hS : StI w s O N M) (hxO : xb ∉ O) (hlp : 0 ≤ lp ∧ lp < 6) {k : Bs} (hk : k.length ≤ 29) :
    Calls Tryz.prog 28 #[.pointer (some ⟨xb, 0, none⟩), .string (S k)] w fun e w' => e = .returned (.tuple #[.int .i64 ((partM M (hdP 3 lp)).filter fun a => inR k [] a.1).length, .int .i64 0]) ∧ StI w' s O N (M.filter fun a => !inR (hdP 3 lp ++ k) (toK (hdP 3 lp) []) a.1) ∧ Kp O w w' := by
  have HM := hid (fun W => snmay_ok ⟨xb, 0, none⟩ k hk W)
  have HS := hid (sclear_any (sp := 3) (lp := lp) (fr := k) (to := []) (hS.below (below_drewN (Below.refl w.heap.size w) 1)) (by unfold okP; omega) (by omega) (by simp))
  rw [show S [] = { data := #[] } from rfl] at HS
  have c0 : w.cell? ⟨xb, 0, none⟩ = some (.pointer (some ⟨s.sb, 0, none⟩)) := Blk.cell hX 0
  have c1 : w.cell? ⟨xb, 1, none⟩ = some (.int .i64 lp) := Blk.cell hX 1
  have HCK : Hid (∀ W', Kp O w.drew W' → W'.cell? ⟨xb, 0, none⟩ = some (.pointer (some ⟨s.sb, 0, none⟩)) ∧ W'.cell? ⟨xb, 1, none⟩ = some (.int .i64 lp)) := hid fun W' hk => by
    have := (Blk.drew hX).kp hk hxO
    exact ⟨this.cell 0, this.cell 1⟩
  obtain ⟨nl, hnl⟩ : ∃ nl, nl = ((partM M (hdP 3 lp)).filter fun a => inR k [] a.1).length := ⟨_, rfl⟩
  rw [← hnl] at HS ⊢
  clear hX hS hxO hlp hk hnl
  go_enter Tryz.func28, Tryz.ntmps28
  go_wp2_with (go_at_call 78; refine (HM.out _).mono ?_; rintro r w1 ⟨rfl, rfl⟩)
  go_region_held3 (fun W => W.cell? ⟨xb, 0, none⟩ = some (.pointer (some ⟨s.sb, 0, none⟩)) ∧ W.cell? ⟨xb, 1, none⟩ = some (.int .i64 lp)) (first | exact hck5 | exact ⟨c0, c1⟩)
    (first
      | (go_at_call 93; refine HS.out.mono ?_; rintro r W5 ⟨rfl, hS5, hk5⟩; have hck5 := HCK.out W5 hk5))
  all_goals
    have HF := hid (⟨hS5, (Kp.refl O w).drew.trans hk5⟩ : _ ∧ _)
    clear hS5 hk5 hck5
    go_wp2
    go_ret2
    exact ⟨rfl, HF.out⟩
theorem sbelow_nil (k : ByteArray) (w : World) : Calls Tryz.prog 30 #[.pointer none, .string k] w fun e w' => e = .returned (.tuple #[.int .i64 0, .int .i64 1]) ∧ w = w' := by
  have HM := hid (fun W => snmay_nil k W)
  go_enter Tryz.func30, Tryz.ntmps30
  go_wp2_with (go_at_call 78; refine (HM.out _).mono ?_; rintro r w1 ⟨rfl, rfl⟩)
  go_ret2
  exact ⟨rfl, rfl⟩
theorem sbelow_long (q : Addr) (k : Bs) (h : 29 < k.length) (w : World) : Calls Tryz.prog 30 #[.pointer (some q), .string (S k)] w fun e w' => e = .returned (.tuple #[.int .i64 0, .int .i64 2]) ∧ w = w' := by
  have HM := hid (fun W => snmay_long q k h W)
  clear h
  go_enter Tryz.func30, Tryz.ntmps30
  go_wp2_with (go_at_call 78; refine (HM.out _).mono ?_; rintro r w1 ⟨rfl, rfl⟩)
  go_ret2
  exact ⟨rfl, rfl⟩
theorem sbelow_empty (q : Addr) (w : World) : Calls Tryz.prog 30 #[.pointer (some q), .string (S [])] w fun e w' => e = .returned (.tuple #[.int .i64 0, .int .i64 0]) ∧ w = w' := by
  have HM := hid (fun W => snmay_ok q [] (by simp) W)
  rw [show S [] = { data := #[] } from rfl] at HM ⊢
  go_enter Tryz.func30, Tryz.ntmps30
  go_wp2_with (go_at_call 78; refine (HM.out _).mono ?_; rintro r w1 ⟨rfl, rfl⟩)
  go_ret2
  exact ⟨rfl, rfl⟩
set_option maxHeartbeats 4000000 in
theorem sbelow_any (hX : SnX w xb s lp) (hS : StI w s O N M) (hxO : xb ∉ O) (hlp : 0 ≤ lp ∧ lp < 6) {k : Bs} (hk : k.length ≤ 29) (hk0 : k ≠ []) :
    Calls Tryz.prog 30 #[.pointer (some ⟨xb, 0, none⟩), .string (S k)] w fun e w' => e = .returned (.tuple #[.int .i64 ((partM M (hdP 3 lp)).filter fun a => inR [] k a.1).length, .int .i64 0]) ∧ StI w' s O N (M.filter fun a => !inR (hdP 3 lp ++ []) (toK (hdP 3 lp) k) a.1) ∧ Kp O w w' := by
  have HM := hid (fun W => snmay_ok ⟨xb, 0, none⟩ k hk W)
  have HS := hid (sclear_any (sp := 3) (lp := lp) (fr := []) (to := k) (hS.below (below_drewN (Below.refl w.heap.size w) 1)) (by unfold okP; omega) (by simp) (by omega))
  rw [show S [] = { data := #[] } from rfl] at HS
  have c0 : w.cell? ⟨xb, 0, none⟩ = some (.pointer (some ⟨s.sb, 0, none⟩)) := Blk.cell hX 0
  have c1 : w.cell? ⟨xb, 1, none⟩ = some (.int .i64 lp) := Blk.cell hX 1
  have HCK : Hid (∀ W', Kp O w.drew W' → W'.cell? ⟨xb, 0, none⟩ = some (.pointer (some ⟨s.sb, 0, none⟩)) ∧ W'.cell? ⟨xb, 1, none⟩ = some (.int .i64 lp)) := hid fun W' hk => by
    have := (Blk.drew hX).kp hk hxO
    exact ⟨this.cell 0, this.cell 1⟩
  obtain ⟨nl, hnl⟩ : ∃ nl, nl = ((partM M (hdP 3 lp)).filter fun a => inR [] k a.1).length := ⟨_, rfl⟩
  rw [← hnl] at HS ⊢
  have hkE : k.isEmpty = false := by
    cases k with
    | nil => exact absurd rfl hk0
    | cons a t => rfl
  clear hX hS hxO hlp hk hnl hk0
  go_enter Tryz.func30, Tryz.ntmps30
  go_wp2_with (go_at_call 78; refine (HM.out _).mono ?_; rintro r w1 ⟨rfl, rfl⟩)
  go_region_held3 (fun W => W.cell? ⟨xb, 0, none⟩ = some (.pointer (some ⟨s.sb, 0, none⟩)) ∧ W.cell? ⟨xb, 1, none⟩ = some (.int .i64 lp)) (first | exact hck5 | exact ⟨c0, c1⟩)
    (first
      | (go_at_call 93; refine HS.out.mono ?_; rintro r W5 ⟨rfl, hS5, hk5⟩; have hck5 := HCK.out W5 hk5))
  all_goals
    have HF := hid (⟨hS5, (Kp.refl O w).drew.trans hk5⟩ : _ ∧ _)
    clear hS5 hk5 hck5
    go_wp2
    go_ret2
    exact ⟨rfl, HF.out⟩
end
end Go.Proofs.YtnnghcooidjlhaaGreat
end
section
set_option linter.unusedSimpArgs false
set_option linter.unusedVariables false
set_option maxRecDepth 100000
namespace Go.Proofs.YtnnghcooidjlhaaGreat
open Go.RowKit Go.Lib
def kC (k : Bs) : List Value := [.string (S k)]
theorem kC_len (k : Bs) : (kC k).length = 1 := rfl
theorem kC_one (k : Bs) : ∀ u ∈ kC k, u.oneCell' = true := by
  intro u hu
  simp [kC] at hu
  rw [hu]; rfl
theorem skeys_nil (w : World) : Calls Tryz.prog 24 #[.pointer none] w fun e w' => e = .returned (.tuple #[.slice none 0 0, .int .i64 1]) ∧ w = w' := by
  go_enter Tryz.func24, Tryz.ntmps24
  go_wp2
  go_ret2
  exact ⟨rfl, rfl⟩
section
variable {w : World} {xb : Nat} {s : SL} {lp : Int} {O : List Nat} {N : Nat} {M : List KV} {l : List Sn}
set_option maxHeartbeats 8000000 in
theorem skeys_any (hX : SnX w xb s lp) (hS : StI w s O N M) (hxO : xb ∉ O) (hlp : 0 ≤ lp ∧ lp < 6) (hm : SnM M lp l) (hl : l.length ≤ 1000) :
    Calls Tryz.prog 24 #[.pointer (some ⟨xb, 0, none⟩)] w fun e w' => ∃ v, e = .returned (.tuple #[v, .int .i64 0]) ∧ StI w' s O N M ∧ Kp O w w' ∧ w'.ownsRow w.heap.size 9 1 v l.length (rowV kC (l.map Sn.k)) := by
  have HS := hid (sscan_any (sp := 3) (lp := lp) (fr := []) (to := []) (hS.below (below_drewN (Below.refl w.heap.size w) 1)) (by unfold okP; omega) (by simp) (by simp) 1099511627776)
  rw [hm.scan hl, show S [] = { data := #[] } from rfl, show (snP l).length = l.length by simp [snP]] at HS
  have c0 : w.cell? ⟨xb, 0, none⟩ = some (.pointer (some ⟨s.sb, 0, none⟩)) := Blk.cell hX 0
  have c1 : w.cell? ⟨xb, 1, none⟩ = some (.int .i64 lp) := Blk.cell hX 1
  have HCK : Hid (∀ W', Kp O w.drew W' → W'.cell? ⟨xb, 0, none⟩ = some (.pointer (some ⟨s.sb, 0, none⟩)) ∧ W'.cell? ⟨xb, 1, none⟩ = some (.int .i64 lp)) := hid fun W' hk => by
    have := (Blk.drew hX).kp hk hxO
    exact ⟨this.cell 0, this.cell 1⟩
  have hlts := hid hS.lts
  obtain ⟨nl, hnl⟩ : ∃ nl, nl = l.length := ⟨_, rfl⟩
  have HNL := hid hnl
  rw [← hnl] at HS hl ⊢
  have hli : (nl : Int) ≤ 1000 := by omega
  have HL := hid hl
  clear hX hS hxO hlp hm hl hnl
  go_enter Tryz.func24, Tryz.ntmps24
  go_wp2
  go_region_held3 (fun W => W.cell? ⟨xb, 0, none⟩ = some (.pointer (some ⟨s.sb, 0, none⟩)) ∧ W.cell? ⟨xb, 1, none⟩ = some (.int .i64 lp)) (first | exact hck5 | exact ⟨c0, c1⟩)
    (first
      | (go_at_call 84; refine HS.out.mono ?_; rintro r W1 ⟨v1, rfl, hS1, hk1, hO1⟩; have hck5 := HCK.out W1 hk1; obtain ⟨pa, pc, rfl⟩ := own_slice2 hO1))
  all_goals
    have hk01 : Kp O w W1 := (Kp.refl O w).drew.trans hk1
    have HI0 : Hid (StI W1 s O N M ∧ Kp O w W1 ∧ W1.ownsRow w.heap.size 168 2 (.slice pa nl pc) nl (rowV pairC (snP l)) ∧ W1.ownsRow W1.heap.size 9 1 (.slice none 0 0) 0 (rowV kC ((l.map Sn.k).take 0)) ∧ W1.heap.size ≤ W1.heap.size) := hid ⟨hS1, hk01, hO1, ⟨rfl, .inl ⟨rfl, rfl⟩⟩, Nat.le_refl _⟩
    have HB := hid (⟨fun b hb => hO1.lt b hb, hk01.size⟩ : (∀ b, (Value.slice pa nl pc).ownBlock = some b → w.heap.size ≤ b ∧ b < W1.heap.size) ∧ w.heap.size ≤ W1.heap.size)
    clear hS1 hk1 hO1 hck5 hk01
    go_wp2
    go_loopg [6, 28] nl (fun gg s6 s28 wr => ∃ (j : Nat) (v : Value), j ≤ nl ∧ nl - j ≤ gg ∧ s28 = .int .i64 j ∧ s6 = v ∧ Hid (StI wr s O N M ∧ Kp O w wr ∧ wr.ownsRow w.heap.size 168 2 (.slice pa nl pc) nl (rowV pairC (snP l)) ∧ wr.ownsRow W1.heap.size 9 1 v j (rowV kC ((l.map Sn.k).take j)) ∧ W1.heap.size ≤ wr.heap.size))
    case atStart => exact ⟨0, _, by omega, by omega, rfl, rfl, HI0⟩
    case round =>
      obtain ⟨j, v, hj, hgg, rfl, rfl, HI⟩ := hrel
      by_cases hje : j < nl
      · obtain ⟨x, hx⟩ : ∃ x, l[j]? = some x := ⟨_, List.getElem?_eq_getElem (by rw [← HNL.out]; exact hje)⟩
        obtain ⟨hS, hk, hOp, hOo, hsz⟩ := HI.out
        obtain ⟨g, c, e1, hg1, hg2, hg3⟩ := own_form hOp (by omega)
        injection e1 with e1 elen e3
        clear elen
        subst e1 e3
        have hxp : (snP l)[j]? = some (x.k, staB x.st) := by simp [snP, hx]
        have m0 : wr.cell? ⟨g, j * 2, none⟩ = some (.string (S x.k)) := own_at hOp rfl (j := j * 2) (by
          have := rowV_get pairC_len _ j _ hxp 0 (by omega)
          rw [Nat.add_zero] at this
          rw [this]; rfl)
        have m1 : wr.cell? ⟨g, j * 2 + 1, none⟩ = some (.string (S (staB x.st))) := own_at hOp rfl (j := j * 2 + 1) (by
          rw [rowV_get pairC_len _ j _ hxp 1 (by omega)]; rfl)
        have hji : (j : Int) < (nl : Int) := by omega
        obtain ⟨wo, hwo⟩ : ∃ wo, wo = wr := ⟨_, rfl⟩
        subst hwo
        obtain ⟨av, cv, rfl⟩ := own_slice2 hOo
        have htk : (l.map Sn.k).take (j + 1) = (l.map Sn.k).take j ++ [x.k] := by rw [List.take_add_one, List.getElem?_map, hx]; rfl
        have HTK := hid htk
        obtain ⟨W4, hW4⟩ : ∃ W4, W4 = wo.alloc (.cells #[.string (S x.k), .string (S (staB x.st))] 168) := ⟨_, rfl⟩
        have hb04 : Below wo.heap.size wo W4 := by rw [hW4]; exact (Below.refl _ wo).alloc (Nat.le_refl _) _
        have hs4 : W4.heap.size = wo.heap.size + 1 := by rw [hW4]; simp
        have HW4 := hid (⟨hW4, hb04, hs4⟩ : _ ∧ _ ∧ _)
        clear hx hS hk hOp hOo hsz hxp htk hW4 hb04 hs4
        go_wp2_with (with_reducible refine stopAt .append rfl ?_)
        with_reducible refine goOn ?_
        rw [← HW4.out.1, ← HW4.out.2.2]
        obtain ⟨hS, hk, hOp, hOo, hsz⟩ := HI.out
        have hb04 := HW4.out.2.1
        have hO4 := row_of hOo (fun b hb => hb04.block b (hOo.lt b hb).2)
        have hOp4 := row_of hOp (fun b hb => hb04.block b (hOp.lt b hb).2)
        have hS4 := hS.below hb04
        refine app_one rfl _ _ 36 rfl kC infStr Tryz.underlying36 rfl (by decide) (by decide) kC_len kC_one x.k hO4 (by have := HL.out; omega) (Nat.le_trans hsz hb04.size) rfl rfl ?_
        intro v' W6 hO6 hk6 _
        rw [← HTK.out] at hO6
        have hno6 : ∀ b, b < W1.heap.size → b ∉ (Value.slice av j cv).ownBlock.toList := fun b hb hm => by
          have := (hO4.lt b (Option.mem_toList.1 hm)).1
          omega
        have hlt0 : ∀ b ∈ s.sb :: s.tb :: O, b < W1.heap.size := fun b hb => Nat.lt_of_lt_of_le (hlts.out b hb) HB.out.2
        have hS6 : StI W6 s O N M := hS4.of_blocks (fun b hb => hk6.block b (hS4.lts b hb) (hno6 b (hlt0 b hb)))
        have hOp6 := row_of hOp4 (fun b hb => hk6.block b (hOp4.lt b hb).2 (hno6 b (HB.out.1 b hb).2))
        have hk06 : Kp O w W6 := (hk.trans (Kp.of_below hb04)).trans_gr (O' := (Value.slice av j cv).ownBlock.toList ++ O) (fun b hb => by
          rcases List.mem_append.1 hb with hb | hb
          · have := (hO4.lt b (Option.mem_toList.1 hb)).1
            have := HB.out.2
            exact .inr (by omega)
          · exact .inl hb) (hk6.mono (fun b hb => .inl (by simp [hb])))
        have HI6 := hid (⟨hS6, hk06, hOp6, hO6, Nat.le_trans (Nat.le_trans hsz hb04.size) hk6.size⟩ : _ ∧ _ ∧ _ ∧ _ ∧ _)
        clear hS hk hOp hOo hsz hO4 hOp4 hS4 hO6 hk6 hno6 hlt0 hS6 hOp6 hk06 hb04
        go_wp2
        go_roundg (nl - (j + 1))
        case measure => omega
        case rel => exact ⟨j + 1, v', by omega, by omega, by go_num, rfl, HI6⟩
      · have hjl : j = nl := by omega
        have HJ := hid hjl
        have hji : ¬ ((j : Int) < (nl : Int)) := by omega
        clear hjl
        go_wp2
        go_ret2
        obtain ⟨hS, hk, hOp, hOo, hsz⟩ := HI.out
        rw [HJ.out, HNL.out, ← List.length_map (f := Sn.k), List.take_length, List.length_map, ← HNL.out] at hOo
        exact ⟨_, rfl, hS, hk, own_base hOo HB.out.2⟩
end
end Go.Proofs.YtnnghcooidjlhaaGreat
end
section
set_option linter.unusedSimpArgs false
set_option linter.unusedVariables false
set_option maxRecDepth 100000
namespace Go.Proofs.YtnnghcooidjlhaaGreat
open Go.RowKit Go.Lib
def sta0 : Value := .agg #[.slice none 0 0, .int .i64 0, .int .i64 0]
set_option maxHeartbeats 4000000 in
theorem ahead1_any {w : World} {g : Nat} {st : Sta} {kb : ByteArray} (hP : Blk w g 168 #[.string kb, .string (S (staB st))]) (hr : st.right) (ho : st.ok) :
    Calls Tryz.prog 82 #[.pointer (some ⟨g, 0, none⟩)] w fun r w' => ∃ p n c, r = .returned (.tuple #[staV p n c st, .int .i64 0]) ∧ n = st.words.length ∧ Vw 1 wC w' (.slice p n c) st.words ∧ (∀ b, (Value.slice p n c).ownBlock = some b → w.heap.size ≤ b) ∧ Below w.heap.size w w' := by
  obtain ⟨W1, hW1⟩ : ∃ W1, W1 = w.alloc (.cells #[.slice none 0 0, .int .i64 0, .int .i64 0] 29) := ⟨_, rfl⟩
  have hb1 : Below w.heap.size w W1 := by rw [hW1]; exact (Below.refl _ w).alloc (Nat.le_refl _) _
  have hB1 : Blk W1 w.heap.size 29 #[.slice none 0 0, .int .i64 0, .int .i64 0] := by rw [hW1]; exact Blk.new w _ _
  have hs1 : W1.heap.size = w.heap.size + 1 := by rw [hW1]; simp
  have c1 : w.cell? ⟨g, 1, none⟩ = some (.string (S (staB st))) := hP.cell 1
  have hlt := hP.lt
  have HG := hid (getsta_any st hr ho W1)
  rw [hW1] at HG
  have HX := hid (⟨hb1, hB1, hs1⟩ : _ ∧ _ ∧ _)
  have HW1 := hid hW1
  unfold staV at HG ⊢
  clear hP hr ho hb1 hB1 hs1 hW1
  go_enter Tryz.func82, Tryz.ntmps82
  go_wp2_with fail
  (with_reducible refine HG.out.mono ?_)
  rintro r W2 ⟨p, n, c, rfl, hn, hV, hvo, hb2⟩
  rw [← HW1.out] at hb2 hvo
  have hB2 := HX.out.2.1.below hb2 HX.out.2.1.lt
  have b0 : W2.cell? ⟨w.heap.size, 0, none⟩ = some (.slice none 0 0) := hB2.cell 0
  have b1 : W2.cell? ⟨w.heap.size, 1, none⟩ = some (.int .i64 0) := hB2.cell 1
  have b2 : W2.cell? ⟨w.heap.size, 2, none⟩ = some (.int .i64 0) := hB2.cell 2
  have bf0 := hB2.frozen 0
  have bf1 := hB2.frozen 1
  have bf2 := hB2.frozen 2
  have bl := hB2.lt
  have H2 := hid (⟨hn, hV, hvo, HX.out.1.trans (hb2.mono HX.out.1.size), hB2⟩ : _ ∧ _ ∧ _ ∧ _ ∧ _)
  clear hn hV hvo hb2 hB2
  go_wp2
  have hr8 := (((H2.out.2.2.2.2.set_ 0 (.slice p n c)).set_ 1 (.int .i64 st.sent)).set_ 2 (.int .i64 st.dice))
  have v0 := hr8.cell 0
  have v1 := hr8.cell 1
  have v2 := hr8.cell 2
  simp only [List.setIfInBounds_toArray, List.set_cons_zero, List.set_cons_succ, List.getElem?_toArray, List.getElem?_cons_zero, List.getElem?_cons_succ] at v0 v1 v2
  refine bodyPost_ret (v := .tuple #[.agg #[.slice p n c, .int .i64 st.sent, .int .i64 st.dice], .int .i64 0]) (by simp [results, Tryz.results82, go_sem, v0, v1, v2]) rfl ?_
  have hvo' : ∀ b, (Value.slice p n c).ownBlock = some b → w.heap.size + 1 ≤ b := fun b hb => by have := H2.out.2.2.1 b hb; have := HX.out.2.2; omega
  refine ⟨p, n, c, rfl, H2.out.1, H2.out.2.1.of_block (fun b hlt hb => ?_) (by simp [World.setCell]), fun b hb => by have := hvo' b hb; omega, ((H2.out.2.2.2.1.setCell (Nat.le_refl _) _).setCell (Nat.le_refl _) _).setCell (Nat.le_refl _) _⟩
  have := hvo' b hb
  exact ((Below.heap_setCell _ ⟨w.heap.size, 2, none⟩ _ _ (by show b ≠ w.heap.size; omega)).trans (Below.heap_setCell _ ⟨w.heap.size, 1, none⟩ _ _ (by show b ≠ w.heap.size; omega))).trans (Below.heap_setCell _ ⟨w.heap.size, 0, none⟩ _ _ (by show b ≠ w.heap.size; omega))
set_option maxHeartbeats 4000000 in
theorem sahead_no (q : Option Addr) (k : Bs) (er : Int) (h : (q = none ∧ er = 1) ∨ (q ≠ none ∧ 29 < k.length ∧ er = 2) ∨ (q ≠ none ∧ k = [] ∧ er = 9)) (w : World) :
    Calls Tryz.prog 23 #[.pointer q, .string (S k)] w fun r w' => r = .returned (.tuple #[.string ⟨#[]⟩, sta0, .int .i64 er]) ∧ Below w.heap.size w w' := by
  unfold sta0
  obtain ⟨W1, hW1⟩ : ∃ W1, W1 = w.alloc (.cells #[.slice none 0 0, .int .i64 0, .int .i64 0] 29) := ⟨_, rfl⟩
  have hb1 : Below w.heap.size w W1 := by rw [hW1]; exact (Below.refl _ w).alloc (Nat.le_refl _) _
  have hB1 : Blk W1 w.heap.size 29 #[.slice none 0 0, .int .i64 0, .int .i64 0] := by rw [hW1]; exact Blk.new w _ _
  have HX := hid (⟨hb1, hB1⟩ : _ ∧ _)
  have HW1 := hid hW1
  clear hb1 hB1 hW1
  rcases h with ⟨rfl, rfl⟩ | ⟨hq, h2, rfl⟩ | ⟨hq, rfl, rfl⟩
  · have HM := hid (fun W => snmay_nil (S k) W)
    go_enter Tryz.func23, Tryz.ntmps23
    go_wp2_with (go_at_call 78; refine (HM.out _).mono ?_; rintro r w1 ⟨rfl, rfl⟩)
    have hr8 := HX.out.2
    rw [HW1.out] at hr8
    have v0 := hr8.cell 0
    have v1 := hr8.cell 1
    have v2 := hr8.cell 2
    simp only [List.setIfInBounds_toArray, List.set_cons_zero, List.set_cons_succ, List.getElem?_toArray, List.getElem?_cons_zero, List.getElem?_cons_succ] at v0 v1 v2
    refine bodyPost_ret (v := .tuple #[.string ⟨#[]⟩, .agg #[.slice none 0 0, .int .i64 0, .int .i64 0], .int .i64 1]) (by simp [results, Tryz.results23, go_sem, v0, v1, v2]) rfl ⟨rfl, by rw [← HW1.out]; exact HX.out.1⟩
  · obtain ⟨qa, rfl⟩ := Option.ne_none_iff_exists'.1 hq
    have HM := hid (fun W => snmay_long qa k h2 W)
    clear hq h2
    go_enter Tryz.func23, Tryz.ntmps23
    go_wp2_with (go_at_call 78; refine (HM.out _).mono ?_; rintro r w1 ⟨rfl, rfl⟩)
    have hr8 := HX.out.2
    rw [HW1.out] at hr8
    have v0 := hr8.cell 0
    have v1 := hr8.cell 1
    have v2 := hr8.cell 2
    simp only [List.setIfInBounds_toArray, List.set_cons_zero, List.set_cons_succ, List.getElem?_toArray, List.getElem?_cons_zero, List.getElem?_cons_succ] at v0 v1 v2
    refine bodyPost_ret (v := .tuple #[.string ⟨#[]⟩, .agg #[.slice none 0 0, .int .i64 0, .int .i64 0], .int .i64 2]) (by simp [results, Tryz.results23, go_sem, v0, v1, v2]) rfl ⟨rfl, by rw [← HW1.out]; exact HX.out.1⟩
  · obtain ⟨qa, rfl⟩ := Option.ne_none_iff_exists'.1 hq
    have HM := hid (fun W => snmay_ok qa [] (by simp) W)
    rw [show S [] = { data := #[] } from rfl] at HM ⊢
    clear hq
    go_enter Tryz.func23, Tryz.ntmps23
    go_wp2_with (go_at_call 78; refine (HM.out _).mono ?_; rintro r w1 ⟨rfl, rfl⟩)
    have hr8 := HX.out.2
    rw [HW1.out] at hr8
    have v0 := hr8.cell 0
    have v1 := hr8.cell 1
    have v2 := hr8.cell 2
    simp only [List.setIfInBounds_toArray, List.set_cons_zero, List.set_cons_succ, List.getElem?_toArray, List.getElem?_cons_zero, List.getElem?_cons_succ] at v0 v1 v2
    refine bodyPost_ret (v := .tuple #[.string ⟨#[]⟩, .agg #[.slice none 0 0, .int .i64 0, .int .i64 0], .int .i64 9]) (by simp [results, Tryz.results23, go_sem, v0, v1, v2]) rfl ⟨rfl, by rw [← HW1.out]; exact HX.out.1⟩
end Go.Proofs.YtnnghcooidjlhaaGreat
end
section
set_option linter.unusedSimpArgs false
set_option linter.unusedVariables false
set_option maxRecDepth 100000
namespace Go.Proofs.YtnnghcooidjlhaaGreat
open Go.RowKit Go.Lib
section
variable {w : World} {xb : Nat} {s : SL} {lp : Int} {O : List Nat} {N : Nat} {M : List KV} {l : List Sn}
set_option maxHeartbeats 8000000 in
theorem sahead_none (hX : SnX w xb s lp) (hS : StI w s O N M) (hxO : xb ∉ O) (hlp : 0 ≤ lp ∧ lp < 6) (hm : SnM M lp l) {k : Bs} (hk : k.length ≤ 29) (hk0 : k ≠ []) (hl : belowS l k = []) :
    Calls Tryz.prog 23 #[.pointer (some ⟨xb, 0, none⟩), .string (S k)] w fun r w' => r = .returned (.tuple #[.string ⟨#[]⟩, sta0, .int .i64 9]) ∧ StI w' s O N M ∧ Kp O w w' := by
  unfold sta0
  have HM := hid (fun W => snmay_ok ⟨xb, 0, none⟩ k hk W)
  obtain ⟨W1, hW1⟩ : ∃ W1, W1 = w.alloc (.cells #[.slice none 0 0, .int .i64 0, .int .i64 0] 29) := ⟨_, rfl⟩
  have hb1 : Below w.heap.size w W1 := by rw [hW1]; exact (Below.refl _ w).alloc (Nat.le_refl _) _
  have hB1 : Blk W1 w.heap.size 29 #[.slice none 0 0, .int .i64 0, .int .i64 0] := by rw [hW1]; exact Blk.new w _ _
  have hs1 : W1.heap.size = w.heap.size + 1 := by rw [hW1]; simp
  have hS1 := hS.below hb1
  have hX1 : SnX W1 xb s lp := Blk.below hX hb1 (Blk.lt hX)
  have HS : Hid (∀ W, Below W1.heap.size W1 W → Calls Tryz.prog 81 #[.pointer (some ⟨s.sb, 0, none⟩), .int .i64 3, .int .i64 lp, .string ⟨#[]⟩, .string (S k)] W fun e w' => e = .returned (.tuple #[.agg #[.string ⟨#[]⟩, .string ⟨#[]⟩], .int .i64 9]) ∧ StI w' s O N M ∧ Kp O W w') := hid fun W hW => by
    have := slast_any (sp := 3) (lp := lp) (fr := []) (to := k) (hS1.below hW) (by unfold okP; omega) (by simp) (by omega)
    rwa [hm.last hk0, hl, show S [] = { data := #[] } from rfl] at this
  have hkE : k.isEmpty = false := by
    cases k with
    | nil => exact absurd rfl hk0
    | cons a t => rfl
  have HCK : Hid (∀ W, Kp O W1 W → W.cell? ⟨xb, 0, none⟩ = some (.pointer (some ⟨s.sb, 0, none⟩)) ∧ W.cell? ⟨xb, 1, none⟩ = some (.int .i64 lp)) := hid fun W hk => by
    have := Blk.kp hX1 hk hxO
    exact ⟨this.cell 0, this.cell 1⟩
  have hno : w.heap.size ∉ O := fun hm => by have := hS.lts w.heap.size (by simp [hm]); omega
  have hno1 : W1.heap.size ∉ O := fun hm => by have := hS1.lts W1.heap.size (by simp [hm]); omega
  have HX := hid (⟨hb1, hB1, hs1, hno, hno1, hS1.lts⟩ : _ ∧ _ ∧ _ ∧ _ ∧ _ ∧ _)
  have HNS : Hid (w.heap.size ≠ s.sb ∧ w.heap.size ≠ s.tb) := hid ⟨fun e => by have := hS.lts s.sb (by simp); omega, fun e => by have := hS.lts s.tb (by simp); omega⟩
  have HW1 := hid hW1
  clear hX hS hxO hlp hm hk hk0 hl hb1 hB1 hs1 hS1 hX1 hW1 hno hno1
  go_enter Tryz.func23, Tryz.ntmps23
  go_wp2_with (go_at_call 78; refine (HM.out _).mono ?_; rintro r w1 ⟨rfl, rfl⟩)
  rw [← HW1.out]
  go_region_held3 (fun W => W.cell? ⟨xb, 0, none⟩ = some (.pointer (some ⟨s.sb, 0, none⟩)) ∧ W.cell? ⟨xb, 1, none⟩ = some (.int .i64 lp))
    (first
      | exact HCK.out _ (((hkk.setCell (.inr zl) _).setCell (.inr zl) _))
      | exact HCK.out _ hkk
      | exact HCK.out _ (hkk.alloc _)
      | exact HCK.out _ (((hkk.alloc _).setCell (.inr (by show W1.heap.size ≤ _; exact hkk.size)) _).setCell (.inr (by show W1.heap.size ≤ _; exact hkk.size)) _)
      | exact HCK.out _ ((Kp.refl O W1).drew.alloc _)
      | exact HCK.out _ ((Kp.refl O W1).drew))
    (first
      | (go_at_call 81; refine (HS.out (W1.drew.alloc _) ((below_drewN (Below.refl _ W1) 1).alloc (Nat.le_refl _) _)).mono ?_; rintro r W5 ⟨rfl, hS5, hk5⟩; have hkk := ((Kp.refl O W1).drew.alloc _).trans hk5; have hz : Blk W5 W1.heap.size 168 #[.string ⟨#[]⟩, .string ⟨#[]⟩] := (Blk.new W1.drew 168 #[.string ⟨#[]⟩, .string ⟨#[]⟩]).kp hk5 HX.out.2.2.2.2.1; have z0 : W5.cell? ⟨W1.heap.size, 0, none⟩ = some (.string ⟨#[]⟩) := hz.cell 0; have z1 : W5.cell? ⟨W1.heap.size, 1, none⟩ = some (.string ⟨#[]⟩) := hz.cell 1; have zf0 := hz.frozen 0; have zf1 := hz.frozen 1; have zlt := hz.lt; have zl : W1.heap.size ≤ W1.heap.size := Nat.le_refl _)
      | (go_at_call 81; refine (HS.out W1.drew (below_drewN (Below.refl _ W1) 1)).mono ?_; rintro r W5 ⟨rfl, hS5, hk5⟩; have hkk := (Kp.refl O W1).drew.trans hk5))
  all_goals
    first
      | (obtain ⟨WF, hWF⟩ : ∃ WF, WF = (W5.setCell ⟨W1.heap.size, 0, none⟩ (.string ⟨#[]⟩)).setCell ⟨W1.heap.size, 1, none⟩ (.string ⟨#[]⟩) := ⟨_, rfl⟩
         rw [← hWF]
         have hkF : Kp O W1 WF := by rw [hWF]; exact ((hkk.setCell (.inr zl) _).setCell (.inr zl) _)
         have hSF : StI WF s O N M := by
           rw [hWF]
           refine hS5.of_blocks (fun b hb => ?_)
           have := HX.out.2.2.2.2.2 b hb
           exact (Below.heap_setCell _ ⟨W1.heap.size, 1, none⟩ _ _ (by show b ≠ W1.heap.size; omega)).trans (Below.heap_setCell _ ⟨W1.heap.size, 0, none⟩ _ _ (by show b ≠ W1.heap.size; omega))
         obtain ⟨g, hg⟩ : ∃ g, g = W1.heap.size := ⟨_, rfl⟩
         have hPF : Blk WF g 168 #[.string ⟨#[]⟩, .string ⟨#[]⟩] := by rw [hWF, hg]; simpa using (hz.set_ 0 (.string ⟨#[]⟩)).set_ 1 (.string ⟨#[]⟩)
         have hgl : W1.heap.size ≤ g := by omega
         rw [← hg]
         clear hz z0 z1 zf0 zf1 zlt zl)
      | (obtain ⟨WF, hWF⟩ : ∃ WF, WF = W5.alloc (.cells #[.string ⟨#[]⟩, .string ⟨#[]⟩] 168) := ⟨_, rfl⟩
         rw [← hWF]
         have hkF : Kp O W1 WF := by rw [hWF]; exact hkk.alloc _
         have hSF : StI WF s O N M := by rw [hWF]; exact hS5.below ((Below.refl _ W5).alloc (Nat.le_refl _) _)
         obtain ⟨g, hg⟩ : ∃ g, g = W5.heap.size := ⟨_, rfl⟩
         have hPF : Blk WF g 168 #[.string ⟨#[]⟩, .string ⟨#[]⟩] := by rw [hWF, hg]; exact Blk.new W5 _ _
         have hgl : W1.heap.size ≤ g := by rw [hg]; exact hkk.size
         rw [← hg])
    have hBF := HX.out.2.1.kp hkF HX.out.2.2.2.1
    have b0 : WF.cell? ⟨w.heap.size, 0, none⟩ = some (.slice none 0 0) := hBF.cell 0
    have b1 : WF.cell? ⟨w.heap.size, 1, none⟩ = some (.int .i64 0) := hBF.cell 1
    have b2 : WF.cell? ⟨w.heap.size, 2, none⟩ = some (.int .i64 0) := hBF.cell 2
    have bf0 := hBF.frozen 0
    have bf1 := hBF.frozen 1
    have bf2 := hBF.frozen 2
    have bl := hBF.lt
    have HF := hid (⟨hSF, (Kp.of_below HX.out.1).trans hkF, hBF⟩ : _ ∧ _ ∧ _)
    clear hSF hkF hBF hPF hkk hS5 hk5 hWF hg hgl
    go_wp2
    have hr8 := (((HF.out.2.2.set_ 0 (.slice none 0 0)).set_ 1 (.int .i64 0)).set_ 2 (.int .i64 0))
    have v0 := hr8.cell 0
    have v1 := hr8.cell 1
    have v2 := hr8.cell 2
    simp only [List.setIfInBounds_toArray, List.set_cons_zero, List.set_cons_succ, List.getElem?_toArray, List.getElem?_cons_zero, List.getElem?_cons_succ] at v0 v1 v2
    refine bodyPost_ret (v := .tuple #[.string ⟨#[]⟩, .agg #[.slice none 0 0, .int .i64 0, .int .i64 0], .int .i64 9]) (by simp [results, Tryz.results23, go_sem, v0, v1, v2]) rfl ?_
    exact ⟨rfl, HF.out.1.of_blocks (fun b hb => by
      have h1 := HX.out.2.2.2.2.2 b hb
      have h2 : b ≠ w.heap.size := fun e => by
        subst e
        rcases List.mem_cons.1 hb with e | hb
        · exact HNS.out.1 e
        · rcases List.mem_cons.1 hb with e | hb
          · exact HNS.out.2 e
          · exact HX.out.2.2.2.1 hb
      exact ((Below.heap_setCell _ ⟨w.heap.size, 2, none⟩ _ _ (by show b ≠ w.heap.size; omega)).trans (Below.heap_setCell _ ⟨w.heap.size, 1, none⟩ _ _ (by show b ≠ w.heap.size; omega))).trans (Below.heap_setCell _ ⟨w.heap.size, 0, none⟩ _ _ (by show b ≠ w.heap.size; omega))), ((HF.out.2.1.setCell (.inr (Nat.le_refl _)) _).setCell (.inr (Nat.le_refl _)) _).setCell (.inr (Nat.le_refl _)) _⟩
end
end Go.Proofs.YtnnghcooidjlhaaGreat
end
section
set_option linter.unusedSimpArgs false
set_option linter.unusedVariables false
set_option maxRecDepth 100000
namespace Go.Proofs.YtnnghcooidjlhaaGreat
open Go.RowKit Go.Lib
section
variable {w : World} {xb : Nat} {s : SL} {lp : Int} {O : List Nat} {N : Nat} {M : List KV} {l : List Sn}
set_option maxHeartbeats 8000000 in
theorem sahead_some (hX : SnX w xb s lp) (hS : StI w s O N M) (hxO : xb ∉ O) (hlp : 0 ≤ lp ∧ lp < 6) (hm : SnM M lp l) {k : Bs} (hk : k.length ≤ 29) (hk0 : k ≠ []) {x : Sn} (hl : (belowS l k).getLast? = some x) :
    Calls Tryz.prog 23 #[.pointer (some ⟨xb, 0, none⟩), .string (S k)] w fun r w' => ∃ p n c, r = .returned (.tuple #[.string (S x.k), staV p n c x.st, .int .i64 0]) ∧ n = x.st.words.length ∧ Vw 1 wC w' (.slice p n c) x.st.words ∧ (∀ b, (Value.slice p n c).ownBlock = some b → w.heap.size ≤ b) ∧ StI w' s O N M ∧ Kp O w w' := by
  have hxl : x ∈ l := by
    have := List.mem_of_getLast? hl
    exact (List.mem_filter.1 this).1
  have hxo := hm.ok x hxl
  have HM := hid (fun W => snmay_ok ⟨xb, 0, none⟩ k hk W)
  obtain ⟨W1, hW1⟩ : ∃ W1, W1 = w.alloc (.cells #[.slice none 0 0, .int .i64 0, .int .i64 0] 29) := ⟨_, rfl⟩
  have hb1 : Below w.heap.size w W1 := by rw [hW1]; exact (Below.refl _ w).alloc (Nat.le_refl _) _
  have hB1 : Blk W1 w.heap.size 29 #[.slice none 0 0, .int .i64 0, .int .i64 0] := by rw [hW1]; exact Blk.new w _ _
  have hs1 : W1.heap.size = w.heap.size + 1 := by rw [hW1]; simp
  have hS1 := hS.below hb1
  have hX1 : SnX W1 xb s lp := Blk.below hX hb1 (Blk.lt hX)
  have HS : Hid (∀ W, Below W1.heap.size W1 W → Calls Tryz.prog 81 #[.pointer (some ⟨s.sb, 0, none⟩), .int .i64 3, .int .i64 lp, .string ⟨#[]⟩, .string (S k)] W fun e w' => e = .returned (.tuple #[.agg #[.string (S x.k), .string (S (staB x.st))], .int .i64 0]) ∧ StI w' s O N M ∧ Kp O W w') := hid fun W hW => by
    have := slast_any (sp := 3) (lp := lp) (fr := []) (to := k) (hS1.below hW) (by unfold okP; omega) (by simp) (by omega)
    rwa [hm.last hk0, hl, show S [] = { data := #[] } from rfl] at this
  have hkE : k.isEmpty = false := by
    cases k with
    | nil => exact absurd rfl hk0
    | cons a t => rfl
  have HCK : Hid (∀ W, Kp O W1 W → W.cell? ⟨xb, 0, none⟩ = some (.pointer (some ⟨s.sb, 0, none⟩)) ∧ W.cell? ⟨xb, 1, none⟩ = some (.int .i64 lp)) := hid fun W hk => by
    have := Blk.kp hX1 hk hxO
    exact ⟨this.cell 0, this.cell 1⟩
  have hno : w.heap.size ∉ O := fun hm => by have := hS.lts w.heap.size (by simp [hm]); omega
  have hno1 : W1.heap.size ∉ O := fun hm => by have := hS1.lts W1.heap.size (by simp [hm]); omega
  have HA1 := hid (fun (W : World) (g : Nat) (kb : ByteArray) (hP : Blk W g 168 #[.string kb, .string (S (staB x.st))]) => ahead1_any hP hxo.2.1 hxo.2.2)
  unfold staV at HA1 ⊢
  have HX := hid (⟨hb1, hB1, hs1, hno, hno1, hS1.lts⟩ : _ ∧ _ ∧ _ ∧ _ ∧ _ ∧ _)
  have HNS : Hid (w.heap.size ≠ s.sb ∧ w.heap.size ≠ s.tb) := hid ⟨fun e => by have := hS.lts s.sb (by simp); omega, fun e => by have := hS.lts s.tb (by simp); omega⟩
  have HW1 := hid hW1
  clear hX hS hxO hlp hm hk hk0 hl hxl hxo hb1 hB1 hs1 hS1 hX1 hW1 hno hno1
  go_enter Tryz.func23, Tryz.ntmps23
  go_wp2_with (go_at_call 78; refine (HM.out _).mono ?_; rintro r w1 ⟨rfl, rfl⟩)
  rw [← HW1.out]
  go_region_held3 (fun W => W.cell? ⟨xb, 0, none⟩ = some (.pointer (some ⟨s.sb, 0, none⟩)) ∧ W.cell? ⟨xb, 1, none⟩ = some (.int .i64 lp))
    (first
      | exact HCK.out _ (((hkk.setCell (.inr zl) _).setCell (.inr zl) _))
      | exact HCK.out _ hkk
      | exact HCK.out _ (hkk.alloc _)
      | exact HCK.out _ (((hkk.alloc _).setCell (.inr (by show W1.heap.size ≤ _; exact hkk.size)) _).setCell (.inr (by show W1.heap.size ≤ _; exact hkk.size)) _)
      | exact HCK.out _ ((Kp.refl O W1).drew.alloc _)
      | exact HCK.out _ ((Kp.refl O W1).drew))
    (first
      | (go_at_call 81; refine (HS.out (W1.drew.alloc _) ((below_drewN (Below.refl _ W1) 1).alloc (Nat.le_refl _) _)).mono ?_; rintro r W5 ⟨rfl, hS5, hk5⟩; have hkk := ((Kp.refl O W1).drew.alloc _).trans hk5; have hz : Blk W5 W1.heap.size 168 #[.string ⟨#[]⟩, .string ⟨#[]⟩] := (Blk.new W1.drew 168 #[.string ⟨#[]⟩, .string ⟨#[]⟩]).kp hk5 HX.out.2.2.2.2.1; have z0 : W5.cell? ⟨W1.heap.size, 0, none⟩ = some (.string ⟨#[]⟩) := hz.cell 0; have z1 : W5.cell? ⟨W1.heap.size, 1, none⟩ = some (.string ⟨#[]⟩) := hz.cell 1; have zf0 := hz.frozen 0; have zf1 := hz.frozen 1; have zlt := hz.lt; have zl : W1.heap.size ≤ W1.heap.size := Nat.le_refl _)
      | (go_at_call 81; refine (HS.out W1.drew (below_drewN (Below.refl _ W1) 1)).mono ?_; rintro r W5 ⟨rfl, hS5, hk5⟩; have hkk := (Kp.refl O W1).drew.trans hk5))
  all_goals
    first
      | (obtain ⟨WF, hWF⟩ : ∃ WF, WF = (W5.setCell ⟨W1.heap.size, 0, none⟩ (.string (S x.k))).setCell ⟨W1.heap.size, 1, none⟩ (.string (S (staB x.st))) := ⟨_, rfl⟩
         rw [← hWF]
         have hkF : Kp O W1 WF := by rw [hWF]; exact ((hkk.setCell (.inr zl) _).setCell (.inr zl) _)
         have hSF : StI WF s O N M := by
           rw [hWF]
           refine hS5.of_blocks (fun b hb => ?_)
           have := HX.out.2.2.2.2.2 b hb
           exact (Below.heap_setCell _ ⟨W1.heap.size, 1, none⟩ _ _ (by show b ≠ W1.heap.size; omega)).trans (Below.heap_setCell _ ⟨W1.heap.size, 0, none⟩ _ _ (by show b ≠ W1.heap.size; omega))
         obtain ⟨g, hg⟩ : ∃ g, g = W1.heap.size := ⟨_, rfl⟩
         have hPF : Blk WF g 168 #[.string (S x.k), .string (S (staB x.st))] := by rw [hWF, hg]; simpa using (hz.set_ 0 (.string (S x.k))).set_ 1 (.string (S (staB x.st)))
         have hgl : W1.heap.size ≤ g := by omega
         rw [← hg]
         clear hz z0 z1 zf0 zf1 zlt zl)
      | (obtain ⟨WF, hWF⟩ : ∃ WF, WF = W5.alloc (.cells #[.string (S x.k), .string (S (staB x.st))] 168) := ⟨_, rfl⟩
         rw [← hWF]
         have hkF : Kp O W1 WF := by rw [hWF]; exact hkk.alloc _
         have hSF : StI WF s O N M := by rw [hWF]; exact hS5.below ((Below.refl _ W5).alloc (Nat.le_refl _) _)
         obtain ⟨g, hg⟩ : ∃ g, g = W5.heap.size := ⟨_, rfl⟩
         have hPF : Blk WF g 168 #[.string (S x.k), .string (S (staB x.st))] := by rw [hWF, hg]; exact Blk.new W5 _ _
         have hgl : W1.heap.size ≤ g := by rw [hg]; exact hkk.size
         rw [← hg])
    have hBF := HX.out.2.1.kp hkF HX.out.2.2.2.1
    have HF := hid (⟨hSF, hkF, hBF, hPF, hgl⟩ : _ ∧ _ ∧ _ ∧ _ ∧ _)
    have HA := hid (HA1.out WF g _ hPF)
    clear hSF hkF hBF hPF hkk hS5 hk5 hWF hg hgl
    go_wp2_with fail
    (with_reducible refine HA.out.mono ?_)
    rintro r W6 ⟨p6, n6, c6, rfl, hn6, hV6, hvo6, hb6⟩
    obtain ⟨hSF, hkF, hBF, hPF, hgl⟩ := HF.out
    obtain ⟨W7, hW7⟩ : ∃ W7, W7 = W6.alloc (.cells #[.slice p6 n6 c6, .int .i64 x.st.sent, .int .i64 x.st.dice] 29) := ⟨_, rfl⟩
    have hb67 : Below W6.heap.size W6 W7 := by rw [hW7]; exact (Below.refl _ W6).alloc (Nat.le_refl _) _
    have hbF7 : Below WF.heap.size WF W7 := hb6.trans (hb67.mono hb6.size)
    have hB7 := hBF.below hbF7 hBF.lt
    have hP7 := hPF.below hbF7 hPF.lt
    have hT7 : Blk W7 W6.heap.size 29 #[.slice p6 n6 c6, .int .i64 x.st.sent, .int .i64 x.st.dice] := by rw [hW7]; exact Blk.new W6 _ _
    have hgA : g ≠ w.heap.size := by have := HX.out.2.2.1; omega
    have htA : W6.heap.size ≠ w.heap.size := by have := hBF.lt; have := hb6.size; omega
    have b0 : W7.cell? ⟨w.heap.size, 0, none⟩ = some (.slice none 0 0) := hB7.cell 0
    have b1 : W7.cell? ⟨w.heap.size, 1, none⟩ = some (.int .i64 0) := hB7.cell 1
    have b2 : W7.cell? ⟨w.heap.size, 2, none⟩ = some (.int .i64 0) := hB7.cell 2
    have bf0 := hB7.frozen 0
    have bf1 := hB7.frozen 1
    have bf2 := hB7.frozen 2
    have bl := hB7.lt
    have HCL : Hid (∀ W : World, (∀ b, b ≠ w.heap.size → W.heap[b]? = W7.heap[b]?) → W.cell? ⟨g, 0, none⟩ = some (.string (S x.k)) ∧ W.cell? ⟨W6.heap.size, 0, none⟩ = some (.slice p6 n6 c6) ∧ W.cell? ⟨W6.heap.size, 1, none⟩ = some (.int .i64 x.st.sent) ∧ W.cell? ⟨W6.heap.size, 2, none⟩ = some (.int .i64 x.st.dice)) := hid fun W hW =>
      ⟨(World.cell?_of_block (a := ⟨g, 0, none⟩) (hW g hgA)).trans (hP7.cell 0), (World.cell?_of_block (a := ⟨W6.heap.size, 0, none⟩) (hW _ htA)).trans (hT7.cell 0), (World.cell?_of_block (a := ⟨W6.heap.size, 1, none⟩) (hW _ htA)).trans (hT7.cell 1), (World.cell?_of_block (a := ⟨W6.heap.size, 2, none⟩) (hW _ htA)).trans (hT7.cell 2)⟩
    have H3S : Hid (∀ (u0 u1 u2 : Value) b, b ≠ w.heap.size → (((W7.drew.setCell ⟨w.heap.size, 0, none⟩ u0).setCell ⟨w.heap.size, 1, none⟩ u1).setCell ⟨w.heap.size, 2, none⟩ u2).heap[b]? = W7.heap[b]?) := hid fun u0 u1 u2 b hb =>
      ((Below.heap_setCell _ ⟨w.heap.size, 2, none⟩ _ _ (by show b ≠ w.heap.size; exact hb)).trans (Below.heap_setCell _ ⟨w.heap.size, 1, none⟩ _ _ (by show b ≠ w.heap.size; exact hb))).trans (Below.heap_setCell _ ⟨w.heap.size, 0, none⟩ _ _ (by show b ≠ w.heap.size; exact hb))
    have hvA : ∀ b, (Value.slice p6 n6 c6).ownBlock = some b → b ≠ w.heap.size := fun b hb => by have := hvo6 b hb; have := hBF.lt; omega
    have H7 := hid (⟨hSF.below hbF7, (Kp.of_below HX.out.1).trans (hkF.trans (Kp.of_below hbF7)), hV6.below hb67, hvA, hn6, fun b hb => Nat.le_trans (Nat.le_trans HX.out.1.size hkF.size) (hvo6 b hb), hB7⟩ : _ ∧ _ ∧ _ ∧ _ ∧ _ ∧ _ ∧ _)
    have HW7 := hid hW7
    clear hSF hkF hBF hPF hgl hb67 hbF7 hB7 hP7 hT7 hgA htA hvA hV6 hvo6 hb6 hn6 hW7
    go_wp2
    rw [← HW7.out]
    go_region_held3 (fun W => W.cell? ⟨g, 0, none⟩ = some (.string (S x.k)) ∧ W.cell? ⟨W6.heap.size, 0, none⟩ = some (.slice p6 n6 c6) ∧ W.cell? ⟨W6.heap.size, 1, none⟩ = some (.int .i64 x.st.sent) ∧ W.cell? ⟨W6.heap.size, 2, none⟩ = some (.int .i64 x.st.dice))
      (first | exact HCL.out _ (H3S.out _ _ _) | exact HCL.out _ (fun _ _ => rfl)) (fail)
    all_goals
      go_wp2
      have hr6 := H7.out.2.2.2.2.2.2.set_ 0 (.slice p6 n6 c6)
      have hr7 := hr6.set_ 1 (.int .i64 x.st.sent)
      have hr8 := hr7.set_ 2 (.int .i64 x.st.dice)
      have v0 := hr6.cell 0
      have v1 := hr7.cell 1
      have v2 := hr8.cell 2
      simp only [List.setIfInBounds_toArray, List.set_cons_zero, List.set_cons_succ, List.getElem?_toArray, List.getElem?_cons_zero, List.getElem?_cons_succ] at v0 v1 v2
      refine bodyPost_ret (v := .tuple #[.string (S x.k), .agg #[.slice p6 n6 c6, .int .i64 x.st.sent, .int .i64 x.st.dice], .int .i64 0]) (by simp [results, Tryz.results23, go_sem, v0, v1, v2]) rfl ?_
      refine ⟨p6, n6, c6, rfl, H7.out.2.2.2.2.1, H7.out.2.2.1.of_block (fun b hlt hb => H3S.out _ _ _ b (H7.out.2.2.2.1 b hb)) (by simp [World.setCell]), H7.out.2.2.2.2.2.1, H7.out.1.of_blocks (fun b hb => H3S.out _ _ _ b (fun e => ?_)), ((H7.out.2.1.drew.setCell (.inr (Nat.le_refl _)) _).setCell (.inr (Nat.le_refl _)) _).setCell (.inr (Nat.le_refl _)) _⟩
      subst e
      rcases List.mem_cons.1 hb with e | hb
      · exact HNS.out.1 e
      · rcases List.mem_cons.1 hb with e | hb
        · exact HNS.out.2 e
        · exact HX.out.2.2.2.1 hb
end
end Go.Proofs.YtnnghcooidjlhaaGreat
end
