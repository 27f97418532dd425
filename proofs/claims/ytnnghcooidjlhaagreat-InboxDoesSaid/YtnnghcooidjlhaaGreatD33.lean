/- Parts of the proof: Xf Xg Zc Zd Zf. -/
import Derived.Laws.EntriesVeiled
import Derived.Deep.RegionHeld3
import Derived.Test.YtnnghcooidjlhaaGreatD03
import Derived.Test.YtnnghcooidjlhaaGreatD24
import Derived.Test.YtnnghcooidjlhaaGreatD27
import Derived.Test.YtnnghcooidjlhaaGreatD29
import Derived.Test.YtnnghcooidjlhaaGreatD31
import Derived.Test.YtnnghcooidjlhaaGreatD32
set_option linter.all false
set_option maxRecDepth 100000
namespace Go.Proofs.YtnnghcooidjlhaaGreat
section
open Go.RowKit Go.Lib
structure DoX (more : Ix → Bool) (df : Nat) (caps : Array Value) (R : List Ix → World → List Nat → Prop) : Prop where
 keep : ∀ xs W W' Z, R xs W Z → (∀ b ∈ Z, W'.heap[b]? = W.heap[b]?) → R xs W' Z
 lts : ∀ xs W Z, R xs W Z → ∀ b ∈ Z, b < W.heap.size
 en : ∀ vs W, Sem.run Tryz.prog (callFunc df vs) W = .ok (.enter df vs) W
 go : ∀ xs x W Z, R xs W Z → xs.length ≤ 1000 → Calls Tryz.prog df (#[.string (S x.key), .int .i64 x.n] ++ caps) W fun e w' => ∃ Z', e = .returned (.bool (more x)) ∧ R (xs ++ [x]) w' Z' ∧ Kp Z W w' ∧ Gr Z W.heap.size Z'
theorem ieach_nil (a b : ByteArray) (v : Value) (w : World) : Calls Tryz.prog 110 #[.pointer none, .string a, .string b, v] w fun e w' => e = .returned (.int .i64 1) ∧ w = w' := by
 go_enter Tryz.func110, Tryz.ntmps110
 go_wp2
 go_ret
 exact ⟨rfl, rfl⟩
theorem ieach_no (q : Addr) (a b : Bs) (v : Value) (h : ¬ (a.length ≤ 29 ∧ b.length ≤ 29)) (w : World) : Calls Tryz.prog 110 #[.pointer (some q), .string (S a), .string (S b), v] w fun e w' => e = .returned (.int .i64 2) ∧ w = w' := by
 have hc : ((29 : Int) < (a.length : Int)) ∨ (¬ (29 : Int) < (a.length : Int) ∧ (29 : Int) < (b.length : Int)) := by omega
 clear h
 rcases hc with h0 | ⟨h0, h1⟩
 all_goals
  go_enter Tryz.func110, Tryz.ntmps110
  go_wp2
  go_ret
  exact ⟨rfl, rfl⟩
section
variable {w w' : World} {ib : Nat} {s : SL} {lp : Int} {O : List Nat} {N c : Nat} {l : List Ix} {more : Ix → Bool} {df : Nat} {caps : Array Value} {R : List Ix → World → List Nat → Prop}
set_option maxHeartbeats 16000000 in
theorem ieach_any (hDo : DoX more df caps R) (h : IbI w ib s lp O N c l) (hl : l.length ≤ 1000) (hcc : c ≤ 2000) (a b : Bs) (ha : a.length ≤ 29) (hb : b.length ≤ 29) {Z : List Nat} (hR : R [] w Z) (hZ : ∀ z ∈ Z, z ∉ ib :: s.sb :: s.tb :: O) :
  Calls Tryz.prog 110 #[.pointer (some ⟨ib, 0, none⟩), .string (S a), .string (S b), .func (.func df) #[] caps] w fun e w' => ∃ Z', e = .returned (.int .i64 0) ∧ R (goX more (rngI l a b)) w' Z' ∧ IbI w' ib s lp O N c l ∧ Kp (Z ++ O) w w' ∧ Gr Z w.heap.size Z' := by
 obtain ⟨M, hS, hx, hlo⟩ := h.m
 have hfl : (fromI a).length ≤ 30 := by
  unfold fromI
  split
  ·simp
  ·simp; omega
 have hSC := sscan_any (sp := 0) (lp := lp) (fr := fromI a) (to := b) (hS.below (below_drewN (Below.refl w.heap.size w) 1)) h.okp hfl (by omega) 1099511627776
 obtain ⟨L, hL⟩ : ∃ L, L = rngI l a b := ⟨_, rfl⟩
 obtain ⟨nl, hnl⟩ : ∃ nl, nl = L.length := ⟨_, rfl⟩
 have hll : nl ≤ 1000 := by
  rw [hnl, hL]
  exact Nat.le_trans (List.length_filter_le _ _) hl
 rw [hx.scan (fromI a) b hl, rngI_eq, ← hL, show (ixP L).length = L.length by simp [ixP], ← hnl] at hSC
 have HS := hid hSC
 have hLn : ∀ x ∈ L, -9223372036854775808 ≤ x.n ∧ x.n < 9223372036854775808 := fun x hm => by
  have := hx.le x (by rw [hL] at hm; exact (List.mem_filter.1 hm).1)
  omega
 have HLN := hid hLn
 have c0 : w.cell? ⟨ib, 0, none⟩ = some (.pointer (some ⟨s.sb, 0, none⟩)) := Blk.cell h.x 0
 have c1 : w.cell? ⟨ib, 1, none⟩ = some (.int .i64 lp) := Blk.cell h.x 1
 have HCK : Hid (∀ W', Kp O w.drew W' → W'.cell? ⟨ib, 0, none⟩ = some (.pointer (some ⟨s.sb, 0, none⟩)) ∧ W'.cell? ⟨ib, 1, none⟩ = some (.int .i64 lp)) := hid fun W' hk => by
  have := (Blk.drew h.x).kp hk h.nxO
  exact ⟨this.cell 0, this.cell 1⟩
 have hg1 : ¬ (29 : Int) < (a.length : Int) := by omega
 have hg2 : ¬ (29 : Int) < (b.length : Int) := by omega
 have HX := hid (⟨h, hR, hZ, hDo, hL, hnl, h.lts⟩ : _ ∧ _ ∧ _ ∧ _ ∧ _ ∧ _ ∧ _)
 have HL := hid hll
 have HTURN : Hid (∀ W', StI W' s O N M → Kp O w W' → IbI W' ib s lp O N c l) := hid fun W' hs hk => h.turn hk (Gr.refl _ _) hs hx hlo
 have hli : (nl : Int) ≤ 1000 := by omega
 have hcs : (a = [] ∧ fromI a = []) ∨ (a.isEmpty = false ∧ fromI a = a ++ [0]) := by
  cases a with
  | nil => exact .inl ⟨rfl, rfl⟩
  | cons y t => exact .inr ⟨rfl, rfl⟩
 have hcat : ¬ 9223372036854775807 < a.length + 1 := by omega
 clear hS hx hlo hfl hSC hll hLn h hR hZ hDo hL hnl hl ha hb hcc
 rcases hcs with ⟨ha0, hfe⟩ | ⟨ha0, hfe⟩
 case' inl => subst ha0
 all_goals
  rw [hfe] at HS
  clear hfe
  try rw [show S [] = { data := #[] } from rfl] at HS ⊢
  go_enter Tryz.func110, Tryz.ntmps110
  go_wp2
  go_region_held3 (fun W => W.cell? ⟨ib, 0, none⟩ = some (.pointer (some ⟨s.sb, 0, none⟩)) ∧ W.cell? ⟨ib, 1, none⟩ = some (.int .i64 lp)) (first | exact hck5 | exact ⟨c0, c1⟩)
   (first
    | (go_at_call 84; refine HS.out.mono ?_; rintro r W1 ⟨v1, rfl, hS1, hk1, hO1⟩; have hck5 := HCK.out W1 hk1; obtain ⟨pa, pc, rfl⟩ := own_slice2 hO1))
 all_goals
  have hk01 : Kp O w W1 := (Kp.refl O w).drew.trans hk1
  have hI1 := HTURN.out W1 hS1 hk01
  have hzO : ∀ z ∈ Z, z ∉ O := fun z hz hm => HX.out.2.2.1 z hz (by simp [hm])
  have hR1 : R [] W1 Z := HX.out.2.2.2.1.keep _ _ _ _ HX.out.2.1 (fun b hb => hk01.block b (HX.out.2.2.2.1.lts _ _ _ HX.out.2.1 b hb) (hzO b hb))
  have HI0 : Hid (IbI W1 ib s lp O N c l ∧ R (L.take 0) W1 Z ∧ W1.ownsRow w.heap.size 168 2 (.slice pa nl pc) nl (rowV pairC (ixP L)) ∧ Kp (Z ++ O) w W1 ∧ Gr Z W1.heap.size Z) := hid ⟨hI1, by simpa using hR1, hO1, hk01.mono (fun y hy => .inl (by simp [hy])), Gr.refl _ _⟩
  have HB := hid (⟨fun b hb => hO1.lt b hb, hk01.size⟩ : (∀ b, (Value.slice pa nl pc).ownBlock = some b → w.heap.size ≤ b ∧ b < W1.heap.size) ∧ w.heap.size ≤ W1.heap.size)
  clear hS1 hk1 hO1 hck5 hk01 hI1 hzO hR1 c0 c1
  go_wp2
  go_loopg [52] nl (fun gg s22 wr => ∃ (j : Nat) (Zr : List Nat), j ≤ nl ∧ nl - j ≤ gg ∧ s22 = .int .i64 j ∧ Hid (IbI wr ib s lp O N c l ∧ R (L.take j) wr Zr ∧ wr.ownsRow w.heap.size 168 2 (.slice pa nl pc) nl (rowV pairC (ixP L)) ∧ Kp (Z ++ O) w wr ∧ Gr Z W1.heap.size Zr) ∧ Hid (∀ x ∈ L.take j, more x = true) ∧ Hid (W1.heap.size ≤ wr.heap.size))
  case atStart => exact ⟨0, Z, by omega, by omega, rfl, HI0, hid (by simp), hid (Nat.le_refl _)⟩
  case round =>
   obtain ⟨j, Zr, hj, hgg, rfl, HI, HMO, HSZ⟩ := hrel
   by_cases hje : j < nl
   ·obtain ⟨x, hx⟩ : ∃ x, L[j]? = some x := ⟨_, List.getElem?_eq_getElem (by rw [← HX.out.2.2.2.2.2.1]; exact hje)⟩
    obtain ⟨hIb, hR, hOp, hk, hgr⟩ := HI.out
    obtain ⟨g, cc, e1, hg1, hg2, hg3⟩ := own_form hOp (by omega)
    injection e1 with e1 elen e3
    clear elen
    subst e1 e3
    have hxp : (ixP L)[j]? = some (x.key, encI x.n) := by simp [ixP, hx]
    have m0 : wr.cell? ⟨g, j * 2, none⟩ = some (.string (S x.key)) := own_at hOp rfl (j := j * 2) (by
     have := rowV_get pairC_len _ j _ hxp 0 (by omega)
     rw [Nat.add_zero] at this
     rw [this]; rfl)
    have m1 : wr.cell? ⟨g, j * 2 + 1, none⟩ = some (.string (S (encI x.n))) := own_at hOp rfl (j := j * 2 + 1) (by
     rw [rowV_get pairC_len _ j _ hxp 1 (by omega)]; rfl)
    have hji : (j : Int) < (nl : Int) := by omega
    have htk : L.take (j + 1) = L.take j ++ [x] := by rw [List.take_add_one, hx]; rfl
    have HCT := hid (fun W => icount_any x.n (HLN.out x (List.mem_of_getElem? hx)) W)
    have hDo := HX.out.2.2.2.1
    obtain ⟨W4, hW4⟩ : ∃ W4, W4 = wr.alloc (.cells #[.string (S x.key), .string (S (encI x.n))] 168) := ⟨_, rfl⟩
    have hb4 : Below wr.heap.size wr W4 := by rw [hW4]; exact (Below.refl _ wr).alloc (Nat.le_refl _) _
    have hI4 := hIb.below hb4
    have hR4 : R (L.take j) W4 Zr := hDo.keep _ _ _ _ hR (fun b hb => hb4.block b (hDo.lts _ _ _ hR b hb))
    have hO4 := row_of hOp (fun b hb => hb4.block b (hOp.lt b hb).2)
    have hk4 := hk.trans (Kp.of_below hb4)
    have HGO := hid (hDo.go (L.take j) x W4 Zr hR4 (Nat.le_trans (List.length_take_le _ _) (by have := HL.out; omega)))
    rw [hW4] at HGO
    have hen := hDo.en
    have H4 := hid (⟨hI4, hR4, hO4, hk4, hgr, htk, hb4, hx⟩ : _ ∧ _ ∧ _ ∧ _ ∧ _ ∧ _ ∧ _ ∧ _)
    have HW4 := hid hW4
    obtain ⟨wo, hwo⟩ : ∃ wo, wo = wr := ⟨_, rfl⟩
    subst hwo
    clear hIb hR hOp hk hgr hxp htk hDo hb4 hI4 hR4 hO4 hk4 hx hW4
    go_wp2_with (go_at_call 108; (with_reducible refine (HCT.out _).mono ?_); rintro r w3 ⟨rfl, rfl⟩)
    (with_reducible refine HGO.out.mono ?_)
    rintro e W6 ⟨Z6, rfl, hR6, hk6, hg6⟩
    rw [← HW4.out] at hk6 hg6
    obtain ⟨hI4, hR4, hO4, hk4, hgr, htk, hb4, hx⟩ := H4.out
    have hnz : ∀ b, b < W1.heap.size → b ∉ Z → b ∉ Zr := fun b hb1 hb2 hz => by
     rcases hgr b hz with h | h
     ·exact hb2 h
     ·omega
    have hlts := HX.out.2.2.2.2.2.2
    have hZ := HX.out.2.2.1
    have hZl := HX.out.2.2.2.1.lts _ _ _ HX.out.2.1
    have hsz := HB.out.2
    have hI6 : IbI W6 ib s lp O N c l := hI4.of_blocks (fun b hb => hk6.block b (hI4.lts b hb) (hnz b (by have := hlts b hb; omega) (fun hz => hZ b hz hb)))
    have hO6 := row_of hO4 (fun b hb => hk6.block b (hO4.lt b hb).2 (hnz b (HB.out.1 b hb).2 (fun hz => by have := hZl b hz; have := (HB.out.1 b hb).1; omega)))
    have hk06 : Kp (Z ++ O) w W6 := hk4.trans_gr (O' := Zr ++ O) (fun b hb => by
     rcases List.mem_append.1 hb with hb | hb
     ·rcases hgr b hb with h | h
      ·exact .inl (by simp [h])
      ·exact .inr (by omega)
     ·exact .inl (by simp [hb])) (hk6.mono (fun y hy => .inl (by simp [hy])))
    have hg06 : Gr Z W1.heap.size Z6 := hgr.trans hg6 (by
     have h2 := hb4.size
     have h4 := HSZ.out
     omega)
    rw [← htk] at hR6
    have H6 := hid (⟨hI6, hR6, hO6, hk06, hg06⟩ : _ ∧ _ ∧ _ ∧ _ ∧ _)
    have HSZ6 : Hid (W1.heap.size ≤ W6.heap.size) := hid (by have h2 := hb4.size; have h4 := HSZ.out; have h5 := hk6.size; omega)
    clear hR6 hk6 hg6 hI4 hR4 hO4 hk4 hgr htk hb4 hnz hlts hZ hZl hsz hI6 hO6 hk06 hg06 hx
    cases hm : more x
    ·have HM := hid hm
     clear hm
     go_wp2
     go_ret
     obtain ⟨hI6, hR6, hO6, hk06, hg06⟩ := H6.out
     have hx := H4.out.2.2.2.2.2.2.2
     rw [← goX_end (more := more) hx HMO.out (by rw [HM.out]; simp), HX.out.2.2.2.2.1] at hR6
     exact ⟨Z6, rfl, hR6, hI6, hk06, hg06.mono HB.out.2⟩
    ·have HM := hid hm
     clear hm
     go_wp2
     go_roundg (nl - (j + 1))
     case measure => omega
     case rel => exact ⟨j + 1, Z6, by omega, by omega, by go_num, H6, hid (fun y hy => by
      rw [H4.out.2.2.2.2.2.1] at hy
      rcases List.mem_append.1 hy with hy | hy
      ·exact HMO.out y hy
      ·rw [List.mem_singleton.1 hy]; exact HM.out), HSZ6⟩
   ·have hjl : j = nl := by omega
    have HJ := hid hjl
    have hji : ¬ ((j : Int) < (nl : Int)) := by omega
    clear hjl
    go_wp2
    go_ret
    obtain ⟨hI6, hR6, hO6, hk06, hg06⟩ := HI.out
    have hmo := HMO.out
    rw [HJ.out, HX.out.2.2.2.2.2.1, List.take_length] at hR6 hmo
    rw [← goX_all (more := more) hmo, HX.out.2.2.2.2.1] at hR6
    first | exact ⟨Zr, rfl, hR6, hI6, hk06, hg06.mono HB.out.2⟩ | exact ⟨rfl, Zr, hR6, hI6, hk06, hg06.mono HB.out.2⟩
end
end
section
open Go.RowKit Go.Lib
def KyR (kb : Nat) (xs : List Ix) (W : World) (Z : List Nat) : Prop := Blk W kb 9 #[.string (S (lastI xs))] ∧ Z = [kb]
theorem next1_any (kb : Nat) (xs : List Ix) (x : Ix) (W : World) (Z : List Nat) (h : KyR kb xs W Z) :
  Calls Tryz.prog 112 (#[.string (S x.key), .int .i64 x.n] ++ #[.pointer (some ⟨kb, 0, none⟩)]) W fun e w' => ∃ Z', e = .returned (.bool (decide (x.n ≤ 0))) ∧ KyR kb (xs ++ [x]) w' Z' ∧ Kp Z W w' ∧ Gr Z W.heap.size Z' := by
 obtain ⟨hK, rfl⟩ := h
 have k0 : W.cell? ⟨kb, 0, none⟩ = some (.string (S (lastI xs))) := hK.cell 0
 have kf := hK.frozen 0
 have kl := hK.lt
 have HK := hid hK
 by_cases hn : 0 < x.n
 ·have hls : lastI (xs ++ [x]) = x.key := by rw [lastI_snoc, if_pos hn]
  have HLS := hid hls
  have hd : decide (x.n ≤ 0) = false := decide_eq_false (by omega)
  have hd2 : ¬ x.n ≤ 0 := by omega
  clear hK hls
  go_enter Tryz.func112, Tryz.ntmps112
  go_wp2
  go_ret
  first | refine ⟨[kb], rfl, ?_⟩ | refine ⟨rfl, [kb], ?_⟩
  exact ⟨⟨by rw [HLS.out]; simpa using HK.out.set_ 0 (.string (S x.key)), rfl⟩, (Kp.refl _ W).setCell (.inl (by simp)) _, Gr.refl _ _⟩
 ·have hls : lastI (xs ++ [x]) = lastI xs := by rw [lastI_snoc, if_neg hn]
  have HLS := hid hls
  have hd : decide (x.n ≤ 0) = true := decide_eq_true (by omega)
  have hd2 : x.n ≤ 0 := by omega
  clear hK hls
  go_enter Tryz.func112, Tryz.ntmps112
  go_wp2
  go_ret
  first | refine ⟨[kb], rfl, ?_⟩ | refine ⟨rfl, [kb], ?_⟩
  exact ⟨⟨by rw [HLS.out]; exact HK.out, rfl⟩, Kp.refl _ W, Gr.refl _ _⟩
theorem ahead23_any (kb : Nat) (xs : List Ix) (x : Ix) (W : World) (Z : List Nat) (h : KyR kb xs W Z) :
  Calls Tryz.prog 126 (#[.string (S x.key), .int .i64 x.n] ++ #[.pointer (some ⟨kb, 0, none⟩)]) W fun e w' => ∃ Z', e = .returned (.bool true) ∧ KyR kb (xs ++ [x]) w' Z' ∧ Kp Z W w' ∧ Gr Z W.heap.size Z' := by
 obtain ⟨hK, rfl⟩ := h
 have k0 : W.cell? ⟨kb, 0, none⟩ = some (.string (S (lastI xs))) := hK.cell 0
 have kf := hK.frozen 0
 have kl := hK.lt
 have HK := hid hK
 by_cases hn : 0 < x.n
 ·have HLS : Hid (lastI (xs ++ [x]) = x.key) := hid (by rw [lastI_snoc, if_pos hn])
  clear hK
  go_enter Tryz.func126, Tryz.ntmps126
  go_wp2
  go_ret
  first | refine ⟨[kb], rfl, ?_⟩ | refine ⟨rfl, [kb], ?_⟩
  exact ⟨⟨by rw [HLS.out]; simpa using HK.out.set_ 0 (.string (S x.key)), rfl⟩, (Kp.refl _ W).setCell (.inl (by simp)) _, Gr.refl _ _⟩
 ·have HLS : Hid (lastI (xs ++ [x]) = lastI xs) := hid (by rw [lastI_snoc, if_neg hn])
  clear hK
  go_enter Tryz.func126, Tryz.ntmps126
  go_wp2
  go_ret
  first | refine ⟨[kb], rfl, ?_⟩ | refine ⟨rfl, [kb], ?_⟩
  exact ⟨⟨by rw [HLS.out]; exact HK.out, rfl⟩, Kp.refl _ W, Gr.refl _ _⟩
theorem KyR.keep {kb : Nat} {xs : List Ix} {W W' : World} {Z : List Nat} (h : KyR kb xs W Z) (e : ∀ b ∈ Z, W'.heap[b]? = W.heap[b]?) : KyR kb xs W' Z := by
 obtain ⟨h1, rfl⟩ := h
 exact ⟨(e kb (by simp)).trans h1, rfl⟩
theorem KyR.lts {kb : Nat} {xs : List Ix} {W : World} {Z : List Nat} (h : KyR kb xs W Z) : ∀ b ∈ Z, b < W.heap.size := by
 obtain ⟨h1, rfl⟩ := h
 intro b hb
 rw [List.mem_singleton.1 hb]
 exact h1.lt
theorem next_do (kb : Nat) : DoX (fun x => decide (x.n ≤ 0)) 112 #[.pointer (some ⟨kb, 0, none⟩)] (KyR kb) where
 keep := fun xs W W' Z h e => h.keep e
 lts := fun xs W Z h => h.lts
 en := fun vs W => Tryz.call112 vs W
 go := fun xs x W Z h hx => next1_any kb xs x W Z h
theorem ahead_do (kb : Nat) : DoX (fun _ => true) 126 #[.pointer (some ⟨kb, 0, none⟩)] (KyR kb) where
 keep := fun xs W W' Z h e => h.keep e
 lts := fun xs W Z h => h.lts
 en := fun vs W => Tryz.call126 vs W
 go := fun xs x W Z h hx => ahead23_any kb xs x W Z h
def CoR (mb sb : Nat) (xs : List Ix) (W : World) (Z : List Nat) : Prop := mb ≠ sb ∧ Blk W mb 3 #[.int .i64 (moreI xs)] ∧ Blk W sb 3 #[.int .i64 (xs.length - moreI xs : Nat)] ∧ Z = [mb, sb]
set_option maxHeartbeats 2000000 in
theorem counts1_any (mb sb : Nat) (xs : List Ix) (x : Ix) (W : World) (Z : List Nat) (h : CoR mb sb xs W Z) (hx : xs.length ≤ 1000) :
  Calls Tryz.prog 111 (#[.string (S x.key), .int .i64 x.n] ++ #[.pointer (some ⟨mb, 0, none⟩), .pointer (some ⟨sb, 0, none⟩)]) W fun e w' => ∃ Z', e = .returned (.bool true) ∧ CoR mb sb (xs ++ [x]) w' Z' ∧ Kp Z W w' ∧ Gr Z W.heap.size Z' := by
 obtain ⟨hne, hM, hL, rfl⟩ := h
 have hmo := moreI_le xs
 obtain ⟨m, hm⟩ : ∃ m, m = moreI xs := ⟨_, rfl⟩
 obtain ⟨q, hq⟩ : ∃ q, q = xs.length - moreI xs := ⟨_, rfl⟩
 have hm1 : m ≤ 1000 := by omega
 have hq1 : q ≤ 1000 := by omega
 rw [← hm] at hM
 rw [← hq] at hL
 have k0 : W.cell? ⟨mb, 0, none⟩ = some (.int .i64 m) := hM.cell 0
 have kf := hM.frozen 0
 have kl := hM.lt
 have q0 : W.cell? ⟨sb, 0, none⟩ = some (.int .i64 q) := hL.cell 0
 have qf := hL.frozen 0
 have ql := hL.lt
 have hw1 : IntKind.i64.wrap ((m : Int) + 1) = (m : Int) + 1 := by rw [IntKind.wrap_i64]; omega
 have hw2 : IntKind.i64.wrap ((q : Int) + 1) = (q : Int) + 1 := by rw [IntKind.wrap_i64]; omega
 have HX := hid (⟨hne, hM, hL⟩ : _ ∧ _ ∧ _)
 by_cases hn : 0 < x.n
 ·have HLS : Hid (moreI (xs ++ [x]) = m + 1 ∧ (xs ++ [x]).length - moreI (xs ++ [x]) = q) := hid (by
   have : moreI (xs ++ [x]) = m + 1 := by rw [moreI_snoc, if_pos hn, hm]
   refine ⟨this, ?_⟩
   rw [this, List.length_append, List.length_singleton]
   omega)
  clear hM hL hm hq hmo hx hne
  go_enter Tryz.func111, Tryz.ntmps111
  go_wp2
  go_ret
  first | refine ⟨[mb, sb], rfl, ?_⟩ | refine ⟨rfl, [mb, sb], ?_⟩
  refine ⟨⟨HX.out.1, ?_, ?_, rfl⟩, (Kp.refl _ W).setCell (.inl (by simp)) _, Gr.refl _ _⟩
  ·rw [HLS.out.1]
   simpa using HX.out.2.1.set_ 0 (.int .i64 ((m : Int) + 1))
  ·rw [HLS.out.2]
   exact HX.out.2.2.far (fun e => HX.out.1 (by rw [e])) _
 ·have HLS : Hid (moreI (xs ++ [x]) = m ∧ (xs ++ [x]).length - moreI (xs ++ [x]) = q + 1) := hid (by
   have : moreI (xs ++ [x]) = m := by rw [moreI_snoc, if_neg hn, hm]
   refine ⟨this, ?_⟩
   rw [this, List.length_append, List.length_singleton]
   omega)
  clear hM hL hm hq hmo hx hne
  go_enter Tryz.func111, Tryz.ntmps111
  go_wp2
  go_ret
  first | refine ⟨[mb, sb], rfl, ?_⟩ | refine ⟨rfl, [mb, sb], ?_⟩
  refine ⟨⟨HX.out.1, ?_, ?_, rfl⟩, (Kp.refl _ W).setCell (.inl (by simp)) _, Gr.refl _ _⟩
  ·rw [HLS.out.1]
   exact HX.out.2.1.far HX.out.1 _
  ·rw [HLS.out.2]
   simpa using HX.out.2.2.set_ 0 (.int .i64 ((q : Int) + 1))
theorem counts_do (mb sb : Nat) : DoX (fun _ => true) 111 #[.pointer (some ⟨mb, 0, none⟩), .pointer (some ⟨sb, 0, none⟩)] (CoR mb sb) where
 keep := fun xs W W' Z h e => by
  obtain ⟨h1, h2, h3, rfl⟩ := h
  exact ⟨h1, (e mb (by simp)).trans h2, (e sb (by simp)).trans h3, rfl⟩
 lts := fun xs W Z h b hb => by
  obtain ⟨h1, h2, h3, rfl⟩ := h
  simp only [List.mem_cons, List.not_mem_nil, or_false] at hb
  rcases hb with rfl | rfl
  ·exact h2.lt
  ·exact h3.lt
 en := fun vs W => Tryz.call111 vs W
 go := fun xs x W Z h hx => counts1_any mb sb xs x W Z h hx
def ev0 : Ev := ⟨0, 0, 0, 0, 0⟩
def nextV : Option Ev → Value
 | some e => .tuple #[evV e, .bool true, .int .i64 0]
 | none => .tuple #[evV ev0, .bool false, .int .i64 0]
section
variable {w w' : World} {ib : Nat} {s : SL} {lp : Int} {O : List Nat} {N c : Nat} {l : List Ix}
theorem Kp.fresh {Z O : List Nat} {W W1 W2 : World} (hb : Below W.heap.size W W1) (hz : ∀ z ∈ Z, W.heap.size ≤ z) (hk : Kp (Z ++ O) W1 W2) : Kp O W W2 :=
 (Kp.of_below hb).trans_gr (fun x hx => by
  rcases List.mem_append.1 hx with h | h
  ·exact .inr (hz x h)
  ·exact .inl h) hk
set_option maxHeartbeats 8000000 in
theorem icounts_any (h : IbI w ib s lp O N c l) (hl : l.length ≤ 1000) (hcc : c ≤ 2000) :
  Calls Tryz.prog 50 #[.pointer (some ⟨ib, 0, none⟩)] w fun r w' => r = .returned (.tuple #[.int .i64 (moreI l), .int .i64 (l.length - moreI l : Nat), .int .i64 0]) ∧ IbI w' ib s lp O N c l ∧ Kp O w w' := by
 obtain ⟨W1, hW1⟩ : ∃ W1, W1 = (w.alloc (.cells #[.int .i64 0] 3)).alloc (.cells #[.int .i64 0] 3) := ⟨_, rfl⟩
 have hb1 : Below w.heap.size w W1 := by rw [hW1]; exact ((Below.refl _ w).alloc (Nat.le_refl _) _).alloc (by simp) _
 have hM1 : Blk W1 w.heap.size 3 #[.int .i64 0] := by rw [hW1]; exact (Blk.new w _ _).alloc _
 have hL1 : Blk W1 (w.heap.size + 1) 3 #[.int .i64 0] := by
  rw [hW1]
  have := Blk.new (w.alloc (.cells #[.int .i64 0] 3)) 3 #[.int .i64 0]
  simpa using this
 have hlts := h.lts
 have HE := hid (ieach_any (counts_do w.heap.size (w.heap.size + 1)) (h.below hb1) hl hcc [] [] (by simp) (by simp) (Z := [w.heap.size, w.heap.size + 1]) ⟨by omega, hM1, hL1, rfl⟩ (fun z hz hm => by
  have := hlts z hm
  simp only [List.mem_cons, List.not_mem_nil, or_false] at hz
  omega))
 rw [goX_all (by simp), rngI_all, show S [] = { data := #[] } from rfl, hW1] at HE
 have HX := hid (⟨hW1, hb1⟩ : _ ∧ _)
 clear h hl hcc hW1 hb1 hM1 hL1 hlts
 go_enter Tryz.func50, Tryz.ntmps50
 go_wp2_with fail
 (with_reducible refine HE.out.mono ?_)
 rintro r W2 ⟨Z2, rfl, ⟨_, hM2, hL2, rfl⟩, hI2, hk2, _⟩
 rw [← HX.out.1] at hk2
 have HC : Hid (∀ W, BelC W2 W → W.cell? ⟨w.heap.size, 0, none⟩ = some (.int .i64 (moreI l)) ∧ W.cell? ⟨w.heap.size + 1, 0, none⟩ = some (.int .i64 (l.length - moreI l : Nat))) := hid fun W hW => ⟨(hW.blk hM2).cell 0, (hW.blk hL2).cell 0⟩
 have HF := hid (⟨hI2, Kp.fresh HX.out.2 (by simp) hk2⟩ : _ ∧ _)
 clear hM2 hL2 hI2 hk2
 go_wp2
 refine qC_region (by kernel_rfl) (by kernel_rfl) (BelC W2) (BelC.drew W2) ?_
 repeat (first | (refine qC_none rfl (fun K hK => ?_); apply Exists.intro; refine ⟨fun w0 hw0 => ?_, ?_⟩; (focus (obtain ⟨q0, q1⟩ := HC.out w0 hw0; go_simp; first | exact rfl | exact ⟨rfl, rfl⟩ | (fail))); go_simp; refine hK _ ?_; clear hK K) | (refine qC_yes _ _ _ rfl rfl (by rfl) (fun K hK => ?_); apply Exists.intro; refine ⟨fun w0 hw0 => ?_, ?_⟩; (focus (obtain ⟨q0, q1⟩ := HC.out w0 hw0; go_simp; first | exact rfl | exact ⟨rfl, rfl⟩ | (fail))); go_simp; refine hK _ ?_; clear hK K) | (refine qC_no _ _ _ rfl rfl (by rfl) (fun K hK => ?_); go_simp; refine hK _ ?_; clear hK K) | (refine qC_undef _ _ _ rfl rfl (by rfl) (fun K hK => ?_); go_simp; refine hK _ ?_; clear hK K))
 refine qC_nil ?_
 intro w3 hw3
 have H3 := hid (⟨HF.out.1.below hw3.out, HF.out.2.trans (Kp.of_below hw3.out)⟩ : _ ∧ _)
 clear hw3
 go_wp2
 go_ret3
 exact ⟨rfl, H3.out⟩
theorem iforget_any (h : IbI w ib s lp O N c l) (u : Bs) (hu : u.length ≤ 29) :
  Calls Tryz.prog 77 #[.pointer (some ⟨ib, 0, none⟩), .string (S u)] w fun r w' => r = .returned (.int .i64 0) ∧ IbI w' ib s lp O N c (forgI l u) ∧ Kp O w w' := by
 obtain ⟨M, hS, hx, hlo⟩ := h.m
 have hSC := sclear_any (sp := 0) (lp := lp) (fr := []) (to := u ++ [0]) (hS.below (below_drewN (Below.refl w.heap.size w) 1)) h.okp (by simp) (by simp; omega)
 obtain ⟨q, hq⟩ : ∃ q, q = ((partM M (hdP 0 lp)).filter fun a => inR [] (u ++ [0]) a.1).length := ⟨_, rfl⟩
 rw [← hq] at hSC
 have HS := hid hSC
 have HF : Hid (∀ W', StI W' s O N (M.filter fun a => !inR (hdP 0 lp ++ []) (toK (hdP 0 lp) (u ++ [0])) a.1) → Kp O w W' → IbI W' ib s lp O N c (forgI l u)) := hid fun W' hs hk => by
  have h1 := hx.clear h.hlp [] (u ++ [0])
  rw [forg_eq] at h1
  have h2 := longs_sub (M := M) (M' := M.filter fun a => !inR (hdP 0 lp ++ []) (toK (hdP 0 lp) (u ++ [0])) a.1) List.filter_sublist
  exact h.turn hk (Gr.refl _ _) hs h1 (by omega)
 have c0 : w.cell? ⟨ib, 0, none⟩ = some (.pointer (some ⟨s.sb, 0, none⟩)) := Blk.cell h.x 0
 have c1 : w.cell? ⟨ib, 1, none⟩ = some (.int .i64 lp) := Blk.cell h.x 1
 have HCK : Hid (∀ W', Kp O w.drew W' → W'.cell? ⟨ib, 0, none⟩ = some (.pointer (some ⟨s.sb, 0, none⟩)) ∧ W'.cell? ⟨ib, 1, none⟩ = some (.int .i64 lp)) := hid fun W' hk => by
  have := (Blk.drew h.x).kp hk h.nxO
  exact ⟨this.cell 0, this.cell 1⟩
 have hg1 : ¬ (29 : Int) < (u.length : Int) := by omega
 have hcat : ¬ 9223372036854775807 < u.length + 1 := by omega
 rw [show S [] = { data := #[] } from rfl] at HS
 clear h hS hx hlo hSC hq hu
 go_enter Tryz.func77, Tryz.ntmps77
 go_wp2
 go_region_held3 (fun W => W.cell? ⟨ib, 0, none⟩ = some (.pointer (some ⟨s.sb, 0, none⟩)) ∧ W.cell? ⟨ib, 1, none⟩ = some (.int .i64 lp)) (first | exact hck5 | exact ⟨c0, c1⟩)
  (first
   | (go_at_call 93; refine HS.out.mono ?_; rintro r W1 ⟨rfl, hS1, hk1⟩; have hck5 := HCK.out W1 hk1))
 all_goals
  have hk01 : Kp O w W1 := (Kp.refl O w).drew.trans hk1
  have H1 := hid (⟨HF.out W1 hS1 hk01, hk01⟩ : _ ∧ _)
  clear hS1 hk1 hk01 hck5
  go_wp2
  go_ret
  exact ⟨rfl, H1.out⟩
end
end
section
structure It where
 c : Bs
 k : Int
 e : Ev
def It.key (x : It) : Bs := x.c ++ oneB x.k
def It.fit (x : It) : Prop := x.c.length = 25 ∧ 0 ≤ x.k ∧ x.k ≤ 255
def It.right (x : It) : Prop := x.fit ∧ x.e.right
def It.nrm (x : It) : It := { x with e := x.e.nrm }
def It.lt (x y : It) : Prop := x.c < y.c ∨ (x.c = y.c ∧ x.k < y.k)
instance (x : It) : Decidable x.fit := by unfold It.fit; infer_instance
instance (x : It) : Decidable x.right := by unfold It.right; infer_instance
instance (x y : It) : Decidable (x.lt y) := by unfold It.lt; infer_instance
end
section
def dif (x y : It) : Bool := decide (¬ (y.c = x.c ∧ y.k = x.k))
end
section
open Go.RowKit Go.Lib
section
variable {P : Program} {ops : Array Oper} {Q : Exit → Act → World → Prop} {md : Region.Mode} {S : World → Prop}
theorem hTk {i : Nat} {oi : Oper} {v : Value} {fuel : Nat} {listed : Array Bool} {a : Act} {w : World} (hi : ops[i]? = some oi)
  (h3 : (Region.noSelect ops && Region.free md ops listed i && (Region.ready md ops listed).contains i) = true)
  (hQ : ∀ c a w, Q (.panic c) (a.put oi.dst v) w → Q (.panic c) a w) (hy : YieldsIf P ops S oi v a) (hS : S w)
  (h : wpAnyH P md ops Q S fuel (listed.setIfInBounds i true) (a.put oi.dst v) w) : wpAnyH P md ops Q S (fuel + 1) listed a w := by
 simp only [Bool.and_eq_true] at h3
 exact wpAnyH_take hi h3.1.1 h3.1.2 h3.2 hQ hy hS h
end
theorem gEa {α : Type} (l : List α) (i : Nat) : l.toArray[i]? = l[i]? := by simp
theorem gEb {α : Type} (a : α) (l : List α) (i : Nat) : (a :: l)[i + 1]? = l[i]? := List.getElem?_cons_succ
theorem gEc {α : Type} (a : α) (l : List α) : (a :: l)[0]? = some a := List.getElem?_cons_zero
theorem sEa {α : Type} (l : List α) (i : Nat) (x : α) : l.toArray.setIfInBounds i x = (l.set i x).toArray := by simp
theorem sEb {α : Type} (a b : α) (l : List α) : (a :: l).set 0 b = b :: l := rfl
theorem sEc {α : Type} (a b : α) (l : List α) (i : Nat) : (a :: l).set (i + 1) b = a :: l.set i b := rfl
def itV (x : It) : Value := .agg #[.string (S x.c), .int .i64 x.k, .float .f64 x.e.t, .int .i64 x.e.src, .int .i64 x.e.n, .int .i64 x.e.dst, .int .i64 x.e.pay]
end
end Go.Proofs.YtnnghcooidjlhaaGreat
