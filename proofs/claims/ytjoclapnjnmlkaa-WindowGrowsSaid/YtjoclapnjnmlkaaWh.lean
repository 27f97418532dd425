/- Walks: the document's parts; what no part is. -/
import Derived.Test.YtjoclapnjnmlkaaWg
set_option linter.unusedSimpArgs false
namespace Go.Proofs.Ytjoclapnjnmlkaa
open Go.RowKit

def pErr (fv wv : Nat) (n : Int) : Int := if !ffin fv || !ffin wv || fle wv 0 then 7 else if n < 0 ∨ 64 < n then 2 else 0
def pN (fv wv : Nat) (n : Int) : Nat := if pErr fv wv n = 0 then n.toNat else 0
theorem counts_nil (w : World) (f : Nat → Nat) : Counts w (.slice none 0 0) 0 f := ⟨none, 0, rfl, Nat.le_refl _, .inl rfl⟩

set_option maxHeartbeats 2000000 in
theorem wparts_any (hS : SortOk Try.prog 34 35) (hS0 : SortNone Try.prog 34 35)
    (p : Option Addr) (ds : List Done) (cap fv wv : Nat) (n : Int) (w : World) (hc : ds.length ≤ 61) (hH : Hist w p ds)
    (hf6 : fv < 18446744073709551616) (hw6 : wv < 18446744073709551616) :
    Calls Try.prog 14 #[.slice p ds.length cap, .float .f64 fv, .float .f64 wv, .int .i64 n] w fun e w' => (∃ v, e = .returned (.tuple #[v, .int .i64 (pErr fv wv n)]) ∧ Counts w' v (pN fv wv n) (cntL fv wv (keep ds))) ∧ Below w.heap.size w w' := by
  have hbb : ∀ a b : Obj, Below w.heap.size w ((w.alloc a).alloc b) := fun a b => (((Below.refl _ _).alloc (Nat.le_refl _) _).alloc (by simp) _)
  have HB := Lib.hid hbb
  clear hbb
  have e7 : ∀ h : (!ffin fv || !ffin wv || fle wv 0) = true, pErr fv wv n = 7 ∧ pN fv wv n = 0 := fun h => by
    have : pErr fv wv n = 7 := by unfold pErr; rw [h]; rfl
    exact ⟨this, by unfold pN; rw [this]; rfl⟩
  cases g1 : ffin fv
  · obtain ⟨e1, e2⟩ := e7 (by rw [g1]; rfl)
    rw [e1, e2]
    clear e1 e2 e7 hH hS hS0
    go_enter Try.func14, Try.ntmps14
    go_wp2_with (go_at_call 29; refine (finite_any _ _ (by assumption)).mono ?_; rintro e w' ⟨rfl, rfl⟩)
    go_ret2
    exact ⟨⟨_, rfl, counts_nil _ _⟩, HB.out _ _⟩
  · cases g2 : ffin wv
    · obtain ⟨e1, e2⟩ := e7 (by rw [g1, g2]; rfl)
      rw [e1, e2]
      clear e1 e2 e7 hH hS hS0
      go_enter Try.func14, Try.ntmps14
      go_wp2_with (go_at_call 29; refine (finite_any _ _ (by assumption)).mono ?_; rintro e w' ⟨rfl, rfl⟩)
      go_ret2
      exact ⟨⟨_, rfl, counts_nil _ _⟩, HB.out _ _⟩
    · cases g3 : fle wv 0
      · by_cases hn : n < 0 ∨ 64 < n
        · have e1 : pErr fv wv n = 2 := by unfold pErr; rw [g1, g2, g3]; simp [hn]
          have e2 : pN fv wv n = 0 := by unfold pN; rw [e1]; rfl
          rw [e1, e2]
          clear e1 e2 e7 hH hS hS0
          by_cases hn0 : n < 0
          · have t1 : decide (n < 0) = true := by simp [hn0]
            clear hn
            go_enter Try.func14, Try.ntmps14
            go_wp2_with (go_at_call 29; refine (finite_any _ _ (by assumption)).mono ?_; rintro e w' ⟨rfl, rfl⟩)
            go_ret2
            exact ⟨⟨_, rfl, counts_nil _ _⟩, HB.out _ _⟩
          · have t1 : decide (n < 0) = false := by simp; omega
            have t2 : decide (64 < n) = true := by simp; omega
            have t3 : 64 < n := by omega
            clear hn
            go_enter Try.func14, Try.ntmps14
            go_wp2_with (go_at_call 29; refine (finite_any _ _ (by assumption)).mono ?_; rintro e w' ⟨rfl, rfl⟩)
            go_ret2
            exact ⟨⟨_, rfl, counts_nil _ _⟩, HB.out _ _⟩
        · have e1 : pErr fv wv n = 0 := by unfold pErr; rw [g1, g2, g3]; simp [hn]
          have e2 : pN fv wv n = n.toNat := by unfold pN; rw [e1]; rfl
          rw [e1, e2]
          obtain ⟨m, rfl⟩ : ∃ m : Nat, n = (m : Int) := ⟨n.toNat, by omega⟩
          exact wparts_ok hS hS0 p ds cap fv wv m w hc hH (by omega) g1 g2 g3 hf6 hw6
      · obtain ⟨e1, e2⟩ := e7 (by rw [g1, g2, g3]; rfl)
        rw [e1, e2]
        clear e1 e2 e7 hH hS hS0
        go_enter Try.func14, Try.ntmps14
        go_wp2_with (go_at_call 29; refine (finite_any _ _ (by assumption)).mono ?_; rintro e w' ⟨rfl, rfl⟩)
        go_ret2
        exact ⟨⟨_, rfl, counts_nil _ _⟩, HB.out _ _⟩

theorem countP_take (q : Nat → Bool) (xs : List Nat) (k : Nat) (h : k < xs.length) : (xs.take (k + 1)).countP q = (xs.take k).countP q + if q (xs.getD k 0) then 1 else 0 := by
  rw [List.take_succ_eq_append_getElem h, List.countP_append]
  have e : xs.getD k 0 = xs[k] := by simp [List.getD, h]
  rw [e]
  simp [List.countP_cons]

set_option maxHeartbeats 2000000 in
theorem rparts_ok (p : Option Addr) (ds : List Done) (cap fv wv n : Nat) (w : World) (hc : ds.length ≤ 61) (hH : Hist w p ds) (hn : n ≤ 64) (hff : ffin fv = true) (hwf : ffin wv = true) (hw0 : fle wv 0 = false) :
    Calls Try.prog 15 #[.slice p ds.length cap, .float .f64 fv, .float .f64 wv, .int .i64 n] w fun e w' => (∃ v, e = .returned (.tuple #[v, .int .i64 0]) ∧ Counts w' v n (cntL fv wv (keep ds))) ∧ Below w.heap.size w w' := by
  have HT := Lib.hid (fun m => rtimes_any p ds cap (w.drewN m) hc (hH.below (below_drewN_w (Below.refl _ _) m)))
  have hkl := keep_len ds
  have hkn : ∀ x ∈ keep ds, fnan x = false := fun x hx => kept_nan hx
  clear hH
  generalize keep ds = xs at *
  obtain ⟨i0, hi, hz0, hz1, hz2⟩ := info_parts infInt
  have t1 : decide ((n : Int) < 0) = false := by simp
  have t2 : decide ((64 : Int) < (n : Int)) = false := by simp; omega
  have HKN := Lib.hid hkn
  clear hkn
  go_enter Try.func15, Try.ntmps15
  go_wp2_with (first
    | (go_at_call 31; refine (wnumber_any _ _).mono ?_; rintro e w' ⟨rfl, nq, rfl⟩)
    | (go_at_call 25; refine (HT.out _).mono ?_; rintro e w1 ⟨q, c, rfl, hf, hb⟩))
  have hB1 : Below w.heap.size w w1 := (below_drewN_w (Below.refl _ _) _).trans hb
  clear hb HT
  go_loopw [11, 12] (fun v i wr => ∃ k : Nat, k ≤ n ∧ i = .int .i64 k ∧ wr.ownsRow w1.heap.size 3 1 v k ((List.range k).map fun i => Value.int .i64 (cntL fv wv xs i)) ∧ Below w1.heap.size w1 wr) (fun _ i _ => n - (intOf i).toNat)
  case atStart => exact ⟨0, Nat.zero_le _, rfl, World.ownsRow_nil _ _ _ _, Below.refl _ _⟩
  case round =>
    obtain ⟨k, hk, rfl, hown, hb⟩ := hrel
    by_cases hlt : k < n
    · have hfr := hf.below hb
      obtain ⟨lo, hlo⟩ := fmul_some (flo_fin k (by omega)) hwf
      obtain ⟨hi', hhi⟩ := fmul_some (flo_fin (k + 1) (by omega)) hwf
      have e1 : floatOfInt .f64 (k : Int) = flo k := rfl
      have e2 : floatOfInt .f64 ((k : Int) + 1) = flo (k + 1) := by unfold flo; congr 1
      have hs := hb.size
      go_wp2
      go_hide hQ
      have HOWN := Lib.hid hown
      have HBB := Lib.hid hb
      clear hown hb hf
      go_loop [13, 14] (fun m i => ∃ j : Nat, j ≤ xs.length ∧ i = .int .i64 j ∧ m = .int .i64 ((xs.take j).countP (fun t => inPart fv wv t k) : Nat)) (fun _ i => xs.length - (intOf i).toNat)
      case atStart => exact ⟨0, Nat.zero_le _, rfl, rfl⟩
      case round =>
        obtain ⟨j, hj, rfl, rfl⟩ := hrel
        have hcm : (xs.take j).countP (fun t => inPart fv wv t k) ≤ j := Nat.le_trans List.countP_le_length (List.length_take_le _ _)
        by_cases hjl : j < xs.length
        · rcases hfr with h0 | ⟨b, off, rfl, hbl, hd⟩
          · subst h0; simp at hjl
          have hcl := hd j hjl
          have hxk : fnan (xs.getD j 0) = false := HKN.out _ (by rw [List.getD_eq_getElem?_getD, List.getElem?_eq_getElem hjl]; exact List.getElem_mem hjl)
          have hct := countP_take (fun t => inPart fv wv t k) xs j hjl
          generalize xs.getD j 0 = x at *
          obtain ⟨d, hd'⟩ := fsub_some hxk hff
          have hin : inPart fv wv x k = (fge d lo && flt d hi') := by unfold inPart; rw [hd', hlo, hhi]; rfl
          rw [hin] at hct
          have HCT := Lib.hid hct
          clear hct hin hd
          cases k1 : fge d lo
          · have HJ : Hid ((xs.take (j + 1)).countP (fun t => inPart fv wv t k) = (xs.take j).countP (fun t => inPart fv wv t k)) := by rw [HCT.out, k1]; exact rfl
            clear HCT
            generalize (xs.take j).countP (fun t => inPart fv wv t k) = M at *
            go_wp2
            go_round
            case rel => exact ⟨j + 1, by omega, by go_num, by rw [HJ.out]⟩
            case measure => simp [intOf]; omega
          · cases k2 : flt d hi'
            · have HJ : Hid ((xs.take (j + 1)).countP (fun t => inPart fv wv t k) = (xs.take j).countP (fun t => inPart fv wv t k)) := by rw [HCT.out, k1, k2]; exact rfl
              clear HCT
              generalize (xs.take j).countP (fun t => inPart fv wv t k) = M at *
              go_wp2
              go_round
              case rel => exact ⟨j + 1, by omega, by go_num, by rw [HJ.out]⟩
              case measure => simp [intOf]; omega
            · have HJ : Hid ((xs.take (j + 1)).countP (fun t => inPart fv wv t k) = (xs.take j).countP (fun t => inPart fv wv t k) + 1) := by rw [HCT.out, k1, k2]; exact rfl
              clear HCT
              generalize (xs.take j).countP (fun t => inPart fv wv t k) = M at *
              go_wp2
              go_round
              case rel => exact ⟨j + 1, by omega, by go_num, by rw [HJ.out]; go_num⟩
              case measure => simp [intOf]; omega
        · have hje : j = xs.length := by omega
          subst hje
          have ht : xs.take xs.length = xs := by simp
          rw [ht] at hcm ⊢
          clear ht hfr
          have hcl : xs.countP (fun t => inPart fv wv t k) = cntL fv wv xs k := rfl
          rw [hcl] at hcm ⊢
          clear hcl
          obtain ⟨M, hM⟩ : ∃ M, cntL fv wv xs k = M := ⟨_, rfl⟩
          rw [hM] at hcm ⊢
          have HM := Lib.hid hM
          clear hM
          have hown := HOWN.out
          subst hQ
          go_wp2_with (at_builtin; refine wpList_append_own _ rfl _ _ 32 rfl w1.heap.size 3 i0 (.int .i64 0) 1 8 Try.underlying32 hi hz0 hz1 hz2 rfl (by decide) _ _ _ rfl (hown.alloc _) ⟨wr.heap.size, 0, none⟩ 1 1 [.int .i64 (M : Int)] rfl rfl (news1 _ _ _ rfl) (one1 rfl) ?c3 ?c4 ?c5 ?_)
          case c3 => unfold maxLen; omega
          case c4 => omega
          case c5 => first | omega | (simp; omega)
          intro v' w2 hown' hgr _
          clear hown
          go_wp2
          refine ⟨⟨k + 1, by omega, by go_num, ?_, ?_⟩, by simp [intOf]; omega⟩
          · rw [List.range_succ, List.map_append]
            simpa [HM.out] using hown'
          · exact (HBB.out.alloc hs _).grown hgr (by simp; omega) (fun q hq => (HOWN.out.lt q hq).1)
    · have hke : k = n := by omega
      subst hke
      go_wp2
      go_ret2
      refine ⟨⟨_, rfl, ?_⟩, hB1.trans (hb.mono hB1.size)⟩
      rcases hown.2 with ⟨rfl, h0⟩ | ⟨g, cap', cur, rfl, hg, hh, hn', _, hs', ht'⟩
      · exact ⟨none, 0, by simp [h0], by omega, .inl h0⟩
      · refine ⟨_, cap', rfl, hn', .inr ⟨g, 0, rfl, (Array.getElem?_eq_some_iff.1 hh).1, fun i hi => ?_⟩⟩
        rw [cell_of_row wr g (0 + i) cur _ (0, 0) hh]
        have e : ((List.range k).map fun i => Value.int .i64 (cntL fv wv xs i))[i]? = some (.int .i64 (cntL fv wv xs i)) := by simp [hi]
        rw [← ht', List.getElem?_take] at e
        split at e
        · simpa using e
        · cases e

set_option maxHeartbeats 2000000 in
theorem rparts_any (p : Option Addr) (ds : List Done) (cap fv wv : Nat) (n : Int) (w : World) (hc : ds.length ≤ 61) (hH : Hist w p ds) :
    Calls Try.prog 15 #[.slice p ds.length cap, .float .f64 fv, .float .f64 wv, .int .i64 n] w fun e w' => (∃ v, e = .returned (.tuple #[v, .int .i64 (pErr fv wv n)]) ∧ Counts w' v (pN fv wv n) (cntL fv wv (keep ds))) ∧ Below w.heap.size w w' := by
  have hbb : ∀ m, Below w.heap.size w (w.drewN m) := fun m => below_drewN_w (Below.refl _ _) m
  have HB := Lib.hid hbb
  clear hbb
  have e7 : ∀ h : (!ffin fv || !ffin wv || fle wv 0) = true, pErr fv wv n = 7 ∧ pN fv wv n = 0 := fun h => by
    have : pErr fv wv n = 7 := by unfold pErr; rw [h]; rfl
    exact ⟨this, by unfold pN; rw [this]; rfl⟩
  cases g1 : ffin fv
  · obtain ⟨e1, e2⟩ := e7 (by rw [g1]; rfl)
    rw [e1, e2]
    clear e1 e2 e7 hH
    go_enter Try.func15, Try.ntmps15
    go_wp2_with (go_at_call 31; refine (wnumber_any _ _).mono ?_; rintro e w' ⟨rfl, nq, rfl⟩)
    go_ret2
    exact ⟨⟨_, rfl, counts_nil _ _⟩, HB.out _⟩
  · cases g2 : ffin wv
    · obtain ⟨e1, e2⟩ := e7 (by rw [g1, g2]; rfl)
      rw [e1, e2]
      clear e1 e2 e7 hH
      go_enter Try.func15, Try.ntmps15
      go_wp2_with (go_at_call 31; refine (wnumber_any _ _).mono ?_; rintro e w' ⟨rfl, nq, rfl⟩)
      go_ret2
      exact ⟨⟨_, rfl, counts_nil _ _⟩, HB.out _⟩
    · cases g3 : fle wv 0
      · by_cases hn : n < 0 ∨ 64 < n
        · have e1 : pErr fv wv n = 2 := by unfold pErr; rw [g1, g2, g3]; simp [hn]
          have e2 : pN fv wv n = 0 := by unfold pN; rw [e1]; rfl
          rw [e1, e2]
          clear e1 e2 e7 hH
          by_cases hn0 : n < 0
          · have t1 : decide (n < 0) = true := by simp [hn0]
            clear hn
            go_enter Try.func15, Try.ntmps15
            go_wp2_with (go_at_call 31; refine (wnumber_any _ _).mono ?_; rintro e w' ⟨rfl, nq, rfl⟩)
            go_ret2
            exact ⟨⟨_, rfl, counts_nil _ _⟩, HB.out _⟩
          · have t1 : decide (n < 0) = false := by simp; omega
            have t2 : decide (64 < n) = true := by simp; omega
            have t3 : 64 < n := by omega
            clear hn
            go_enter Try.func15, Try.ntmps15
            go_wp2_with (go_at_call 31; refine (wnumber_any _ _).mono ?_; rintro e w' ⟨rfl, nq, rfl⟩)
            go_ret2
            exact ⟨⟨_, rfl, counts_nil _ _⟩, HB.out _⟩
        · have e1 : pErr fv wv n = 0 := by unfold pErr; rw [g1, g2, g3]; simp [hn]
          have e2 : pN fv wv n = n.toNat := by unfold pN; rw [e1]; rfl
          rw [e1, e2]
          obtain ⟨m, rfl⟩ : ∃ m : Nat, n = (m : Int) := ⟨n.toNat, by omega⟩
          exact rparts_ok p ds cap fv wv m w hc hH (by omega) g1 g2 g3
      · obtain ⟨e1, e2⟩ := e7 (by rw [g1, g2, g3]; rfl)
        rw [e1, e2]
        clear e1 e2 e7 hH
        go_enter Try.func15, Try.ntmps15
        go_wp2_with (go_at_call 31; refine (wnumber_any _ _).mono ?_; rintro e w' ⟨rfl, nq, rfl⟩)
        go_ret2
        exact ⟨⟨_, rfl, counts_nil _ _⟩, HB.out _⟩
end Go.Proofs.Ytjoclapnjnmlkaa
