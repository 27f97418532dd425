/- Walks: the first and the last time, by the program and by the document. -/
import Derived.Test.YtjoclapnjnmlkaaWf
import Derived.BigQuiet
set_option linter.unusedSimpArgs false
namespace Go.Proofs.Ytjoclapnjnmlkaa
open Go.RowKit

def spanV (xs : List Nat) : Value := if xs = [] then .tuple #[.float .f64 0, .float .f64 0, .bool false] else .tuple #[.float .f64 (xs.getD 0 0), .float .f64 (xs.getD (xs.length - 1) 0), .bool true]

set_option maxHeartbeats 1000000 in
theorem wspan_any (hS : SortOk Try.prog 34 35) (hS0 : SortNone Try.prog 34 35)
    (p : Option Addr) (ds : List Done) (cap : Nat) (w : World) (hc : ds.length ≤ 61) (hH : Hist w p ds) :
    Calls Try.prog 19 #[.slice p ds.length cap] w fun e w' => (∃ xs : List Nat, xs.Perm (keep ds) ∧ xs.Pairwise (fun x y => 0 ≤ cmpT y x) ∧ e = .returned (spanV xs)) ∧ Below w.heap.size w w' := by
  have HT := Lib.hid (wtimes_any hS hS0 p ds cap w hc hH)
  clear hS hS0 hH
  go_enter Try.func19, Try.ntmps19
  go_wp2_with fail
  refine HT.out.mono ?_
  rintro e w1 ⟨q, c, xs, rfl, hf, hp, hs, hb⟩
  clear HT
  have hxl : xs.length ≤ 61 := by have := hp.length_eq; have := keep_len ds; omega
  have HP := Lib.hid hp
  have HS := Lib.hid hs
  clear hp hs
  by_cases h0 : xs = []
  · have hv : spanV xs = .tuple #[.float .f64 0, .float .f64 0, .bool false] := by unfold spanV; rw [if_pos h0]
    have HV := Lib.hid hv
    have hl0 : xs.length = 0 := by rw [h0]; rfl
    have HZ := Lib.hid h0
    clear h0 hv
    have h3 : ((xs.length : Int) == 0) = true := by rw [hl0]; rfl
    clear hl0 hf
    go_wp2
    go_ret3
    exact ⟨⟨xs, HP.out, HS.out, by rw [HV.out]; rfl⟩, hb⟩
  · have hv : spanV xs = .tuple #[.float .f64 (xs.getD 0 0), .float .f64 (xs.getD (xs.length - 1) 0), .bool true] := by unfold spanV; rw [if_neg h0]
    have hlp : 0 < xs.length := List.length_pos_iff.2 h0
    rcases hf with h1 | ⟨b, off, rfl, hbl, hd⟩
    · exact absurd h1 h0
    have hx := hd 0 hlp
    rw [Nat.add_zero] at hx
    have hy := hd (xs.length - 1) (by omega)
    have HV := Lib.hid hv
    clear hd hv h0
    have h3 : ((xs.length : Int) == 0) = false := beq_eq_false_iff_ne.2 (by omega)
    obtain ⟨l1, hl1⟩ : ∃ l1 : Nat, xs.length - 1 = l1 := ⟨_, rfl⟩
    rw [hl1] at hy HV
    have hn1 : IntKind.i64.wrap ((xs.length : Int) - 1) = (l1 : Int) := by rw [IntWalk.i64_in _ (by omega)]; omega
    have hn2 : l1 < xs.length := by omega
    have HL := Lib.hid hl1
    clear hl1
    generalize xs.getD 0 0 = x at *
    generalize xs.getD l1 0 = y at *
    go_wp2
    go_quiet (fail)
    go_wp2
    go_ret3
    exact ⟨⟨xs, HP.out, HS.out, by rw [HV.out]; rfl⟩, below_drewN_w hb _⟩

def lowTo (xs : List Nat) : Nat → Nat
  | 0 => 0
  | k + 1 => if (k == 0 || flt (xs.getD k 0) (lowTo xs k)) = true then xs.getD k 0 else lowTo xs k
def highTo (xs : List Nat) : Nat → Nat
  | 0 => 0
  | k + 1 => if (k == 0 || fgt (xs.getD k 0) (highTo xs k)) = true then xs.getD k 0 else highTo xs k
def rspanV (xs : List Nat) : Value := .tuple #[.float .f64 (lowTo xs xs.length), .float .f64 (highTo xs xs.length), .bool (decide (0 < xs.length))]

set_option maxHeartbeats 1000000 in
theorem rspan_any (p : Option Addr) (ds : List Done) (cap : Nat) (w : World) (hc : ds.length ≤ 61) (hH : Hist w p ds) :
    Calls Try.prog 20 #[.slice p ds.length cap] w fun e w' => e = .returned (rspanV (keep ds)) ∧ Below w.heap.size w w' := by
  have HT := Lib.hid (rtimes_any p ds cap w hc hH)
  have hkl := keep_len ds
  clear hH
  generalize keep ds = xs at *
  go_enter Try.func20, Try.ntmps20
  go_wp2_with (go_at_call 25; refine HT.out.mono ?_; rintro e w1 ⟨q, c, rfl, hf, hb⟩)
  clear HT
  go_loopw [6, 7, 8] (fun lo hi i wr => ∃ j : Nat, j ≤ xs.length ∧ i = .int .i64 (j : Int) ∧ lo = .float .f64 (lowTo xs j) ∧ hi = .float .f64 (highTo xs j) ∧ w1 = wr) (fun _ _ i _ => xs.length - (intOf i).toNat)
  case atStart => exact ⟨0, Nat.zero_le _, rfl, rfl, rfl, rfl⟩
  case round =>
    obtain ⟨j, hj, rfl, rfl, rfl, rfl⟩ := hrel
    by_cases hlt : j < xs.length
    · rcases hf with h0 | ⟨b, off, rfl, hbl, hd⟩
      · subst h0; simp at hlt
      have hx := hd j hlt
      clear hd
      have h1 : lowTo xs (j + 1) = if (j == 0 || flt (xs.getD j 0) (lowTo xs j)) = true then xs.getD j 0 else lowTo xs j := rfl
      have h2 : highTo xs (j + 1) = if (j == 0 || fgt (xs.getD j 0) (highTo xs j)) = true then xs.getD j 0 else highTo xs j := rfl
      by_cases hj0 : j = 0
      · subst hj0
        have H1 := Lib.hid (show lowTo xs (0 + 1) = xs.getD 0 0 from rfl)
        have H2 := Lib.hid (show highTo xs (0 + 1) = xs.getD 0 0 from rfl)
        clear h1 h2
        rw [Nat.add_zero] at hx
        generalize xs.getD 0 0 = x at *
        go_wp2
        go_roundw
        case rel => exact ⟨0 + 1, by omega, by go_num, by rw [H1.out], by rw [H2.out], trivial⟩
        case measure => simp [intOf]; omega
      · have e0 : (j == 0) = false := by simpa using hj0
        have e1 : ((j : Int) == 0) = false := beq_eq_false_iff_ne.2 (by omega)
        rw [e0, Bool.false_or] at h1 h2
        clear e0 hj0
        generalize xs.getD j 0 = x at *
        generalize lowTo xs j = lo at *
        generalize highTo xs j = hi at *
        cases g1 : flt x lo <;> cases g2 : fgt x hi
        all_goals
          rw [g1] at h1
          rw [g2] at h2
          simp only [Bool.false_eq_true, if_false, if_true] at h1 h2
          have H1 := Lib.hid h1
          have H2 := Lib.hid h2
          clear h1 h2
          go_wp2
          go_roundw
        case rel => exact ⟨j + 1, by omega, by go_num, by rw [H1.out], by rw [H2.out], trivial⟩
        case measure => simp [intOf]; omega
        case rel => exact ⟨j + 1, by omega, by go_num, by rw [H1.out], by rw [H2.out], trivial⟩
        case measure => simp [intOf]; omega
        case rel => exact ⟨j + 1, by omega, by go_num, by rw [H1.out], by rw [H2.out], trivial⟩
        case measure => simp [intOf]; omega
        case rel => exact ⟨j + 1, by omega, by go_num, by rw [H1.out], by rw [H2.out], trivial⟩
        case measure => simp [intOf]; omega
    · have hke : j = xs.length := by omega
      subst hke
      go_wp2
      go_ret3
      exact ⟨rfl, hb⟩
end Go.Proofs.Ytjoclapnjnmlkaa
