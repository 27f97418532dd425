/- Walks: Ints, few, at. -/
import Derived.Test.YtjoclapnjnmlkaaWh
import Derived.Laws.ResultCell
set_option linter.unusedSimpArgs false
namespace Go.Proofs.Ytjoclapnjnmlkaa
open Go.RowKit

set_option maxHeartbeats 1000000 in
theorem ints_eq (v1 v2 : Value) (n : Nat) (f : Nat → Nat) (w : World) (hn : n ≤ 100) (h1 : Counts w v1 n f) (h2 : Counts w v2 n f) :
    Calls Try.prog 16 #[v1, v2] w fun e w' => e = .returned (.bool true) ∧ ∃ m, w' = w.drewN m := by
  obtain ⟨q1, c1, rfl, _, k1⟩ := h1
  obtain ⟨q2, c2, rfl, _, k2⟩ := h2
  go_enter Try.func16, Try.ntmps16
  go_wp2
  go_loopw [5] (fun i wr => ∃ k : Nat, k ≤ n ∧ i = .int .i64 k ∧ ∃ m, wr = w.drewN m) (fun i _ => n - (intOf i).toNat)
  case atStart => exact ⟨0, Nat.zero_le _, rfl, 0, rfl⟩
  case round =>
    obtain ⟨k, hk, rfl, m, rfl⟩ := hrel
    by_cases hlt : k < n
    · rcases k1 with h0 | ⟨b1, o1, rfl, _, d1⟩
      · omega
      rcases k2 with h0 | ⟨b2, o2, rfl, _, d2⟩
      · omega
      have x1 := d1 k hlt
      have x2 := d2 k hlt
      clear d1 d2
      go_wp2
      go_quiet (fail)
      go_wp2
      go_roundw
      case rel => exact ⟨k + 1, by omega, by go_num, _, rfl⟩
      case measure => simp [intOf]; omega
    · go_wp2
      go_ret
      exact ⟨rfl, _, rfl⟩

/-- few -/
theorem few_any (p : Option Addr) (ds : List Done) (cap : Nat) (w : World) (hc : ds.length ≤ cap) (hm : cap ≤ 9223372036854775807) (hH : Hist w p ds) (hp : p = none → ds = []) :
    Calls Try.prog 9 #[.slice p ds.length cap] w fun e w' => e = .returned (.slice p (ds.take 60).length cap) ∧ w = w' := by
  by_cases h : 60 < ds.length
  · have e1 : (ds.take 60).length = 60 := by simp; omega
    rw [e1]
    cases p with
    | none => rw [hp rfl] at h; simp at h
    | some a =>
      rcases hH with h0 | ⟨b, off, ha, _, _⟩
      · rw [h0] at h; simp at h
      cases ha
      clear hp e1
      go_enter Try.func9, Try.ntmps9
      go_wp2
      go_ret
      exact ⟨rfl, rfl⟩
  · have e1 : (ds.take 60).length = ds.length := by simp; omega
    rw [e1]
    clear e1 hp hH
    go_enter Try.func9, Try.ntmps9
    go_wp2
    go_ret
    exact ⟨rfl, rfl⟩
theorem hist_take {w : World} {p : Option Addr} {ds : List Done} (h : Hist w p ds) (k : Nat) : Hist w p (ds.take k) := by
  rcases h with h0 | ⟨b, off, ha, hb, hd⟩
  · exact .inl (by rw [h0]; simp)
  · refine .inr ⟨b, off, ha, hb, fun i hi => ?_⟩
    have hi' : i < ds.length := Nat.lt_of_lt_of_le hi (List.length_take_le' _ _)
    have hik : i < k := Nat.lt_of_lt_of_le hi (List.length_take_le _ _)
    have e : (ds.take k).getD i z0 = ds.getD i z0 := by simp [List.getD, List.getElem?_take, hik]
    rw [e]
    exact hd i hi'

/-- at -/
theorem at_any (b : Nat) (w : World) :
    Calls Try.prog 26 #[.float .f64 b] w fun e w' => e = .returned (.agg #[.float .f64 b, .int .i64 0, .int .i64 0, .int .i64 0, .int .i64 0, .int .i64 0]) ∧ Below w.heap.size w w' := by
  go_enter Try.func26, Try.ntmps26
  go_wp2
  refine bodyPost_ret (v := .agg #[.float .f64 b, .int .i64 0, .int .i64 0, .int .i64 0, .int .i64 0, .int .i64 0]) (by simp [results, Try.results26, go_sem]) rfl ⟨rfl, (Below.refl _ _).alloc (Nat.le_refl _) _⟩
end Go.Proofs.Ytjoclapnjnmlkaa
