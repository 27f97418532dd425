/- Walks: the most times in a window. -/
import Derived.Test.YtjoclapnjnmlkaaWc
import Derived.Laws.EntriesVeiled
set_option linter.unusedSimpArgs false
namespace Go.Proofs.Ytjoclapnjnmlkaa
open Go.RowKit

/-- is a time in the window that begins at another one -/
def inW (wv a x : Nat) : Bool := fge x a && oLt (fsub x a) wv
def many (xs : List Nat) (wv a : Nat) : Nat := xs.countP (inW wv a)

theorem many_take (xs : List Nat) (wv a k : Nat) (h : k < xs.length) : many (xs.take (k + 1)) wv a = many (xs.take k) wv a + if inW wv a (xs.getD k 0) then 1 else 0 := by
  unfold many
  rw [List.take_succ_eq_append_getElem h, List.countP_append]
  have e : xs.getD k 0 = xs[k] := by simp [List.getD, h]
  rw [e]
  simp [List.countP_cons]
theorem many_le (xs : List Nat) (wv a k : Nat) : many (xs.take k) wv a ≤ k := Nat.le_trans List.countP_le_length (List.length_take_le _ _)

theorem below_drewN_w {B : Nat} {a w : World} (h : Below B a w) (q : Nat) : Below B a (w.drewN q) := ⟨h.os, h.tape, h.output, h.size, h.block⟩

set_option maxHeartbeats 400000 in
theorem wmany_any (q : Option Addr) (xs : List Nat) (c bt bw a wv : Nat) (w : World) (hx : xs.length ≤ 61)
    (ht : w.cell? ⟨bt, 0, none⟩ = some (.slice q xs.length c)) (hw : w.cell? ⟨bw, 0, none⟩ = some (.float .f64 wv)) (hf : Floats w q xs) :
    Calls Try.prog 24 #[.float .f64 a, .pointer (some ⟨bt, 0, none⟩), .pointer (some ⟨bw, 0, none⟩)] w fun e w' => e = .returned (.int .i64 (many xs wv a)) ∧ ∃ n, w' = w.drewN n := by
  go_enter Try.func24, Try.ntmps24
  go_wp2
  go_loopw [5, 10] (fun n i wr => ∃ k : Nat, k ≤ xs.length ∧ i = .int .i64 k ∧ n = .int .i64 (many (xs.take k) wv a) ∧ ∃ m, wr = w.drewN m) (fun _ i _ => xs.length - (intOf i).toNat)
  case atStart => exact ⟨0, Nat.zero_le _, rfl, rfl, 0, rfl⟩
  case round =>
    obtain ⟨k, hk, rfl, rfl, m, rfl⟩ := hrel
    have hm := many_le xs wv a k
    by_cases hlt : k < xs.length
    · rcases hf with h0 | ⟨b, off, rfl, hbl, hd⟩
      · subst h0; simp at hlt
      have hc := hd k hlt
      clear hd
      have hkt := many_take xs wv a k hlt
      generalize xs.getD k 0 = x at *
      unfold inW at hkt
      cases hg : fge x a
      · simp only [hg, Bool.false_and, Bool.false_eq_true, if_false, Nat.add_zero] at hkt
        have HK := Lib.hid hkt
        clear hkt
        go_wp2
        go_roundw
        case rel => exact ⟨k + 1, by omega, by go_num, by rw [HK.out], _, rfl⟩
        case measure => simp [intOf]; omega
      · cases hg2 : oLt (fsub x a) wv
        · simp only [hg, hg2, Bool.and_false, Bool.false_eq_true, if_false, Nat.add_zero] at hkt
          have HK := Lib.hid hkt
          clear hkt
          go_wp2
          go_roundw
          case rel => exact ⟨k + 1, by omega, by go_num, by rw [HK.out], _, rfl⟩
          case measure => simp [intOf]; omega
        · simp only [hg, hg2, Bool.and_true, if_true] at hkt
          have HK := Lib.hid hkt
          clear hkt
          go_wp2
          go_roundw
          case rel => exact ⟨k + 1, by omega, by go_num, by rw [HK.out]; go_num, _, rfl⟩
          case measure => simp [intOf]; omega
    · have hke : k = xs.length := by omega
      subst hke
      go_wp2
      go_ret
      exact ⟨by simp, _, rfl⟩

/-- the best window so far, going by a list -/
def best (f : Nat → Nat) (l : List Nat) (s : Nat × Nat) : Nat × Nat := l.foldl (fun s a => if s.1 < f a then (f a, a) else s) s
theorem best_take (f : Nat → Nat) (xs : List Nat) (k : Nat) (h : k < xs.length) (s : Nat × Nat) :
    best f (xs.take (k + 1)) s = if (best f (xs.take k) s).1 < f (xs.getD k 0) then (f (xs.getD k 0), xs.getD k 0) else best f (xs.take k) s := by
  unfold best
  rw [List.take_succ_eq_append_getElem h, List.foldl_append]
  have e : xs.getD k 0 = xs[k] := by simp [List.getD, h]
  rw [e]
  rfl
theorem best_le (f : Nat → Nat) (N : Nat) (hf : ∀ a, f a ≤ N) (l : List Nat) : ∀ s : Nat × Nat, s.1 ≤ N → (best f l s).1 ≤ N := by
  induction l with
  | nil => intro s h; exact h
  | cons a l ih =>
    intro s h
    show (best f l (if s.1 < f a then (f a, a) else s)).1 ≤ N
    split
    · exact ih _ (hf a)
    · exact ih _ h

set_option maxHeartbeats 1000000 in
theorem wmost_any (hS : SortOk Try.prog 34 35) (hS0 : SortNone Try.prog 34 35)
    (p : Option Addr) (ds : List Done) (cap wv : Nat) (w : World) (hc : ds.length ≤ 61) (hH : Hist w p ds) :
    Calls Try.prog 10 #[.slice p ds.length cap, .float .f64 wv] w fun e w' => (∃ xs : List Nat, xs.Perm (keep ds) ∧ xs.Pairwise (fun x y => 0 ≤ cmpT y x) ∧
      e = .returned (.tuple #[.int .i64 (best (many xs wv) xs (0, 0)).1, .float .f64 (best (many xs wv) xs (0, 0)).2])) ∧ Below w.heap.size w w' := by
  have HT := Lib.hid (fun w hH => wtimes_any hS hS0 p ds cap w hc hH)
  clear hS hS0
  have hH1 : Hist (w.alloc (.cells #[.float .f64 wv] 23)) p ds := hH.below ((Below.refl _ _).alloc (Nat.le_refl _) _)
  clear hH
  go_enter Try.func10, Try.ntmps10
  go_wp2_with (go_at_call 23; refine (HT.out _ hH1).mono ?_; rintro e w1 ⟨q, c, xs, rfl, hf, hp, hs, hb⟩)
  have hcw : w1.cell? ⟨w.heap.size, 0, none⟩ = some (.float .f64 wv) := by
    rw [hb.cell (p := ⟨w.heap.size, 0, none⟩) (by simp)]
    exact cell_of_one (heap_alloc_new w _)
  have hsz : w.heap.size < w1.heap.size := by have := hb.size; simp at this; omega
  have hB1 : Below w.heap.size w w1 := ((Below.refl _ _).alloc (Nat.le_refl _) _).trans (hb.mono (by simp))
  have hxl : xs.length ≤ 61 := by have := hp.length_eq; have := keep_len ds; omega
  obtain ⟨W, hW⟩ : ∃ W : World, W = w1.alloc (.cells #[.slice q xs.length c] 54) := ⟨_, rfl⟩
  have hBW : Below w1.heap.size w1 W := by rw [hW]; exact (Below.refl _ _).alloc (Nat.le_refl _) _
  have hfW : Floats W q xs := hf.below hBW
  have htW : W.cell? ⟨w1.heap.size, 0, none⟩ = some (.slice q xs.length c) := by rw [hW]; exact cell_of_one (heap_alloc_new w1 _)
  have hwW : W.cell? ⟨w.heap.size, 0, none⟩ = some (.float .f64 wv) := by rw [hBW.cell (p := ⟨w.heap.size, 0, none⟩) hsz]; exact hcw
  have hBw : Below w.heap.size w W := hB1.trans (hBW.mono (by omega))
  rw [← hW]
  clear hW hBW hf hb hB1 hcw hH1 HT
  have hbl := best_le (many xs wv) xs.length (fun a => List.countP_le_length) 
  go_loopw [8, 9, 18] (fun n f i wr => ∃ k : Nat, k ≤ xs.length ∧ i = .int .i64 k ∧ n = .int .i64 (best (many xs wv) (xs.take k) (0, 0)).1 ∧ f = .float .f64 (best (many xs wv) (xs.take k) (0, 0)).2 ∧ ∃ m, wr = W.drewN m) (fun _ _ i _ => xs.length - (intOf i).toNat)
  case atStart => exact ⟨0, Nat.zero_le _, rfl, rfl, rfl, 0, rfl⟩
  case round =>
    obtain ⟨k, hk, rfl, rfl, rfl, m, rfl⟩ := hrel
    have hbk := hbl (xs.take k) (0, 0) (Nat.zero_le _)
    clear hbl
    by_cases hlt : k < xs.length
    · have hcon := fun a => wmany_any q xs c w1.heap.size w.heap.size a wv (W.drewN m) hxl htW hwW hfW
      rcases hfW with h0 | ⟨b, off, rfl, hbl, hd⟩
      · subst h0; simp at hlt
      have hc := hd k hlt
      clear hd
      have hkt := best_take (many xs wv) xs k hlt (0, 0)
      generalize xs.getD k 0 = x at *
      generalize best (many xs wv) (xs.take k) (0, 0) = s at *
      have hml : many xs wv x ≤ xs.length := List.countP_le_length
      have HC := Lib.hid (hcon x)
      clear hcon
      generalize many xs wv x = M at *
      by_cases hg : s.1 < M
      · rw [if_pos hg] at hkt
        have HK := Lib.hid hkt
        clear hkt
        go_wp2_with (go_at_call 24; refine HC.out.mono ?_; rintro e w2 ⟨rfl, n2, rfl⟩)
        go_roundw
        case rel => exact ⟨k + 1, by omega, by go_num, by rw [HK.out], by rw [HK.out], _, rfl⟩
        case measure => simp [intOf]; omega
      · rw [if_neg hg] at hkt
        have HK := Lib.hid hkt
        clear hkt
        go_wp2_with (go_at_call 24; refine HC.out.mono ?_; rintro e w2 ⟨rfl, n2, rfl⟩)
        go_roundw
        case rel => exact ⟨k + 1, by omega, by go_num, by rw [HK.out], by rw [HK.out], _, rfl⟩
        case measure => simp [intOf]; omega
    · have hke : k = xs.length := by omega
      subst hke
      have ht : xs.take xs.length = xs := by simp
      rw [ht]
      clear ht
      go_wp2
      go_ret2
      exact ⟨⟨xs, hp, hs, rfl⟩, below_drewN_w hBw _⟩
end Go.Proofs.Ytjoclapnjnmlkaa
