/- Walks: what must come at any rate. -/
import Derived.Test.YtjoclapnjnmlkaaWi
import Derived.Test.YtjoclapnjnmlkaaPm
set_option linter.unusedSimpArgs false
namespace Go.Proofs.Ytjoclapnjnmlkaa
open Go.RowKit

def ds4 : List Done := [⟨4613937818241073152, 0, 0, 0, 0, 0⟩, ⟨4607182418800017408, 0, 0, 0, 0, 0⟩, ⟨4609434218613702656, 0, 0, 0, 0, 0⟩, ⟨9221120237041090561, 0, 0, 0, 0, 0⟩]
theorem ds4_keep : keep ds4 = [4613937818241073152, 4607182418800017408, 4609434218613702656] := by decide +kernel
theorem ds4_small : ∀ x ∈ ds4, x.t < 18446744073709551616 := by decide
theorem ds4_kept : ∀ x ∈ keep ds4, fkept x := fun _ h => kept_of ds4_small h

theorem aw_most (cap : Nat) (p : Option Addr) (w : World) (hH : Hist w p ds4) :
    Calls Try.prog 10 #[.slice p 4 cap, .float .f64 4607182418800017408] w fun e w' => e = .returned (.tuple #[.int .i64 2, .float .f64 4607182418800017408]) ∧ Below w.heap.size w w' :=
  (wmost_any sort_ok sort_none p ds4 cap 4607182418800017408 w (by decide) hH).mono fun e w' ⟨⟨xs, hp, hs, he⟩, hb⟩ => by
    refine ⟨?_, hb⟩
    rw [he, most_eq _ ds4_kept hp (srt_of hs), ds4_keep]
    have : rbest (many [4613937818241073152, 4607182418800017408, 4609434218613702656] 4607182418800017408) [4613937818241073152, 4607182418800017408, 4609434218613702656] (0, 0) = (2, 4607182418800017408) := by decide +kernel
    rw [this]
    rfl
theorem aw_gap (cap : Nat) (p : Option Addr) (w : World) (hH : Hist w p ds4) :
    Calls Try.prog 17 #[.slice p 4 cap] w fun e w' => e = .returned (.tuple #[.float .f64 4609434218613702656, .bool true]) ∧ Below w.heap.size w w' :=
  (wgap_any sort_ok sort_none p ds4 cap w (by decide) hH).mono fun e w' ⟨⟨xs, hp, hs, he⟩, hb⟩ => by
    refine ⟨?_, hb⟩
    rw [he, gap_eq ds4_kept hp (srt_of hs), ds4_keep]
    have : rgap [4613937818241073152, 4607182418800017408, 4609434218613702656] [4613937818241073152, 4607182418800017408, 4609434218613702656] = 4609434218613702656 := by decide +kernel
    rw [this, hp.length_eq, ds4_keep]
    rfl
def f201 (i : Nat) : Nat := if i = 0 then 2 else if i = 1 then 0 else 1
theorem Counts.congr {w : World} {v : Value} {n : Nat} {f g : Nat → Nat} (h : Counts w v n f) (hfg : ∀ i, i < n → f i = g i) : Counts w v n g := by
  obtain ⟨q, c, h1, h2, h3⟩ := h
  refine ⟨q, c, h1, h2, ?_⟩
  rcases h3 with h3 | ⟨b, off, h4, h5, h6⟩
  · exact .inl h3
  · exact .inr ⟨b, off, h4, h5, fun i hi => by rw [h6 i hi, hfg i hi]⟩
theorem Counts.below {w w' : World} {v : Value} {n : Nat} {f : Nat → Nat} (h : Counts w v n f) (hb : Below w.heap.size w w') : Counts w' v n f := by
  obtain ⟨q, c, h1, h2, h3⟩ := h
  refine ⟨q, c, h1, h2, ?_⟩
  rcases h3 with h3 | ⟨b, off, h4, h5, h6⟩
  · exact .inl h3
  · exact .inr ⟨b, off, h4, Nat.lt_of_lt_of_le h5 hb.size, fun i hi => by rw [hb.cell h5]; exact h6 i hi⟩
theorem aw_parts (cap : Nat) (p : Option Addr) (w : World) (hH : Hist w p ds4) :
    Calls Try.prog 14 #[.slice p 4 cap, .float .f64 4607182418800017408, .float .f64 4607182418800017408, .int .i64 3] w fun e w' => (∃ v, e = .returned (.tuple #[v, .int .i64 0]) ∧ Counts w' v 3 f201) ∧ Below w.heap.size w w' :=
  (wparts_any sort_ok sort_none p ds4 cap 4607182418800017408 4607182418800017408 3 w (by decide) hH (by decide) (by decide)).mono fun e w' ⟨⟨v, he, hc⟩, hb⟩ => by
    have e1 : pErr 4607182418800017408 4607182418800017408 3 = 0 := by decide +kernel
    have e2 : pN 4607182418800017408 4607182418800017408 3 = 3 := by unfold pN; rw [e1]; rfl
    rw [e1] at he
    rw [e2, ds4_keep] at hc
    refine ⟨⟨v, he, hc.congr fun i hi => ?_⟩, hb⟩
    have : ∀ i, i < 3 → cntL 4607182418800017408 4607182418800017408 [4613937818241073152, 4607182418800017408, 4609434218613702656] i = f201 i := by decide +kernel
    exact this i hi

def cells4 : Array Value := #[Value.float FloatKind.f64 4613937818241073152, Value.int IntKind.i64 0, Value.int IntKind.i64 0,
        Value.int IntKind.i64 0, Value.int IntKind.i64 0, Value.int IntKind.i64 0,
        Value.float FloatKind.f64 4607182418800017408, Value.int IntKind.i64 0, Value.int IntKind.i64 0,
        Value.int IntKind.i64 0, Value.int IntKind.i64 0, Value.int IntKind.i64 0,
        Value.float FloatKind.f64 4609434218613702656, Value.int IntKind.i64 0, Value.int IntKind.i64 0,
        Value.int IntKind.i64 0, Value.int IntKind.i64 0, Value.int IntKind.i64 0,
        Value.float FloatKind.f64 9221120237041090561, Value.int IntKind.i64 0, Value.int IntKind.i64 0,
        Value.int IntKind.i64 0, Value.int IntKind.i64 0, Value.int IntKind.i64 0]
theorem hist4 (w : World) (T : TypeId) : Hist (w.alloc (.cells cells4 T)) (some ⟨w.heap.size, 0, none⟩) ds4 := by
  have hh := heap_alloc_new w (.cells cells4 T)
  refine .inr ⟨w.heap.size, 0, rfl, by simp, fun i hi => ?_⟩
  have hi4 : i < 4 := hi
  have hc : ∀ j, (w.alloc (.cells cells4 T)).cell? ⟨w.heap.size, j, none⟩ = cells4[j]? := fun j => cell_of_row _ _ j _ _ _ hh
  have h4 : i = 0 ∨ i = 1 ∨ i = 2 ∨ i = 3 := by omega
  rcases h4 with rfl | rfl | rfl | rfl <;> exact ⟨by rw [hc]; rfl, by rw [hc]; rfl, by rw [hc]; rfl, by rw [hc]; rfl, by rw [hc]; rfl, by rw [hc]; rfl⟩
theorem counts201 (w : World) (T : TypeId) : Counts (w.alloc (.cells #[.int .i64 2, .int .i64 0, .int .i64 1] T)) (.slice (some ⟨w.heap.size, 0, none⟩) 3 3) 3 f201 := by
  have hh := heap_alloc_new w (.cells #[.int .i64 2, .int .i64 0, .int .i64 1] T)
  refine ⟨_, 3, rfl, Nat.le_refl _, .inr ⟨w.heap.size, 0, rfl, by simp, fun i hi => ?_⟩⟩
  rw [cell_of_row _ _ _ _ _ _ hh]
  have h4 : i = 0 ∨ i = 1 ∨ i = 2 := by omega
  rcases h4 with rfl | rfl | rfl <;> rfl

set_option maxHeartbeats 2000000 in
theorem awake_any (w : World) :
    Calls Try.prog 12 #[] w fun e w' => e = .returned (.bool true) ∧ Below w.heap.size w w' := by
  have H1 := Lib.hid aw_most
  have H2 := Lib.hid aw_gap
  have H3 := Lib.hid aw_parts
  go_enter Try.func12, Try.ntmps12
  go_wp2_with fail
  refine (at_any _ _).mono ?_
  rintro e w1 ⟨rfl, b1⟩
  go_wp2_with fail
  refine (at_any _ _).mono ?_
  rintro e w2 ⟨rfl, b2⟩
  go_wp2_with fail
  refine (at_any _ _).mono ?_
  rintro e w3 ⟨rfl, b3⟩
  go_wp2_with (go_at_call 27; refine (nan_any _).mono ?_; rintro e w' ⟨rfl, rfl⟩)
  refine (at_any _ _).mono ?_
  rintro e w4 ⟨rfl, b4⟩
  have hb4 : Below w.heap.size w w4 := ((b1.trans (b2.mono b1.size)).trans (b3.mono (Nat.le_trans b1.size b2.size))).trans (b4.mono (Nat.le_trans b1.size (Nat.le_trans b2.size b3.size)))
  clear b1 b2 b3 b4
  go_wp2_with fail
  have hh := hist4 w4 46
  unfold cells4 at hh
  refine (H1.out _ _ _ hh).mono ?_
  rintro e w5 ⟨rfl, b5⟩
  have hh5 := hh.below b5
  have hb5 : Below w.heap.size w w5 := (hb4.alloc hb4.size _).trans (b5.mono (by have := hb4.size; simp; omega))
  clear b5 hh hb4
  go_wp2_with fail
  refine (H3.out _ _ _ hh5).mono ?_
  rintro e w6 ⟨⟨v, rfl, hv⟩, b6⟩
  have hh6 := hh5.below b6
  have hb6 : Below w.heap.size w w6 := hb5.trans (b6.mono hb5.size)
  clear b6 hh5 hb5
  go_wp2_with fail
  refine (H2.out _ _ _ hh6).mono ?_
  rintro e w7 ⟨rfl, b7⟩
  have hv7 := hv.below b7
  have hb7 : Below w.heap.size w w7 := hb6.trans (b7.mono hb6.size)
  clear b7 hh6 hb6 hv
  have HV := Lib.hid hv7
  clear hv7
  go_wp2_with fail
  refine (ints_eq v _ 3 f201 _ (by omega) (HV.out.below ((Below.refl _ _).alloc (Nat.le_refl _) _)) (counts201 w7 _)).mono ?_
  rintro e w8 ⟨rfl, m, rfl⟩
  go_wp2_with fail
  go_ret
  exact ⟨rfl, below_drewN_w (hb7.alloc hb7.size _) m⟩
end Go.Proofs.Ytjoclapnjnmlkaa
