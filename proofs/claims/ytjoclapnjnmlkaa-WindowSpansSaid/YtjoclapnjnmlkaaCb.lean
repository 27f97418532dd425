/- Walks: near pairs, by the program and by the document. -/
import Derived.Test.YtjoclapnjnmlkaaCa
set_option linter.unusedSimpArgs false
namespace Go.Proofs.Ytjoclapnjnmlkaa
open Go.RowKit

def fmx (x y : Nat) : Nat := if flt x y = true then y else x
def fmn (x y : Nat) : Nat := if flt x y = true then x else y
/-- are two times near, the greater one first -/
def nearS (d x y : Nat) : Bool := oLt (fsub x y) d
def nearM (d x y : Nat) : Bool := oLt (fsub (fmx x y) (fmn x y)) d
/-- how many pairs are near among the first -/
def pairs (f : Nat → Nat → Bool) (xs : List Nat) : Nat → Nat
  | 0 => 0
  | j + 1 => pairs f xs j + (xs.take j).countP (f (xs.getD j 0))
theorem pairs_le (f : Nat → Nat → Bool) (xs : List Nat) : ∀ j, j ≤ 61 → pairs f xs j ≤ j * 61 := by
  intro j
  induction j with
  | zero => intro _; exact Nat.le_refl _
  | succ j ih =>
    intro h
    have h1 := ih (by omega)
    have h2 : (xs.take j).countP (f (xs.getD j 0)) ≤ (xs.take j).length := List.countP_le_length
    have h3 := List.length_take_le j xs
    show pairs f xs j + (xs.take j).countP (f (xs.getD j 0)) ≤ _
    rw [Nat.succ_mul]
    omega
theorem cnt_step (f : Nat → Bool) (xs : List Nat) (k : Nat) (h : k < xs.length) : (xs.take (k + 1)).countP f = (xs.take k).countP f + if f (xs.getD k 0) then 1 else 0 := by
  rw [List.take_succ_eq_append_getElem h, List.countP_append]
  have e : xs.getD k 0 = xs[k] := by simp [List.getD, h]
  rw [e]
  simp [List.countP_cons]
theorem cnt_le' (f : Nat → Bool) (xs : List Nat) (k : Nat) : (xs.take k).countP f ≤ k := Nat.le_trans List.countP_le_length (List.length_take_le _ _)

set_option maxHeartbeats 1000000 in
theorem wtimes_cap (hS : SortOk Try.prog 34 35) (hS0 : SortNone Try.prog 34 35)
    (p : Option Addr) (ds : List Done) (cap : Nat) (w : World) (hc : ds.length ≤ 61) (hH : Hist w p ds) :
    Calls Try.prog 23 #[.slice p ds.length cap] w fun e w' => ∃ q c xs, e = .returned (.slice q xs.length c) ∧ Floats w' q xs ∧ xs.Perm (keep ds) ∧ xs.Pairwise (fun x y => 0 ≤ cmpT y x) ∧ Below w.heap.size w w' ∧ xs.length ≤ c := by
  obtain ⟨i0, hi, hz0, hz1, hz2⟩ := info_parts inf54
  have HS := Lib.hid hS
  have HS0 := Lib.hid hS0
  clear hS hS0
  go_enter Try.func23, Try.ntmps23
  go_wp2
  go_loopw [3, 10] (fun v i wr => ∃ k : Nat, k ≤ ds.length ∧ i = .int .i64 k ∧ wr.ownsRow w.heap.size 23 1 v (keep (ds.take k)).length ((keep (ds.take k)).map (Value.float .f64)) ∧ Below w.heap.size w wr) (fun _ i _ => ds.length - (intOf i).toNat)
  case atStart => exact ⟨0, Nat.zero_le _, rfl, World.ownsRow_nil _ _ _ _, Below.refl _ _⟩
  case round =>
    obtain ⟨k, hk, rfl, hown, hb⟩ := hrel
    have hl := keep_len (ds.take k)
    have hl2 := List.length_take_le k ds
    by_cases hlt : k < ds.length
    · rcases hH with h0 | ⟨b, off, rfl, hbl, hd⟩
      · subst h0; simp at hlt
      have hx := (hd k hlt).below hbl hb
      have hkt := keep_take ds k hlt
      have hs := hb.size
      generalize ds.getD k z0 = y at *
      obtain ⟨x, ya, yb, yc, yd, ye⟩ := y
      obtain ⟨c0, c1, c2, c3, c4, c5⟩ := hx
      cases hn : fnan x
      · have hN : normE x = 0 := by simp [normE, hn]
        simp only [hn, Bool.false_eq_true, if_false] at hkt
        have HK := Lib.hid hkt
        clear hkt
        go_wp2_with (first
          | (go_at_call 33; refine (norm_any _ _).mono ?_; rintro e w' ⟨rfl, rfl⟩)
          | (at_builtin; go_loud (refine wpList_append_own _ rfl _ _ 54 rfl w.heap.size 23 i0 (.float .f64 0) 1 8 Try.underlying54 hi hz0 hz1 hz2 rfl (by decide) _ _ _ rfl ((hown.alloc _).alloc _) ⟨wr.heap.size + 1, 0, none⟩ 1 1 [.float .f64 (normR x)] rfl rfl ?c1 ?c2 ?c3 ?c4 ?c5 ?_)))
        case c1 => exact news1 (wr.alloc _) _ _ (by simp)
        case c2 => exact one1 rfl
        case c3 => unfold maxLen; omega
        case c4 => omega
        case c5 => simp; omega
        intro v' w1 hown' hgr _
        go_wp2
        go_roundw
        case rel =>
          refine ⟨k + 1, by omega, by go_num, ?_, ?_⟩
          · rw [HK.out]; simpa using hown'
          · exact ((hb.alloc hs _).alloc (by simp; omega) _).grown hgr (by simp; omega) (fun q hq => (hown.lt q hq).1)
        case measure => simp [intOf]; omega
      · have hN : normE x = 7 := by simp [normE, hn]
        simp only [hn, if_true, List.append_nil] at hkt
        have HK := Lib.hid hkt
        clear hkt
        go_wp2_with (go_at_call 33; refine (norm_any _ _).mono ?_; rintro e w' ⟨rfl, rfl⟩)
        go_roundw
        case rel => exact ⟨k + 1, by omega, by go_num, by rw [HK.out]; exact hown.alloc _, hb.alloc hs _⟩
        case measure => simp [intOf]; omega
    · have hke : k = ds.length := by omega
      have ht : ds.take k = ds := by rw [hke]; simp
      rw [ht] at hown
      clear ht hl hl2
      obtain ⟨q, c, hv, hqc, hf, hq⟩ := Floats.own hown
      have hkl := keep_len ds
      clear hown
      obtain rfl := hke
      subst hv
      rcases hf with h0 | ⟨b, off, rfl, hbl, hd⟩
      · have hl0 : (keep ds).length = 0 := by rw [h0]; rfl
        have H0 := Lib.hid h0
        clear h0
        rw [hl0]
        go_wp2_with (go_at_call 34; refine (HS0.out _ _ _).mono ?_; rintro e w' ⟨rfl, rfl⟩)
        go_ret
        exact ⟨q, c, [], rfl, .inl rfl, by rw [H0.out], List.Pairwise.nil, hb, Nat.zero_le _⟩
      · obtain ⟨hbb, hfr⟩ := hq _ rfl
        simp only at hbb hfr
        have hs := hb.size
        generalize hx : keep ds = xs at *
        have HX := Lib.hid hx
        clear hx
        by_cases hne : xs = []
        · subst hne
          go_wp2_with (go_at_call 34; refine (HS0.out _ _ _).mono ?_; rintro e w' ⟨rfl, rfl⟩)
          go_ret
          exact ⟨_, c, [], rfl, .inl rfl, by rw [HX.out], List.Pairwise.nil, hb, Nat.zero_le _⟩
        · have hcon := HS.out b off c xs wr (by omega) hbl hne (fun i hi => ⟨hd i hi, hfr i hi⟩)
          have hl := hb.size
          clear hd hfr hq
          go_wp2_with (go_at_call 34; refine hcon.mono ?_; rintro e w' ⟨rfl, hpost⟩)
          go_ret
          obtain ⟨ys, h1, h2, h3, h4⟩ := hpost
          have hlen := h1.length_eq
          refine ⟨some ⟨b, off, none⟩, c, ys, by rw [hlen]; rfl, .inr ⟨b, off, rfl, ?_, fun i hi => h3 i (by omega)⟩, by rw [HX.out]; exact h1, h2, hb.trans (h4 _ hbb hl), by omega⟩
          exact Nat.lt_of_lt_of_le hbl (h4 0 (Nat.zero_le _) (Nat.zero_le _)).size

set_option maxHeartbeats 400000 in
theorem wnear_any (a b bd d : Nat) (w : World) (hd : w.cell? ⟨bd, 0, none⟩ = some (.float .f64 d)) :
    Calls Try.prog 32 #[.float .f64 a, .float .f64 b, .pointer (some ⟨bd, 0, none⟩)] w fun e w' => e = .returned (.bool (nearS d b a)) ∧ ∃ n, w' = w.drewN n := by
  go_enter Try.func32, Try.ntmps32
  go_wp2
  go_ret
  exact ⟨rfl, _, rfl⟩

set_option maxHeartbeats 1000000 in
theorem wclose_any (hS : SortOk Try.prog 34 35) (hS0 : SortNone Try.prog 34 35)
    (p : Option Addr) (ds : List Done) (cap dv : Nat) (w : World) (hc : ds.length ≤ 61) (hH : Hist w p ds) :
    Calls Try.prog 21 #[.slice p ds.length cap, .float .f64 dv] w fun e w' => (∃ xs : List Nat, xs.Perm (keep ds) ∧ xs.Pairwise (fun x y => 0 ≤ cmpT y x) ∧
      e = .returned (.int .i64 (pairs (nearS dv) xs xs.length))) ∧ Below w.heap.size w w' := by
  have HT := Lib.hid (fun w hH => wtimes_cap hS hS0 p ds cap w hc hH)
  clear hS hS0
  have hH1 : Hist (w.alloc (.cells #[.float .f64 dv] 23)) p ds := hH.below ((Below.refl _ _).alloc (Nat.le_refl _) _)
  clear hH
  go_enter Try.func21, Try.ntmps21
  go_wp2_with (go_at_call 23; refine (HT.out _ hH1).mono ?_; rintro e w1 ⟨q, c, xs, rfl, hf, hp, hs, hb, hlc⟩)
  have hcw : w1.cell? ⟨w.heap.size, 0, none⟩ = some (.float .f64 dv) := by
    rw [hb.cell (p := ⟨w.heap.size, 0, none⟩) (by simp)]
    exact cell_of_one (heap_alloc_new w _)
  have hB1 : Below w.heap.size w w1 := ((Below.refl _ _).alloc (Nat.le_refl _) _).trans (hb.mono (by simp))
  have hxl : xs.length ≤ 61 := by have := hp.length_eq; have := keep_len ds; omega
  generalize hbd : w.heap.size = bd at *
  have HBD := Lib.hid hbd
  clear hbd
  clear hb hH1 HT
  have HP := Lib.hid hp
  have HS := Lib.hid hs
  have HN := Lib.hid (fun a b m => wnear_any a b bd dv (w1.drewN m) hcw)
  have HL := Lib.hid (pairs_le (nearS dv) xs)
  clear hp hs hcw
  go_loopw [7, 17] (fun n i wr => ∃ j : Nat, j ≤ xs.length ∧ i = .int .i64 (j : Int) ∧ n = .int .i64 (pairs (nearS dv) xs j) ∧ ∃ m, wr = w1.drewN m) (fun _ i _ => xs.length - (intOf i).toNat)
  case atStart => exact ⟨0, Nat.zero_le _, rfl, rfl, 0, rfl⟩
  case round =>
    obtain ⟨j, hj, rfl, rfl, m, rfl⟩ := hrel
    have hle := HL.out j (by omega)
    by_cases hlt : j < xs.length
    · rcases hf with h0 | ⟨b, off, rfl, hbl, hd⟩
      · subst h0; simp at hlt
      have hx := hd j hlt
      have HD := Lib.hid hd
      clear hd
      have hst : pairs (nearS dv) xs (j + 1) = pairs (nearS dv) xs j + (xs.take j).countP (nearS dv (xs.getD j 0)) := rfl
      have HJ := Lib.hid hst
      clear hst
      generalize xs.getD j 0 = x at *
      generalize pairs (nearS dv) xs j = P at *
      go_wp2
      go_hide hQ
      go_loopw [7, 26] (fun n i wr => ∃ k : Nat, k ≤ j ∧ i = .int .i64 (k : Int) ∧ n = .int .i64 ((P + (xs.take k).countP (nearS dv x) : Nat) : Int) ∧ ∃ m, wr = w1.drewN m) (fun _ i _ => j - (intOf i).toNat)
      case atStart => exact ⟨0, Nat.zero_le _, rfl, by simp, _, rfl⟩
      case round =>
        obtain ⟨k, hk, rfl, rfl, m2, rfl⟩ := hrel
        have hck := cnt_le' (nearS dv x) xs k
        by_cases hkl : k < j
        · have hy := HD.out k (by omega)
          have hkt := cnt_step (nearS dv x) xs k (by omega)
          generalize (xs.take k).countP (nearS dv x) = C at *
          generalize xs.getD k 0 = y at *
          have HK := Lib.hid hkt
          clear hkt
          cases g1 : nearS dv x y
          · go_wp2_with (go_at_call 32; refine (HN.out y x m2).mono ?_; rw [g1]; rintro e w2 ⟨rfl, n2, rfl⟩)
            go_roundw
            case rel => exact ⟨k + 1, by omega, by go_num, by rw [HK.out, g1]; rfl, _, rfl⟩
            case measure => simp [intOf]; omega
          · go_wp2_with (go_at_call 32; refine (HN.out y x m2).mono ?_; rw [g1]; rintro e w2 ⟨rfl, n2, rfl⟩)
            go_roundw
            case rel => exact ⟨k + 1, by omega, by go_num, by rw [HK.out, g1]; go_num, _, rfl⟩
            case measure => simp [intOf]; omega
        · have hke : k = j := by omega
          subst hke
          subst hQ
          go_wp2
          exact ⟨⟨k + 1, by omega, by go_num, by rw [HJ.out], _, rfl⟩, by simp [intOf]; omega⟩
    · have hke : j = xs.length := by omega
      subst hke
      go_wp2
      go_ret
      exact ⟨⟨xs, HP.out, HS.out, rfl⟩, by rw [HBD.out]; exact below_drewN_w hB1 _⟩
end Go.Proofs.Ytjoclapnjnmlkaa
