/- Walks: the times of a history. -/
import Derived.Test.YtjoclapnjnmlkaaWb
import Derived.Lib.Hide
set_option linter.unusedSimpArgs false
namespace Go.Proofs.Ytjoclapnjnmlkaa
open Go.RowKit

/-- an event as it lies in memory -/
structure Done where
  t : Nat
  a : Int
  b : Int
  c : Int
  d : Int
  f : Int
def z0 : Done := ⟨0, 0, 0, 0, 0, 0⟩

/-- the six cells of an event -/
structure DoneAt (w : World) (b o : Nat) (x : Done) : Prop where
  c0 : w.cell? ⟨b, o, none⟩ = some (.float .f64 x.t)
  c1 : w.cell? ⟨b, o + 1, none⟩ = some (.int .i64 x.a)
  c2 : w.cell? ⟨b, o + 2, none⟩ = some (.int .i64 x.b)
  c3 : w.cell? ⟨b, o + 3, none⟩ = some (.int .i64 x.c)
  c4 : w.cell? ⟨b, o + 4, none⟩ = some (.int .i64 x.d)
  c5 : w.cell? ⟨b, o + 5, none⟩ = some (.int .i64 x.f)

/-- a history lies at a slice -/
def Hist (w : World) (p : Option Addr) (ds : List Done) : Prop :=
  ds = [] ∨ ∃ b off, p = some ⟨b, off, none⟩ ∧ b < w.heap.size ∧ ∀ i, i < ds.length → DoneAt w b (off + i * 6) (ds.getD i z0)

/-- a row of floats lies at a slice -/
def Floats (w : World) (p : Option Addr) (xs : List Nat) : Prop :=
  xs = [] ∨ ∃ b off, p = some ⟨b, off, none⟩ ∧ b < w.heap.size ∧ ∀ i, i < xs.length → w.cell? ⟨b, off + i, none⟩ = some (.float .f64 (xs.getD i 0))

theorem DoneAt.below {w w' : World} {b o : Nat} {x : Done} (h : DoneAt w b o x) (hb : b < w.heap.size) (hw : Below w.heap.size w w') : DoneAt w' b o x :=
  ⟨by rw [hw.cell hb]; exact h.c0, by rw [hw.cell hb]; exact h.c1, by rw [hw.cell hb]; exact h.c2, by rw [hw.cell hb]; exact h.c3, by rw [hw.cell hb]; exact h.c4, by rw [hw.cell hb]; exact h.c5⟩
theorem Hist.below {w w' : World} {p : Option Addr} {ds : List Done} (h : Hist w p ds) (hw : Below w.heap.size w w') : Hist w' p ds := by
  rcases h with h | ⟨b, off, h1, h2, h3⟩
  · exact .inl h
  · exact .inr ⟨b, off, h1, Nat.lt_of_lt_of_le h2 hw.size, fun i hi => (h3 i hi).below h2 hw⟩
theorem Floats.below {w w' : World} {p : Option Addr} {xs : List Nat} (h : Floats w p xs) (hw : Below w.heap.size w w') : Floats w' p xs := by
  rcases h with h | ⟨b, off, h1, h2, h3⟩
  · exact .inl h
  · exact .inr ⟨b, off, h1, Nat.lt_of_lt_of_le h2 hw.size, fun i hi => by rw [hw.cell h2]; exact h3 i hi⟩

/-- the times that are kept -/
def keep (ds : List Done) : List Nat := ds.filterMap fun x => if fnan x.t then none else some (normR x.t)

theorem keep_take (ds : List Done) (k : Nat) (h : k < ds.length) : keep (ds.take (k + 1)) = keep (ds.take k) ++ (if fnan (ds.getD k z0).t then [] else [normR (ds.getD k z0).t]) := by
  rw [List.take_succ_eq_append_getElem h]
  unfold keep
  rw [List.filterMap_append]
  have e : ds.getD k z0 = ds[k] := by simp [List.getD, h]
  rw [e]
  by_cases hn : fnan ds[k].t <;> simp [hn]
theorem keep_len (ds : List Done) : (keep ds).length ≤ ds.length := List.length_filterMap_le _ _

theorem news1 (w : World) (v : Value) (t : TypeId) {g : Nat} (hg : g = w.heap.size) : ∀ j u, [v][j]? = some u → (w.alloc (.cells #[v] t)).cell? ((⟨g, 0, none⟩ : Addr).add j) = some u := by
  subst hg
  intro j u h
  cases j with
  | zero => simp at h; subst h; show World.cell? _ (⟨w.heap.size, 0, none⟩ : Addr) = _; unfold World.cell?; rw [heap_alloc_new]; rfl
  | succ j => simp at h
theorem one1 {v : Value} (h : v.oneCell' = true) : ∀ u ∈ [v], u.oneCell' = true := by
  intro u hu
  simp at hu
  rw [hu]; exact h

theorem Floats.own {w : World} {B : Nat} {T : TypeId} {v : Value} {xs : List Nat} (h : w.ownsRow B T 1 v xs.length (xs.map (Value.float .f64))) :
    ∃ p cap, v = .slice p xs.length cap ∧ xs.length ≤ cap ∧ Floats w p xs ∧ (∀ a, p = some a → B ≤ a.block ∧ ∀ i, i < xs.length → w.frozen? ⟨a.block, a.off + i, none⟩ = false) := by
  rcases h.2 with ⟨rfl, h0⟩ | ⟨g, cap, cur, rfl, hg, hh, hn, _, hs, ht⟩
  · have : xs = [] := List.length_eq_zero_iff.1 h0
    subst this
    exact ⟨none, 0, rfl, Nat.le_refl _, .inl rfl, fun a ha => by cases ha⟩
  · refine ⟨_, cap, rfl, hn, .inr ⟨g, 0, rfl, (Array.getElem?_eq_some_iff.1 hh).1, fun i hi => ?_⟩, fun a ha => ?_⟩
    · rw [cell_of_row w g (0 + i) cur T (0, 0) hh]
      have e : (xs.map (Value.float .f64))[i]? = some (.float .f64 (xs.getD i 0)) := by simp [hi]
      rw [← ht, List.getElem?_take] at e
      split at e
      · simpa using e
      · cases e
    · cases ha
      exact ⟨hg, fun i _ => frozen_of_row w g (0 + i) cur T hh⟩

theorem inf54 : (Try.prog.info? 23).map (fun i => (i.zero, i.size, i.bytes)) = some (some (.float .f64 0), 1, 8) := by kernel_rfl

set_option maxHeartbeats 400000 in
theorem rtimes_own (p : Option Addr) (ds : List Done) (cap : Nat) (w : World) (hc : ds.length ≤ 61) (hH : Hist w p ds) :
    Calls Try.prog 25 #[.slice p ds.length cap] w fun e w' => ∃ v, e = .returned v ∧ w'.ownsRow w.heap.size 23 1 v (keep ds).length ((keep ds).map (Value.float .f64)) ∧ Below w.heap.size w w' := by
  obtain ⟨i0, hi, hz0, hz1, hz2⟩ := info_parts inf54
  go_enter Try.func25, Try.ntmps25
  go_wp2
  go_loopw [3, 4] (fun v i wr => ∃ k : Nat, k ≤ ds.length ∧ i = .int .i64 k ∧ wr.ownsRow w.heap.size 23 1 v (keep (ds.take k)).length ((keep (ds.take k)).map (Value.float .f64)) ∧ Below w.heap.size w wr) (fun _ i _ => ds.length - (intOf i).toNat)
  case atStart => exact ⟨0, Nat.zero_le _, rfl, World.ownsRow_nil _ _ _ _, Below.refl _ _⟩
  case round =>
    obtain ⟨k, hk, rfl, hown, hb⟩ := hrel
    have hl := keep_len (ds.take k)
    have hl2 := List.length_take_le k ds
    by_cases hlt : k < ds.length
    · rcases hH with h0 | ⟨b, off, rfl, hbl, hd⟩
      · subst h0; simp at hlt
      have hx := (hd k hlt).below hbl hb
      obtain ⟨c0, _, _, _, _, _⟩ := hx
      have hkt := keep_take ds k hlt
      have hs := hb.size
      generalize (ds.getD k z0).t = x at *
      cases hn : fnan x
      · have hN : normE x = 0 := by simp [normE, hn]
        rw [hn] at hkt
        simp only [Bool.false_eq_true, if_false] at hkt
        have HK := Lib.hid hkt
        clear hkt
        go_wp2_with (first
          | (go_at_call 36; refine (rnorm_any _ _).mono ?_; rintro e w' ⟨rfl, rfl⟩)
          | (at_builtin; go_loud (refine wpList_append_own _ rfl _ _ 54 rfl w.heap.size 23 i0 (.float .f64 0) 1 8 Try.underlying54 hi hz0 hz1 hz2 rfl (by decide) _ _ _ rfl (hown.alloc _) ⟨wr.heap.size, 0, none⟩ 1 1 [.float .f64 (normR x)] rfl rfl ?c1 ?c2 ?c3 ?c4 ?c5 ?_)))
        case c1 => exact news1 _ _ _ rfl
        case c2 => exact one1 rfl
        case c3 => unfold maxLen; omega
        case c4 => omega
        case c5 => simp; omega
        intro v' w1 hown' hgr _
        go_wp2
        go_roundw
        case rel =>
          refine ⟨k + 1, by omega, by go_num, ?_, ?_⟩
          · rw [HK.out]; simpa using hown'
          · exact (hb.alloc hs _).grown hgr (by simp; omega) (fun q hq => (hown.lt q hq).1)
        case measure => simp [intOf]; omega
      · have hN : normE x = 7 := by simp [normE, hn]
        rw [hn] at hkt
        simp only [if_true, List.append_nil] at hkt
        have HK := Lib.hid hkt
        clear hkt
        go_wp2_with (go_at_call 36; refine (rnorm_any _ _).mono ?_; rintro e w' ⟨rfl, rfl⟩)
        go_roundw
        case rel => exact ⟨k + 1, by omega, by go_num, by rw [HK.out]; exact hown, hb⟩
        case measure => simp [intOf]; omega
    · have hke : k = ds.length := by omega
      have ht : ds.take k = ds := by rw [hke]; simp
      rw [ht] at hown
      go_wp2
      go_ret
      exact ⟨_, rfl, hown, hb⟩

theorem rtimes_any (p : Option Addr) (ds : List Done) (cap : Nat) (w : World) (hc : ds.length ≤ 61) (hH : Hist w p ds) :
    Calls Try.prog 25 #[.slice p ds.length cap] w fun e w' => ∃ q c, e = .returned (.slice q (keep ds).length c) ∧ Floats w' q (keep ds) ∧ Below w.heap.size w w' :=
  (rtimes_own p ds cap w hc hH).mono fun e w' ⟨v, he, ho, hb⟩ => by
    obtain ⟨q, c, rfl, _, hf, _⟩ := Floats.own ho
    exact ⟨q, c, he, hf, hb⟩

/-- what the sort must give -/
def SortOk (P : Program) (f g : FuncId) : Prop := ∀ (b off cap : Nat) (xs : List Nat) (w : World), xs.length < 4611686018427387904 → b < w.heap.size → xs ≠ [] →
  (∀ i, i < xs.length → w.cell? ⟨b, off + i, none⟩ = some (.float .f64 (xs.getD i 0)) ∧ w.frozen? ⟨b, off + i, none⟩ = false) →
  Calls P f #[.slice (some ⟨b, off, none⟩) xs.length cap, .func (.func g) #[] #[]] w fun e w' => e = .returned (.tuple #[]) ∧
    ∃ ys : List Nat, ys.Perm xs ∧ ys.Pairwise (fun x y => 0 ≤ cmpT y x) ∧ (∀ i, i < xs.length → w'.cell? ⟨b, off + i, none⟩ = some (.float .f64 (ys.getD i 0))) ∧ ∀ B, B ≤ b → B ≤ w.heap.size → Below B w w'
def SortNone (P : Program) (f g : FuncId) : Prop := ∀ (p : Option Addr) (cap : Nat) (w : World), Calls P f #[.slice p 0 cap, .func (.func g) #[] #[]] w fun e w' => e = .returned (.tuple #[]) ∧ w = w'

set_option maxHeartbeats 1000000 in
theorem wtimes_own (hS : SortOk Try.prog 34 35) (hS0 : SortNone Try.prog 34 35)
    (p : Option Addr) (ds : List Done) (cap : Nat) (w : World) (hc : ds.length ≤ 61) (hH : Hist w p ds) :
    Calls Try.prog 23 #[.slice p ds.length cap] w fun e w' => ∃ q c xs, e = .returned (.slice q xs.length c) ∧ Floats w' q xs ∧ xs.Perm (keep ds) ∧ xs.Pairwise (fun x y => 0 ≤ cmpT y x) ∧ Below w.heap.size w w' ∧ ∀ a, q = some a → w.heap.size ≤ a.block := by
  obtain ⟨i0, hi, hz0, hz1, hz2⟩ := info_parts inf54
  have HS := Lib.hid hS
  have HS0 := Lib.hid hS0
  clear hS hS0
  go_enter Try.func23, Try.ntmps23
  go_wp2
  go_loopw [3, 10] (fun v i wr => ∃ k : Nat, k ≤ ds.length ∧ i = .int .i64 k ∧ wr.ownsRow w.heap.size 23 1 v (keep (ds.take k)).length ((keep (ds.take k)).map (Value.float .f64)) ∧ Below w.heap.size w wr) (fun _ i _ => ds.length - (intOf i).toNat)
  case atStart => exact ⟨0, Nat.zero_le _, rfl, World.ownsRow_nil _ _ _ _, Below.refl _ _⟩
  case round =>
    obtain ⟨k, hk, rfl, hown, hb⟩ := hrel
    have hl := keep_len (ds.take k)
    have hl2 := List.length_take_le k ds
    by_cases hlt : k < ds.length
    · rcases hH with h0 | ⟨b, off, rfl, hbl, hd⟩
      · subst h0; simp at hlt
      have hx := (hd k hlt).below hbl hb
      have hkt := keep_take ds k hlt
      have hs := hb.size
      generalize ds.getD k z0 = y at *
      obtain ⟨x, ya, yb, yc, yd, ye⟩ := y
      obtain ⟨c0, c1, c2, c3, c4, c5⟩ := hx
      cases hn : fnan x
      · have hN : normE x = 0 := by simp [normE, hn]
        simp only [hn, Bool.false_eq_true, if_false] at hkt
        have HK := Lib.hid hkt
        clear hkt
        go_wp2_with (first
          | (go_at_call 33; refine (norm_any _ _).mono ?_; rintro e w' ⟨rfl, rfl⟩)
          | (at_builtin; go_loud (refine wpList_append_own _ rfl _ _ 54 rfl w.heap.size 23 i0 (.float .f64 0) 1 8 Try.underlying54 hi hz0 hz1 hz2 rfl (by decide) _ _ _ rfl ((hown.alloc _).alloc _) ⟨wr.heap.size + 1, 0, none⟩ 1 1 [.float .f64 (normR x)] rfl rfl ?c1 ?c2 ?c3 ?c4 ?c5 ?_)))
        case c1 => exact news1 (wr.alloc _) _ _ (by simp)
        case c2 => exact one1 rfl
        case c3 => unfold maxLen; omega
        case c4 => omega
        case c5 => simp; omega
        intro v' w1 hown' hgr _
        go_wp2
        go_roundw
        case rel =>
          refine ⟨k + 1, by omega, by go_num, ?_, ?_⟩
          · rw [HK.out]; simpa using hown'
          · exact ((hb.alloc hs _).alloc (by simp; omega) _).grown hgr (by simp; omega) (fun q hq => (hown.lt q hq).1)
        case measure => simp [intOf]; omega
      · have hN : normE x = 7 := by simp [normE, hn]
        simp only [hn, if_true, List.append_nil] at hkt
        have HK := Lib.hid hkt
        clear hkt
        go_wp2_with (go_at_call 33; refine (norm_any _ _).mono ?_; rintro e w' ⟨rfl, rfl⟩)
        go_roundw
        case rel => exact ⟨k + 1, by omega, by go_num, by rw [HK.out]; exact hown.alloc _, hb.alloc hs _⟩
        case measure => simp [intOf]; omega
    · have hke : k = ds.length := by omega
      have ht : ds.take k = ds := by rw [hke]; simp
      rw [ht] at hown
      clear ht hl hl2
      obtain ⟨q, c, hv, hqc, hf, hq⟩ := Floats.own hown
      have hkl := keep_len ds
      clear hown
      obtain rfl := hke
      subst hv
      rcases hf with h0 | ⟨b, off, rfl, hbl, hd⟩
      · have hl0 : (keep ds).length = 0 := by rw [h0]; rfl
        have H0 := Lib.hid h0
        clear h0
        rw [hl0]
        go_wp2_with (go_at_call 34; refine (HS0.out _ _ _).mono ?_; rintro e w' ⟨rfl, rfl⟩)
        go_ret
        exact ⟨q, c, [], rfl, .inl rfl, by rw [H0.out], List.Pairwise.nil, hb, fun a ha => (hq a ha).1⟩
      · obtain ⟨hbb, hfr⟩ := hq _ rfl
        simp only at hbb hfr
        have hs := hb.size
        generalize hx : keep ds = xs at *
        have HX := Lib.hid hx
        clear hx
        by_cases hne : xs = []
        · subst hne
          go_wp2_with (go_at_call 34; refine (HS0.out _ _ _).mono ?_; rintro e w' ⟨rfl, rfl⟩)
          go_ret
          exact ⟨_, c, [], rfl, .inl rfl, by rw [HX.out], List.Pairwise.nil, hb, fun a ha => by cases ha; exact hbb⟩
        · have hcon := HS.out b off c xs wr (by omega) hbl hne (fun i hi => ⟨hd i hi, hfr i hi⟩)
          have hl := hb.size
          clear hd hfr hq
          go_wp2_with (go_at_call 34; refine hcon.mono ?_; rintro e w' ⟨rfl, hpost⟩)
          go_ret
          obtain ⟨ys, h1, h2, h3, h4⟩ := hpost
          have hlen := h1.length_eq
          refine ⟨some ⟨b, off, none⟩, c, ys, by rw [hlen]; rfl, .inr ⟨b, off, rfl, ?_, fun i hi => h3 i (by omega)⟩, by rw [HX.out]; exact h1, h2, hb.trans (h4 _ hbb hl), fun a ha => by cases ha; exact hbb⟩
          exact Nat.lt_of_lt_of_le hbl (h4 0 (Nat.zero_le _) (Nat.zero_le _)).size

theorem wtimes_any (hS : SortOk Try.prog 34 35) (hS0 : SortNone Try.prog 34 35)
    (p : Option Addr) (ds : List Done) (cap : Nat) (w : World) (hc : ds.length ≤ 61) (hH : Hist w p ds) :
    Calls Try.prog 23 #[.slice p ds.length cap] w fun e w' => ∃ q c xs, e = .returned (.slice q xs.length c) ∧ Floats w' q xs ∧ xs.Perm (keep ds) ∧ xs.Pairwise (fun x y => 0 ≤ cmpT y x) ∧ Below w.heap.size w w' :=
  (wtimes_own hS hS0 p ds cap w hc hH).mono fun _ _ ⟨q, c, xs, h1, h2, h3, h4, h5, _⟩ => ⟨q, c, xs, h1, h2, h3, h4, h5⟩
end Go.Proofs.Ytjoclapnjnmlkaa
