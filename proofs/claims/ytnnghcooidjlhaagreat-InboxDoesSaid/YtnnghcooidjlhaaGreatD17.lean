/- Parts of the proof: Hf Hg Ia Ib Ic. -/
import Derived.Test.YtnnghcooidjlhaaGreatD09
import Derived.Test.YtnnghcooidjlhaaGreatD16
set_option linter.all false
set_option maxRecDepth 100000
namespace Go.Proofs.YtnnghcooidjlhaaGreat
section
open Go.RowKit Go.Lib
set_option maxHeartbeats 4000000 in
theorem insert_shift {w : World} {B vb g c i : Nat} {l : List En} {x : En} (h : w.ownsRow B 299 3 (.slice (some ⟨g, 0, none⟩) l.length c) l.length (rowV enC l)) (hvb : Blk w vb 299 (enC x).toArray) (hne : vb ≠ g) (hi : i < l.length) (hroom : l.length + 1 ≤ c) (hn : l.length ≤ 100000) :
  Calls Tryz.prog 170 #[.slice (some ⟨g, 0, none⟩) l.length c, .int .i64 i, .slice (some ⟨vb, 0, none⟩) 1 1] w fun e w' => e = .returned (.slice (some ⟨g, 0, none⟩) (l.length + 1) c) ∧
   w'.ownsRow B 299 3 (.slice (some ⟨g, 0, none⟩) (l.length + 1) c) (l.length + 1) (rowV enC (insL l i x)) ∧ Kp [g] w w' := by
 have hcm : c ≤ maxLen := by
  rcases h.2 with ⟨h', _⟩ | ⟨g', c', cur, e, h1, h2, h3, h4, h5, h6⟩
  ·cases h'
  ·injection e with _ _ e3; subst e3; exact h4
 unfold maxLen at hcm
 obtain ⟨cur, hcur, hcs⟩ : ∃ cur : Array Value, w.heap[g]? = some (.cells cur 299 (0, 0)) ∧ cur.size = c * 3 := by
  rcases h.2 with ⟨h', _⟩ | ⟨g', c', cur, e, h1, h2, h3, h4, h5, h6⟩
  ·cases h'
  ·injection e with e1 _ e3
   injection e1 with e1
   injection e1 with e1 _ _
   subst e1 e3
   exact ⟨cur, h2, h5⟩
 have hsb : w.shape? g = some (299, cur.size) := by simp [World.shape?, hcur]
 have hsa : w.shape? vb = some (299, 3) := by
  have : w.heap[vb]? = some (.cells (enC x).toArray 299 (0, 0)) := hvb
  simp [World.shape?, this, enC]
 have hov : ∀ lb cb o, (callFunc 199 #[.slice (some ⟨vb, 0, none⟩) 1 1, .slice (some ⟨g, o, none⟩) lb cb]).run Tryz.prog w = .ok (.value (.bool false)) w := fun lb cb o => by
  rw [run_callFunc_extern Tryz.func199 (by kernel_rfl) (by kernel_rfl) (by kernel_rfl) (e := Extern.SlicesOverlaps.overlaps #[290, 290] #[4]) (by kernel_rfl),
   Lib.run_overlaps_apart w 290 4 299 Tryz.underlying290 3 (fun w => by
    obtain ⟨i0, hi0, hz0, hz1, hz2⟩ := info_parts infEn
    simp [sizeOf, typeInfo, hi0, hz1]) ⟨vb, 0, none⟩ ⟨g, o, none⟩ 1 1 lb cb hne _ _ _ _ hsa hsb (by omega) (hvb.frozen 0) (hvb.frozen 3)]
  rfl
 have hR := row_drop_len l i
 have hsome : ∀ j, j < c * 3 → (w.cell? ⟨g, j, none⟩).isSome = true := fun j hj => own_some h hj
 have hfz : ∀ j, w.frozen? ⟨g, j, none⟩ = false := fun j => h.frozenAt j
 have hat : ∀ j v, (rowV enC (l.drop i))[j]? = some v → w.cell? ⟨g, i * 3 + j, none⟩ = some v := fun j v hj => own_at h rfl (j := i * 3 + j) (by
  rw [row_split l i, List.getElem?_append_right (by rw [row_take_len l i (by omega)]; omega), row_take_len l i (by omega), Nat.add_sub_cancel_left]
  exact hj)
 have hcp1 : ∀ ty dc sc, (Builtin.copy_ #[290, 290] ty #[.slice (some ⟨g, (i + 1) * 3, none⟩) (l.length - i) dc, .slice (some ⟨g, i * 3, none⟩) (l.length + 1 - i) sc]).run Tryz.prog w.drew = .ok (goInt (l.length - i : Nat)) (w.drew.setCells g ((i + 1) * 3) (rowV enC (l.drop i))) := fun ty dc sc =>
  run_copy3 w.drew ty g ((i + 1) * 3) _ dc ⟨g, i * 3, none⟩ _ sc _ (l.length - i) (by simp only [Nat.min_def]; split <;> omega) hR
   (fun j v hj => by rw [Addr.add_lit]; exact hat j v hj) (fun j hj => hsome _ (by rw [hR] at hj; omega)) (fun j _ => hfz _) (fun v hv => rowV_oneE v hv)
 obtain ⟨W1, hW1⟩ : ∃ W1, W1 = w.drew.setCells g ((i + 1) * 3) (rowV enC (l.drop i)) := ⟨_, rfl⟩
 have hk1 : Kp [g] w W1 := by rw [hW1]; exact (Kp.refl _ w).drew.trans (kp_setCells g _ _ w.drew)
 have hO1 : W1.ownsRow B 299 3 (.slice (some ⟨g, 0, none⟩) (i + 1) c) (i + 1) (rowV enC (l.take (i + 1))) := by
  rw [hW1]
  refine own_setCells (w := w.drew) (n := l.length) h _ (by rw [hR]; omega) (i + 1) (by omega) _ (fun cur hcl hct => ?_)
  unfold setL
  rw [List.append_assoc, List.take_append_of_le_length (by rw [List.length_take]; omega), List.take_take, Nat.min_self]
  have : (cur.take (l.length * 3)).take ((i + 1) * 3) = cur.take ((i + 1) * 3) := by rw [List.take_take, Nat.min_eq_left (by omega)]
  rw [← this, hct, row_split l (i + 1), List.take_append_of_le_length (by rw [row_take_len l (i + 1) (by omega)]; omega), List.take_of_length_le (by rw [row_take_len l (i + 1) (by omega)]; omega)]
 have hvb1 : Blk W1 vb 299 (enC x).toArray := hvb.kp hk1 (by simpa using hne)
 have hcp2 : ∀ (W : World), (∀ x, W.cell? x = W1.cell? x) → (∀ x, W.frozen? x = W1.frozen? x) → ∀ ty dc, (Builtin.copy_ #[290, 290] ty #[.slice (some ⟨g, i * 3, none⟩) (l.length + 1 - i) dc, .slice (some ⟨vb, 0, none⟩) 1 1]).run Tryz.prog W = .ok (goInt (1 : Nat)) (W.setCells g (i * 3) (enC x)) := fun W hWc hWf ty dc =>
  run_copy3 W ty g (i * 3) _ dc ⟨vb, 0, none⟩ 1 1 _ 1 (by simp only [Nat.min_def]; split <;> omega) rfl
   (fun j v hj => by rw [Addr.add_lit, hWc, Nat.zero_add, hvb1.cell]; simpa using hj) (fun j hj => by rw [hWc]; exact own_some hO1 (by simp [enC] at hj; omega)) (fun j _ => by rw [hWf]; exact hO1.frozenAt _) (enC_one x)
 have hO2 : ∀ (W : World), (∀ b, W.heap[b]? = W1.heap[b]?) → (W.setCells g (i * 3) (enC x)).ownsRow B 299 3 (.slice (some ⟨g, 0, none⟩) (l.length + 1) c) (l.length + 1) (rowV enC (insL l i x)) := fun W hWh => by
  rcases h.2 with ⟨h', _⟩ | ⟨g', c', cur, e, h1, h2, h3, h4, h5, h6⟩
  ·cases h'
  ·injection e with e1 _ e3
   injection e1 with e1
   injection e1 with e1 _ _
   subst e1 e3
   have g1 := heap_setCellsL g 299 (0, 0) (rowV enC (l.drop i)) ((i + 1) * 3) w.drew cur h2 (by rw [hR, h5]; omega)
   rw [← hW1] at g1
   have hsl : (setL cur.toList ((i + 1) * 3) (rowV enC (l.drop i))).length = c * 3 := by rw [setL_length (by rw [hR]; simp; omega)]; simpa using h5
   have g2 := heap_setCellsL g 299 (0, 0) (enC x) (i * 3) W _ ((hWh g).trans g1) (by simp [enC, hsl]; omega)
   refine ⟨by rw [rowV_length enC_len, insL_length l i x (by omega)], .inr ⟨g, c, _, rfl, h1, g2, by omega, h4, ?_, ?_⟩⟩
   ·simp only [List.size_toArray]
    rw [setL_length (by simp [enC, hsl]; omega), hsl]
   ·show List.take ((l.length + 1) * 3) (setL (setL cur.toList _ _) _ _) = _
    rw [two_lay' (n := l.length) (c := c) (by simpa using h5) rfl rfl hR (by omega) hroom, row_ins]
    congr 2
    have : (cur.toList.take (l.length * 3)).take (i * 3) = cur.toList.take (i * 3) := by rw [List.take_take, Nat.min_eq_left (by omega)]
    rw [← this, h6, row_split l i, List.take_append_of_le_length (by rw [row_take_len l i (by omega)]; omega), List.take_of_length_le (by rw [row_take_len l i (by omega)]; omega)]
 rw [← hW1] at hcp1
 have HP := hid hcp1
 have HP2 := hid hcp2
 have HO2 := hid hO2
 have HK1 := hid hk1
 have HOV := hid hov
 have hz2 : ¬ ((i : Int) = (l.length : Int)) := by omega
 have hw1 : IntKind.i64.wrap ((i : Int) + 1) = (i : Int) + 1 := by rw [IntKind.wrap_i64]; omega
 have hw2 : IntKind.i64.wrap ((l.length : Int) + 1) = (l.length : Int) + 1 := by rw [IntKind.wrap_i64]; omega
 have hb0 : ¬ ((c : Int) < (l.length : Int) + 1) := by omega
 have hb1 : (0 : Int) ≤ (i : Int) + 1 := by omega
 have hin : i ≤ l.length := by omega
 have htn : ((i : Int) + 1).toNat = i + 1 := by omega
 have htn2 : ((l.length : Int) + 1).toNat = l.length + 1 := by omega
 have hb2 : ¬ (c = i + 1) := by omega
 have hb3 : (i : Int) ≤ (l.length : Int) + 1 := by omega
 have hb4 : ¬ (c = i) := by omega
 have hb5 : (i : Int) + 1 ≤ (l.length : Int) + 1 := by omega
 have hb6 : (0 : Int) ≤ (l.length : Int) + 1 := by omega
 have hb7 : (l.length : Int) + 1 ≤ (c : Int) := by omega
 clear hcur hcs hsb hsa hR hsome hfz hat hcp1 hcp2 hO1 hO2 hk1 hvb1 hW1 hov h hvb
 go_enter Tryz.func170, Tryz.ntmps170
 go_wp2_with (simp only [HOV.out])
 go_region_law (refine step_copyR rfl _ _ 290 290 rfl _ _ (by simp [Act.eval, Act.put]) (by simp [Act.eval, Act.put]) (HP.out 3 (c - (i + 1)) (c - i)) ?_)
 go_wp2_with (with_reducible refine stopAt .copy rfl ?_)
 with_reducible refine goOn ?_
 refine wpL_copyR _ rfl _ _ 290 290 rfl _ _ rfl rfl (HP2.out _ (fun _ => rfl) (fun _ => rfl) _ _) ?_
 go_wp2
 go_ret
 exact ⟨rfl, HO2.out _ (fun _ => rfl), HK1.out.trans (kp_setCells g _ _ _)⟩
end
section
open Go.RowKit Go.Lib
theorem kp_isSome {w : World} {g o : Nat} {vs : List Value} (h : ∀ j, j < vs.length → (w.cell? ⟨g, o + j, none⟩).isSome = true) (k : Nat) (hk : (w.cell? ⟨g, k, none⟩).isSome = true) : ((w.setCells g o vs).cell? ⟨g, k, none⟩).isSome = true := by
 by_cases hin : o ≤ k ∧ k < o + vs.length
 ·have := World.cell?_setCells_in g vs o w h (k - o) (by omega)
  rw [show o + (k - o) = k by omega] at this
  rw [this]
  have : k - o < vs.length := by omega
  simp [this]
 ·rw [World.cell?_setCells_out g vs o w ⟨g, k, none⟩ (fun _ _ => by show k < o ∨ o + vs.length ≤ k; omega)]
  exact hk
theorem zc_size (n : Nat) : (Builtin.zeroCells (Value.agg #[.string ⟨#[]⟩, .string ⟨#[]⟩, .int .i64 0]).cells n).size = n * 3 := by
 simp [Builtin.zeroCells, Value.cells]
set_option maxHeartbeats 4000000 in
theorem insert_grow {w : World} {B vb g c i : Nat} {l : List En} {x : En} (h : w.ownsRow B 299 3 (.slice (some ⟨g, 0, none⟩) l.length c) l.length (rowV enC l)) (hvb : Blk w vb 299 (enC x).toArray) (hB : B ≤ w.heap.size) (hi : i < l.length) (hroom : c < l.length + 1) (hn : l.length ≤ 100000) :
  Calls Tryz.prog 170 #[.slice (some ⟨g, 0, none⟩) l.length c, .int .i64 i, .slice (some ⟨vb, 0, none⟩) 1 1] w fun e w' => ∃ v', e = .returned v' ∧
   w'.ownsRow B 299 3 v' (l.length + 1) (rowV enC (insL l i x)) ∧ Below w.heap.size w w' ∧ v'.ownBlock = some w.heap.size := by
 obtain ⟨q, c', e, hq1, hq2, hq3⟩ := own_form h (by omega)
 injection e with e1 _ e3
 injection e1 with e1
 injection e1 with e1 _ _
 subst e1 e3
 have hcn : c = l.length := by omega
 subst hcn
 obtain ⟨i0, hi0, hz0, hz1, hz2⟩ := info_parts infEn
 have hR := row_drop_len l i
 have hA := row_take_len l i (by omega)
 have hold : (Builtin.firstCells i0.size i (.slice (some ⟨g, 0, none⟩) i l.length)).run Tryz.prog w.drew = .ok (rowV enC (l.take i)).toArray w.drew := by
  rw [hz1]
  exact run_firstCells_some w.drew 3 i ⟨g, 0, none⟩ i l.length _ hA (fun j v hj => by
   rw [Addr.add_lit, Nat.zero_add]
   exact own_at h rfl (j := j) (by rw [row_split l i, List.getElem?_append_left (List.getElem?_eq_some_iff.1 hj).1]; exact hj))
 obtain ⟨G, hG⟩ : ∃ G, G = grownCap w (l.length + 1) l.length 299 := ⟨_, rfl⟩
 obtain ⟨ROW, hROW⟩ : ∃ ROW : Array Value, ROW = (rowV enC (l.take i)).toArray ++ Builtin.zeroCells (Value.agg #[.string ⟨#[]⟩, .string ⟨#[]⟩, .int .i64 0]).cells (l.length + 1 - i) ++ Builtin.zeroCells (Value.agg #[.string ⟨#[]⟩, .string ⟨#[]⟩, .int .i64 0]).cells (G - (l.length + 1)) := ⟨_, rfl⟩
 have hrz : ∀ ty, (Builtin.append_ #[290, 3] ty #[.slice (some ⟨g, 0, none⟩) i l.length, .int .i64 ((l.length : Int) + 1 - (i : Int))]).run Tryz.prog w = .ok (.slice (some ⟨w.heap.size, 0, none⟩) (l.length + 1) G) (w.drew.alloc (.cells ROW 299)) := fun ty => by
  have hh := Lib.run_append_grow_zeros w 290 3 ty 299 i0 _ .i64 .i64 Tryz.underlying290 Tryz.underlying3 hi0 hz0 (some ⟨g, 0, none⟩) i l.length (rowV enC (l.take i)) hold (l.length + 1 - i) (by omega) (by omega) (by omega) (by omega) (by rw [hz2]; omega) (by
   rw [hz2, show i + (l.length + 1 - i) = l.length + 1 by omega]
   exact growslice_fits (by omega) (by omega))
  rw [show i + (l.length + 1 - i) = l.length + 1 by omega, ← hG, ← hROW] at hh
  rw [show (l.length : Int) + 1 - (i : Int) = ((l.length + 1 - i : Nat) : Int) by omega]
  exact hh
 have hGn : l.length + 1 ≤ G := by rw [hG]; exact grownCap_ge w _ _ _
 have hGm : G ≤ maxLen := by rw [hG]; exact grownCap_le_maxLen w (l.length + 1) l.length 299 (by unfold maxLen; omega)
 have hRS : ROW.size = G * 3 := by
  rw [hROW]
  simp only [Array.size_append, List.size_toArray, zc_size, hA]
  omega
 obtain ⟨W1, hW1⟩ : ∃ W1, W1 = w.drew.alloc (.cells ROW 299) := ⟨_, rfl⟩
 have hs1 : W1.heap.size = w.heap.size + 1 := by rw [hW1]; simp
 have hb1 : Below w.heap.size w W1 := by rw [hW1]; exact (Below.refl _ w).drew.alloc (Nat.le_refl _) _
 have hk1 : Blk W1 w.heap.size 299 ROW := by rw [hW1]; exact Blk.new w.drew _ _
 rw [← hW1] at hrz
 have hN : ∀ j, j < G * 3 → (W1.cell? ⟨w.heap.size, j, none⟩).isSome = true := fun j hj => by
  rw [hk1.cell, Array.getElem?_eq_getElem (by omega)]; rfl
 have hNf : ∀ j, W1.frozen? ⟨w.heap.size, j, none⟩ = false := fun j => hk1.frozen j
 have hcpA : ∀ (W : World), (∀ x, W.cell? x = W1.cell? x) → (∀ x, W.frozen? x = W1.frozen? x) → ∀ ty dc, (Builtin.copy_ #[290, 290] ty #[.slice (some ⟨w.heap.size, i * 3, none⟩) (l.length + 1 - i) dc, .slice (some ⟨vb, 0, none⟩) 1 1]).run Tryz.prog W = .ok (goInt (1 : Nat)) (W.setCells w.heap.size (i * 3) (enC x)) := fun W hWc hWf ty dc =>
  run_copy3 W ty w.heap.size (i * 3) _ dc ⟨vb, 0, none⟩ 1 1 _ 1 (by simp only [Nat.min_def]; split <;> omega) rfl
   (fun j v hj => by
    have := (hvb.below hb1 hvb.lt).cell j
    rw [Addr.add_lit, hWc, Nat.zero_add, this]; simpa using hj) (fun j hj => by rw [hWc]; exact hN _ (by simp [enC] at hj; omega)) (fun j _ => by rw [hWf]; exact hNf _) (enC_one x)
 have hcpB : ∀ (W : World), (∀ y, W.cell? y = (W1.setCells w.heap.size (i * 3) (enC x)).cell? y) → (∀ y, W.frozen? y = (W1.setCells w.heap.size (i * 3) (enC x)).frozen? y) → ∀ ty dc sc, (Builtin.copy_ #[290, 290] ty #[.slice (some ⟨w.heap.size, (i + 1) * 3, none⟩) (l.length - i) dc, .slice (some ⟨g, i * 3, none⟩) (l.length - i) sc]).run Tryz.prog W = .ok (goInt (l.length - i : Nat)) (W.setCells w.heap.size ((i + 1) * 3) (rowV enC (l.drop i))) := fun W hWc hWf ty dc sc =>
  run_copy3 W ty w.heap.size ((i + 1) * 3) _ dc ⟨g, i * 3, none⟩ _ sc _ (l.length - i) (by simp only [Nat.min_def]; split <;> omega) hR
   (fun j v hj => by
    rw [Addr.add_lit, hWc, World.cell?_setCells_out _ _ _ _ _ (fun hh _ => by have : g = w.heap.size := hh; omega)]
    rw [hb1.cell (p := ⟨g, i * 3 + j, none⟩) hq2]
    exact own_at h rfl (j := i * 3 + j) (by
     rw [row_split l i, List.getElem?_append_right (by rw [hA]; omega), hA, Nat.add_sub_cancel_left]
     exact hj))
   (fun j hj => by rw [hWc]; exact kp_isSome (fun t ht => hN _ (by simp [enC] at ht; omega)) _ (hN _ (by rw [hR] at hj; omega)))
   (fun j _ => by rw [hWf, World.frozen?_setCells]; exact hNf _) (fun v hv => rowV_oneE v hv)
 have hO : ∀ (Wa Wb : World), (∀ b, Wa.heap[b]? = W1.heap[b]?) → (∀ b, Wb.heap[b]? = (Wa.setCells w.heap.size (i * 3) (enC x)).heap[b]?) → (Wb.setCells w.heap.size ((i + 1) * 3) (rowV enC (l.drop i))).ownsRow B 299 3 (.slice (some ⟨w.heap.size, 0, none⟩) (l.length + 1) G) (l.length + 1) (rowV enC (insL l i x)) := fun Wa Wb hWa hWb => by
  have g0 : Wa.heap[w.heap.size]? = some (.cells ROW 299 (0, 0)) := (hWa _).trans hk1
  have g1 := heap_setCellsL w.heap.size 299 (0, 0) (enC x) (i * 3) Wa ROW g0 (by rw [hRS]; simp [enC]; omega)
  have hsl : (setL ROW.toList (i * 3) (enC x)).length = G * 3 := by rw [setL_length (by simp [enC, hRS]; omega)]; simpa using hRS
  have g2 := heap_setCellsL w.heap.size 299 (0, 0) (rowV enC (l.drop i)) ((i + 1) * 3) Wb _ ((hWb _).trans g1) (by simp only [List.size_toArray]; rw [hR, hsl]; omega)
  refine ⟨by rw [rowV_length enC_len, insL_length l i x (by omega)], .inr ⟨w.heap.size, G, _, rfl, hB, g2, hGn, hGm, ?_, ?_⟩⟩
  ·simp only [List.size_toArray]
   rw [setL_length (by rw [hsl, hR]; omega), hsl]
  ·show List.take ((l.length + 1) * 3) (setL (setL ROW.toList _ _) _ _) = _
   rw [two_lay (n := l.length) (c := G) (by simpa using hRS) rfl rfl hR (by omega) hGn, row_ins]
   congr 2
   rw [hROW]
   simp only [Array.toList_append, List.append_assoc]
   rw [List.take_append_of_le_length (by rw [hA]; exact Nat.le_refl _), List.take_of_length_le (by rw [hA]; exact Nat.le_refl _)]
 have HB1 := hid hb1
 have HRZ := hid hrz
 have HPA := hid hcpA
 have HPB := hid hcpB
 have HO := hid hO
 have HW1 := hid hW1
 unfold maxLen at hGm
 have hz2 : ¬ ((i : Int) = (l.length : Int)) := by omega
 have hz3 : (l.length : Int) < (l.length : Int) + 1 := by omega
 have hw1 : IntKind.i64.wrap ((i : Int) + 1) = (i : Int) + 1 := by rw [IntKind.wrap_i64]; omega
 have hw2 : IntKind.i64.wrap ((l.length : Int) + 1) = (l.length : Int) + 1 := by rw [IntKind.wrap_i64]; omega
 have hw3 : IntKind.i64.wrap ((l.length : Int) + 1 - (i : Int)) = (l.length : Int) + 1 - (i : Int) := by rw [IntKind.wrap_i64]; omega
 have hb2 : (0 : Int) ≤ (i : Int) + 1 := by omega
 have hin : i ≤ l.length := by omega
 have htn : ((i : Int) + 1).toNat = i + 1 := by omega
 have hGi : ¬ (G = i) := by omega
 have hGim : ¬ (G = i + 1) := by omega
 have hci : ¬ (l.length = i) := by omega
 have hb3 : (i : Int) ≤ (l.length : Int) := by omega
 have hb4 : (i : Int) ≤ (l.length : Int) + 1 := by omega
 have hb5 : (i : Int) + 1 ≤ (l.length : Int) + 1 := by omega
 clear hR hA hold hG hROW hrz hRS hb1 hk1 hN hNf hcpA hcpB hO hW1 h hvb
 go_enter Tryz.func170, Tryz.ntmps170
 go_wp2_with (with_reducible refine stopAt .append rfl ?_)
 with_reducible refine goOn ?_
 refine Lib.wpList_append_run _ rfl _ _ 290 3 rfl _ _ rfl rfl _ _ (HRZ.out _) ?_
 go_wp2_with (with_reducible refine stopAt .copy rfl ?_)
 with_reducible refine goOn ?_
 refine wpL_copyR _ rfl _ _ 290 290 rfl _ _ rfl rfl (HPA.out _ (fun _ => rfl) (fun _ => rfl) _ _) ?_
 go_wp2_with fail
 go_region_law (refine step_copyR rfl _ _ 290 290 rfl _ _ (by simp [Act.eval, Act.put]) (by simp [Act.eval, Act.put]) (HPB.out (W1.setCells w.heap.size (i * 3) (enC x)).drew (fun _ => rfl) (fun _ => rfl) 3 (G - (i + 1)) (l.length - i)) ?_)
 go_wp2
 go_ret
 refine ⟨_, rfl, HO.out W1 _ (fun _ => rfl) (fun _ => rfl), ?_, rfl⟩
 refine HB1.out.trans (Below.trans (b := (W1.setCells w.heap.size (i * 3) (enC x)).drew) ?_ ?_)
 ·exact ((kp_setCells w.heap.size (enC x) (i * 3) W1).drew).to_below (by omega) (by simp)
 ·exact (kp_setCells w.heap.size _ _ _).to_below (by
   have := (kp_setCells w.heap.size (enC x) (i * 3) W1).size
   show w.heap.size ≤ (W1.setCells w.heap.size (i * 3) (enC x)).heap.size
   omega) (by simp)
theorem insertE_any {w : World} {B vb i : Nat} {v : Value} {l : List En} {x : En} (h : w.ownsRow B 299 3 v l.length (rowV enC l)) (hvb : Blk w vb 299 (enC x).toArray) (hne : v.ownBlock ≠ some vb) (hB : B ≤ w.heap.size) (hi : i ≤ l.length) (hn : l.length ≤ 100000) :
  Calls Tryz.prog 170 #[v, .int .i64 i, .slice (some ⟨vb, 0, none⟩) 1 1] w fun e w' => ∃ v', e = .returned v' ∧
   w'.ownsRow B 299 3 v' (l.length + 1) (rowV enC (insL l i x)) ∧ Kp v.ownBlock.toList w w' ∧ ∀ g, v'.ownBlock = some g → v.ownBlock = some g ∨ w.heap.size ≤ g := by
 rcases Nat.lt_or_ge i l.length with hlt | hge
 ·obtain ⟨g, c, rfl, h1, h2, h3⟩ := own_form h (by omega)
  rcases Nat.lt_or_ge c (l.length + 1) with hc | hc
  ·refine (insert_grow h hvb hB hlt hc hn).mono ?_
   rintro e w' ⟨v', rfl, h4, h5, h6⟩
   exact ⟨v', rfl, h4, Kp.of_below h5, fun b hb => .inr (by rw [h6] at hb; injection hb with hb; omega)⟩
  ·refine (insert_shift h hvb (fun e => hne (by rw [e]; rfl)) hlt hc hn).mono ?_
   rintro e w' ⟨rfl, h4, h5⟩
   exact ⟨_, rfl, h4, h5, fun b hb => .inl hb⟩
 ·have : i = l.length := by omega
  subst this
  refine (insert_end h hvb hB hn).mono ?_
  rintro e w' ⟨v', rfl, h4, h5, h6⟩
  exact ⟨v', rfl, h4, (Kp.refl _ w).grown h5 (fun g e => .inl (by rw [e]; simp)), fun b hb => h6.elim (fun e => .inl (by rw [← e]; exact hb)) (fun e => .inr (by rw [e] at hb; injection hb with hb; omega))⟩
end
section
open Go.RowKit Go.Lib
theorem EnI.of_ownAt {w : World} {g c : Nat} {l : List En} (hg : g < w.heap.size) (hc : l.length ≤ c) (h : EnAt w g 0 l) : EnI w (.slice (some ⟨g, 0, none⟩) l.length c) l :=
 ⟨some ⟨g, 0, none⟩, c, rfl, hc, fun g' o' e => by
  injection e with e
  injection e with e1 e2 _
  subst e1 e2
  exact ⟨hg, h⟩, fun _ => ⟨g, 0, rfl⟩⟩
set_option maxHeartbeats 2000000 in
theorem lay_any {w : World} {n : Nd} {v : Value} (h : mayN (strip n)) (hv : EnI w v n.l) (hn : n.l.length ≤ 900) :
  Calls Tryz.prog 233 #[ndV n.leaf v] w fun e w' => e = .returned (putR (strip n)) ∧ Below w.heap.size w w' := by
 obtain ⟨lf, l⟩ := n
 simp only at hv hn ⊢
 by_cases hc : lf = true ∨ l = []
 ·have hst : strip ⟨lf, l⟩ = ⟨lf, l⟩ := by
   rcases hc with rfl | rfl
   ·rfl
   ·cases lf <;> rfl
  rw [hst] at h ⊢
  have HP := hid (fun (W : World) (hW : Below w.heap.size w W) => nput_any (w := W) h (hv.below hW) hn)
  obtain ⟨ao, c, rfl⟩ := hv.slice
  unfold ndV at HP ⊢
  simp only at HP
  clear h hst hv
  go_enter Tryz.func233, Tryz.ntmps233
  rcases hc with rfl | rfl
  ·go_wp2_with fail
   (with_reducible refine (HP.out _ ((Below.refl _ w).alloc (Nat.le_refl _) _)).mono ?_)
   rintro e W1 ⟨rfl, hb1⟩
   have HB1 := hid hb1
   clear hb1
   go_wp2
   go_ret2
   exact ⟨rfl, ((Below.refl _ w).alloc (Nat.le_refl _) _).trans (HB1.out.mono (by simp))⟩
  ·simp only [List.length_nil] at HP
   cases lf with
   | true =>
    go_wp2_with fail
    (with_reducible refine (HP.out _ ((Below.refl _ w).alloc (Nat.le_refl _) _)).mono ?_)
    rintro e W1 ⟨rfl, hb1⟩
    have HB1 := hid hb1
    clear hb1
    go_wp2
    go_ret2
    exact ⟨rfl, ((Below.refl _ w).alloc (Nat.le_refl _) _).trans (HB1.out.mono (by simp))⟩
   | false =>
    go_wp2_with fail
    (with_reducible refine (HP.out _ ((Below.refl _ w).alloc (Nat.le_refl _) _)).mono ?_)
    rintro e W1 ⟨rfl, hb1⟩
    have HB1 := hid hb1
    clear hb1
    go_wp2
    go_ret2
    exact ⟨rfl, ((Below.refl _ w).alloc (Nat.le_refl _) _).trans (HB1.out.mono (by simp))⟩
 ·have hlf : lf = false := by
   cases lf with
   | true => exact absurd (.inl rfl) hc
   | false => rfl
  subst hlf
  cases l with
  | nil => exact absurd (.inr rfl) hc
  | cons x t =>
   rw [strip_inner] at h ⊢
   obtain ⟨ao, c, rfl⟩ := hv.slice
   have HC := hid (fun (W : World) (hW : Below w.heap.size w W) => clone_any (w := W) (hv.below hW) (by omega) (by simp))
   have HH := hid h
   have HN : Hid ((x :: t).length ≤ 900) := hid hn
   have hpos : 0 < (x :: t).length := by simp
   generalize hln : (x :: t).length = ln at *
   clear h hv hc hn
   unfold ndV
   go_enter Tryz.func233, Tryz.ntmps233
   go_wp2_with fail
   (with_reducible refine (HC.out _ ((Below.refl _ w).alloc (Nat.le_refl _) _)).mono ?_)
   rintro e W1 ⟨v1, rfl, hO, hb1⟩
   obtain ⟨g, c1, rfl, hg1, hg2, hg3⟩ := own_form hO hpos
   have hN1 : Blk W1 w.heap.size 292 #[.bool false, .slice ao ln c] := (Blk.new w _ _).below hb1 (by simp)
   have n0 : W1.cell? ⟨w.heap.size, 0, none⟩ = some (.bool false) := hN1.cell 0
   have n1 : W1.cell? ⟨w.heap.size, 1, none⟩ = some (.slice ao ln c) := hN1.cell 1
   have f0 := hN1.frozen 0
   have f1 := hN1.frozen 1
   have k0 : W1.cell? ⟨g, 0, none⟩ = some (.string (S x.key)) := own_at hO rfl (j := 0) rfl
   have kf : W1.frozen? ⟨g, 0, none⟩ = false := hO.frozenAt 0
   have hw1 := hN1.lt
   have hgw : w.heap.size ≠ g := by simp at hg1; omega
   have hgw2 : g ≠ w.heap.size := Ne.symm hgw
   have HB1 : Hid (Below w.heap.size w W1) := hid (((Below.refl _ w).alloc (Nat.le_refl _) _).trans (hb1.mono (by simp)))
   have hO1 := row_of hO (w' := W1.setCell ⟨w.heap.size, 1, none⟩ (.slice (some ⟨g, 0, none⟩) ln c1)) (fun b hb => Below.heap_setCell _ ⟨w.heap.size, 1, none⟩ _ b (by
    have hb2 := (hO.lt b hb).1
    simp at hb2
    show b ≠ w.heap.size
    omega))
   have hO2 := (hO1.stored 0 (.string ⟨#[]⟩)).1
   have hlt2 := Nat.lt_of_lt_of_le hg2 (show W1.heap.size ≤ (W1.setCell ⟨w.heap.size, 1, none⟩ (.slice (some ⟨g, 0, none⟩) ln c1)).heap.size by simp [World.setCell])
   have hN2 := (hN1.set_ 1 (.slice (some ⟨g, 0, none⟩) ln c1)).far (p := ⟨g, 0, none⟩) hgw (.string ⟨#[]⟩)
   obtain ⟨W3, hW3⟩ : ∃ W3, W3 = (W1.setCell ⟨w.heap.size, 1, none⟩ (.slice (some ⟨g, 0, none⟩) ln c1)).setCell ⟨g, 0, none⟩ (.string ⟨#[]⟩) := ⟨_, rfl⟩
   have hb3 : Below w.heap.size w W3 := by
    rw [hW3]
    exact (HB1.out.setCell (p := ⟨w.heap.size, 1, none⟩) (Nat.le_refl _) _).setCell (p := ⟨g, 0, none⟩) (by simp at hg1; show w.heap.size ≤ g; omega) _
   rw [← hW3] at hO2 hN2
   have HO2 : Hid (W3.ownsRow _ 299 3 (.slice (some ⟨g, 0, none⟩) ln c1) ln (rowV enC ({ x with key := [] } :: t))) := hid hO2
   have HN2 := hid hN2
   have HB3 := hid hb3
   have HW3 := hid hW3
   have HN1 := hid hN1
   have hg1' : w.heap.size ≤ g := by simp at hg1; omega
   clear hb1 hN1 hO hO2 hg1 hO1 hN2 hb3 hW3
   go_wp2_with (with_reducible refine stopLoad 292 rfl ?_)
   with_reducible refine goOn ?_
   rw [← HW3.out]
   have hlen2 : ({ x with key := [] } :: t : List En).length = ln := by rw [← hln]; rfl
   have p0 : W3.cell? ⟨w.heap.size, 0, none⟩ = some (.bool false) := HN2.out.cell 0
   have p1 : W3.cell? ⟨w.heap.size, 1, none⟩ = some (.slice (some ⟨g, 0, none⟩) ln c1) := HN2.out.cell 1
   have hI3 : EnI W3 (.slice (some ⟨g, 0, none⟩) ln c1) ({ x with key := [] } :: t) := by
    have := HO2.out
    rw [← hlen2] at this ⊢
    exact EnI.of_own this
   have HP := hid (nput_any (w := W3) HH.out hI3 (by rw [hlen2]; exact HN.out))
   unfold ndV at HP
   clear hlen2 hI3
   go_wp2_with fail
   (with_reducible refine HP.out.mono ?_)
   rintro e W4 ⟨rfl, hb4⟩
   have HB4 := hid hb4
   clear hb4
   go_wp2
   go_ret2
   exact ⟨rfl, HB3.out.trans (HB4.out.mono HB3.out.size)⟩
end
section
open Go.RowKit Go.Lib
def TrI (w : World) (P : PL) (tb : Nat) : Prop := Blk w tb 318 #[.pointer (some ⟨P.p, 0, none⟩)]
theorem bad0 (w : World) : Calls Tryz.prog 196 #[.int .i64 0] w fun e w' => e = .returned (.int .i64 0) ∧ w = w' := by
 go_enter Tryz.func196, Tryz.ntmps196
 go_wp2
 go_ret
 exact ⟨rfl, rfl⟩
theorem ofE_le {n : Nd} (h : nB n.l ≤ 223) : ofS (recs n) = S (pgOf n) ∧ ofE (recs n) = 0 := by
 have : used (recs n) ≤ 232 := by rw [used_recs]; omega
 unfold ofS ofE pgOf
 rw [if_pos this, if_pos this]
 exact ⟨rfl, rfl⟩
theorem ofE_gt {n : Nd} (h : 223 < nB n.l) : ofS (recs n) = ⟨#[]⟩ ∧ ofE (recs n) = 11 := by
 have : ¬ used (recs n) ≤ 232 := by rw [used_recs]; omega
 unfold ofS ofE
 rw [if_neg this, if_neg this]
 exact ⟨rfl, rfl⟩
theorem pgOf_len {n : Nd} (h : nB n.l ≤ 223) : (pgOf n).length = 232 := lay_length (by rw [used_recs]; omega)
set_option maxHeartbeats 1000000 in
theorem fits_any {w : World} {n : Nd} {v : Value} (h : mayN (strip n)) (hv : EnI w v n.l) (hn : n.l.length ≤ 900) :
  Calls Tryz.prog 202 #[ndV n.leaf v] w fun e w' => e = .returned (.bool (decide (nB (strip n).l ≤ 223))) ∧ Below w.heap.size w w' := by
 have HL := hid (fun (W : World) (hW : Below w.heap.size w W) => lay_any (w := W) h (hv.below hW) hn)
 obtain ⟨ao, c, rfl⟩ := hv.slice
 by_cases hf : nB (strip n).l ≤ 223
 ·obtain ⟨e1, e2⟩ := ofE_le hf
  unfold ndV at HL ⊢
  unfold putR ofR at HL
  rw [e2] at HL
  rw [decide_eq_true hf]
  clear h hv hn e1 e2 hf
  go_enter Tryz.func202, Tryz.ntmps202
  go_wp2_with fail
  (with_reducible refine (HL.out _ ((Below.refl _ w).alloc (Nat.le_refl _) _)).mono ?_)
  rintro e W1 ⟨rfl, hb1⟩
  have HB1 : Hid (Below w.heap.size w W1) := hid (((Below.refl _ w).alloc (Nat.le_refl _) _).trans (hb1.mono (by simp)))
  clear hb1
  go_wp2
  go_ret
  exact ⟨rfl, HB1.out⟩
 ·obtain ⟨e1, e2⟩ := ofE_gt (n := strip n) (by omega)
  unfold ndV at HL ⊢
  unfold putR ofR at HL
  rw [e2] at HL
  rw [decide_eq_false hf]
  clear h hv hn e1 e2 hf
  go_enter Tryz.func202, Tryz.ntmps202
  go_wp2_with fail
  (with_reducible refine (HL.out _ ((Below.refl _ w).alloc (Nat.le_refl _) _)).mono ?_)
  rintro e W1 ⟨rfl, hb1⟩
  have HB1 : Hid (Below w.heap.size w W1) := hid (((Below.refl _ w).alloc (Nat.le_refl _) _).trans (hb1.mono (by simp)))
  clear hb1
  go_wp2
  go_ret
  exact ⟨rfl, HB1.out⟩
section
variable {w : World} {P : PL} {O : List Nat} {pgs : List (Option Bs)} {tb : Nat}
theorem TrI.c0 (h : TrI w P tb) : w.cell? ⟨tb, 0, none⟩ = some (.pointer (some ⟨P.p, 0, none⟩)) := by rw [Blk.cell h]; rfl
set_option maxHeartbeats 2000000 in
theorem write_fits (ht : TrI w P tb) (hp : PoI w P O pgs) {q : Nat} {b0 : Bs} (hq : pgs[q]? = some (some b0)) {n : Nd} {v : Value} (h : mayN (strip n)) (hv : EnI w v n.l) (hn : n.l.length ≤ 900) (hf : nB (strip n).l ≤ 223) :
  Calls Tryz.prog 201 #[.pointer (some ⟨tb, 0, none⟩), .int .i64 q, ndV n.leaf v] w fun e w' => e = .returned (.int .i64 0) ∧ Kp O w w' ∧ PoI w' P O (pgs.set q (some (pgOf (strip n)))) := by
 have HL := hid (fun (W : World) (hW : Below w.heap.size w W) => lay_any (w := W) h (hv.below hW) hn)
 obtain ⟨ao, c, rfl⟩ := hv.slice
 have c0 := ht.c0
 have hlt := Blk.lt ht
 obtain ⟨e1, e2⟩ := ofE_le hf
 have HPL := hid (pgOf_len hf)
 have HP := hid hp
 have HQ := hid hq
 unfold ndV at HL ⊢
 unfold putR ofR at HL
 rw [e1, e2] at HL
 clear h hv hn ht hp hq e1 e2 hf
 go_enter Tryz.func201, Tryz.ntmps201
 go_wp2_with fail
 (with_reducible refine (HL.out _ ((Below.refl _ w).alloc (Nat.le_refl _) _)).mono ?_)
 rintro e W1 ⟨rfl, hb1⟩
 have hB1 : Below w.heap.size w W1 := ((Below.refl _ w).alloc (Nat.le_refl _) _).trans (hb1.mono (by simp))
 have k0 : W1.cell? ⟨tb, 0, none⟩ = some (.pointer (some ⟨P.p, 0, none⟩)) := (hB1.cell (p := ⟨tb, 0, none⟩) hlt).trans c0
 have hs1 : tb < W1.heap.size := Nat.lt_of_lt_of_le hlt hB1.size
 have HPP := hid (pi_put (HP.out.below hB1) HQ.out (pgOf (strip n)) (by have := HPL.out; omega))
 have HB1 := hid hB1
 clear hb1 hB1 c0
 go_wp2_with fail
 (with_reducible refine HPP.out.mono ?_)
 rintro e W2 ⟨rfl, hk2, hp2⟩
 have HK2 := hid hk2
 have HP2 := hid hp2
 clear hk2 hp2
 go_wp2
 go_ret
 rw [pad_of HPL.out] at HP2
 exact ⟨rfl, (Kp.of_below HB1.out).trans HK2.out, HP2.out⟩
set_option maxHeartbeats 2000000 in
theorem write_full {n : Nd} {v : Value} {q : Int} (h : mayN (strip n)) (hv : EnI w v n.l) (hn : n.l.length ≤ 900) (hf : 223 < nB (strip n).l) :
  Calls Tryz.prog 201 #[.pointer (some ⟨tb, 0, none⟩), .int .i64 q, ndV n.leaf v] w fun e w' => e = .returned (.int .i64 11) ∧ Below w.heap.size w w' := by
 have HL := hid (fun (W : World) (hW : Below w.heap.size w W) => lay_any (w := W) h (hv.below hW) hn)
 obtain ⟨ao, c, rfl⟩ := hv.slice
 obtain ⟨e1, e2⟩ := ofE_gt hf
 unfold ndV at HL ⊢
 unfold putR ofR at HL
 rw [e1, e2] at HL
 clear h hv hn e1 e2 hf
 go_enter Tryz.func201, Tryz.ntmps201
 go_wp2_with fail
 (with_reducible refine (HL.out _ ((Below.refl _ w).alloc (Nat.le_refl _) _)).mono ?_)
 rintro e W1 ⟨rfl, hb1⟩
 have HB1 : Hid (Below w.heap.size w W1) := hid (((Below.refl _ w).alloc (Nat.le_refl _) _).trans (hb1.mono (by simp)))
 clear hb1
 go_wp2
 go_ret
 exact ⟨rfl, HB1.out⟩
set_option maxHeartbeats 2000000 in
theorem make_any (ht : TrI w P tb) (hp : PoI w P O pgs) {n : Nd} {v : Value} (h : mayN (strip n)) (hv : EnI w v n.l) (hn : n.l.length ≤ 900) (hf : nB (strip n).l ≤ 223) (hsm : somes pgs < 300) :
  Calls Tryz.prog 205 #[.pointer (some ⟨tb, 0, none⟩), ndV n.leaf v] w fun e w' => ∃ (q : Nat) (O' : List Nat), e = .returned (.tuple #[.int .i64 q, .int .i64 0]) ∧ q ≤ pgs.length ∧ (pgs[q]? = some none ∨ q = pgs.length) ∧
   PoI w' P O' (newAt pgs q (pgOf (strip n))) ∧ Kp O w w' ∧ Gr O w.heap.size O' := by
 have HL := hid (fun (W : World) (hW : Below w.heap.size w W) => lay_any (w := W) h (hv.below hW) hn)
 obtain ⟨ao, c, rfl⟩ := hv.slice
 have c0 := ht.c0
 have hlt := Blk.lt ht
 obtain ⟨e1, e2⟩ := ofE_le hf
 have HPL := hid (pgOf_len hf)
 have HP := hid hp
 have HS := hid hsm
 unfold ndV at HL ⊢
 unfold putR ofR at HL
 rw [e1, e2] at HL
 clear h hv hn ht hp e1 e2 hf hsm
 go_enter Tryz.func205, Tryz.ntmps205
 go_wp2_with fail
 (with_reducible refine (HL.out _ ((Below.refl _ w).alloc (Nat.le_refl _) _)).mono ?_)
 rintro e W1 ⟨rfl, hb1⟩
 have hB1 : Below w.heap.size w W1 := ((Below.refl _ w).alloc (Nat.le_refl _) _).trans (hb1.mono (by simp))
 have k0 : W1.cell? ⟨tb, 0, none⟩ = some (.pointer (some ⟨P.p, 0, none⟩)) := (hB1.cell (p := ⟨tb, 0, none⟩) hlt).trans c0
 have hs1 : tb < W1.heap.size := Nat.lt_of_lt_of_le hlt hB1.size
 have HPP := hid (pi_new (HP.out.below hB1) (pgOf (strip n)) (by have := HPL.out; omega) HS.out)
 have HB1 := hid hB1
 clear hb1 hB1 c0
 go_wp2_with fail
 (with_reducible refine HPP.out.mono ?_)
 rintro e W2 ⟨q, O', rfl, h1, h2, h3, h4, h5⟩
 have H1 := hid (⟨h1, h2, h3, h4, h5⟩ : q ≤ pgs.length ∧ (pgs[q]? = some none ∨ q = pgs.length) ∧ PoI W2 P O' (newAt pgs q (pad (pgOf (strip n)))) ∧ Kp O W1 W2 ∧ Gr O W1.heap.size O')
 clear h1 h2 h3 h4 h5
 go_wp2
 go_ret2
 obtain ⟨h1, h2, h3, h4, h5⟩ := H1.out
 rw [pad_of HPL.out] at h3
 exact ⟨q, O', rfl, h1, h2, h3, (Kp.of_below HB1.out).trans h4, h5.mono HB1.out.size⟩
end
end
section
open Go.RowKit Go.Lib
section
variable {w : World} {P : PL} {O : List Nat} {pgs : List (Option Bs)} {tb : Nat}
set_option maxHeartbeats 4000000 in
theorem read_any (ht : TrI w P tb) (hp : PoI w P O pgs) {q : Nat} {n : Nd} (hq : pgs[q]? = some (some (pgOf n))) (h : mayN n) (hf : nB n.l ≤ 223) :
  Calls Tryz.prog 186 #[.pointer (some ⟨tb, 0, none⟩), .int .i64 q] w fun e w' => ∃ v, e = .returned (.tuple #[ndV n.leaf v, .int .i64 0]) ∧ w'.ownsRow w.heap.size 299 3 v n.l.length (rowV enC n.l) ∧ Kp O w w' ∧ PoI w' P O pgs := by
 have c0 := ht.c0
 have hlt := Blk.lt ht
 have HN := hid (fun W => nget_any h hf W)
 have HLT := hid hp.lts
 have HP := hid hp
 have HPG := hid (fun (W : World) (hW : PoI W P O pgs) => pi_get hW hq)
 have HB := hid bad0
 clear ht hp hq h hf
 go_enter Tryz.func186, Tryz.ntmps186
 go_wp2_with fail
 have hbA : Below w.heap.size w (w.alloc (.cells #[.bool false, .slice none 0 0] 292)) := (Below.refl _ w).alloc (Nat.le_refl _) _
 (with_reducible refine (HPG.out _ (HP.out.below hbA)).mono ?_)
 rintro e W1 ⟨rfl, hk1, hp1⟩
 have hnoO : w.heap.size ∉ O := fun hx => by have := HLT.out _ hx; omega
 have hR1 : Blk W1 w.heap.size 292 #[.bool false, .slice none 0 0] := (Blk.new w _ _).kp hk1 hnoO
 have HK1 : Hid (Kp O w W1) := hid ((Kp.of_below hbA).trans hk1)
 have hw1 := hR1.lt
 have HR1 := hid hR1
 have HP1 := hid hp1
 clear hk1 hp1 hR1 hbA
 go_wp2_with fail
 (with_reducible refine (HN.out _).mono ?_)
 rintro e W2 ⟨v, rfl, hO2, hb2⟩
 unfold ndV
 obtain ⟨tp, tc, rfl⟩ := own_slice2 hO2
 have hR2 : Blk W2 w.heap.size 292 #[.bool false, .slice none 0 0] := HR1.out.below hb2 hw1
 have hs2 := hb2.size
 have HR2 := hid hR2
 have HO2 := hid hO2
 have HB2 := hid hb2
 clear hR2 hO2 hb2
 go_wp2_with fail
 have hR3 := HR2.out.alloc (.cells #[.bool n.leaf, .slice tp n.l.length tc] 292)
 have hM3 := Blk.new W2 292 #[.bool n.leaf, .slice tp n.l.length tc]
 have hb3 : Below W2.heap.size W2 (W2.alloc (.cells #[.bool n.leaf, .slice tp n.l.length tc] 292)) := (Below.refl _ W2).alloc (Nat.le_refl _) _
 obtain ⟨W3, hW3⟩ : ∃ W3, W3 = W2.alloc (.cells #[.bool n.leaf, .slice tp n.l.length tc] 292) := ⟨_, rfl⟩
 rw [← hW3] at hR3 hM3 hb3 ⊢
 have r0 : W3.cell? ⟨w.heap.size, 0, none⟩ = some (.bool false) := hR3.cell 0
 have r1 : W3.cell? ⟨w.heap.size, 1, none⟩ = some (.slice none 0 0) := hR3.cell 1
 have f0 := hR3.frozen 0
 have f1 := hR3.frozen 1
 have HS : Hid (W3.cell? ⟨W2.heap.size, 0, none⟩ = some (.bool n.leaf) ∧ W3.cell? ⟨W2.heap.size, 1, none⟩ = some (.slice tp n.l.length tc)) := hid ⟨hM3.cell 0, hM3.cell 1⟩
 have hw3 := hR3.lt
 have HR3 := hid hR3
 have HB3 := hid hb3
 have hne : W2.heap.size ≠ w.heap.size := by omega
 have hM4 := (hM3.far (p := ⟨w.heap.size, 0, none⟩) hne (.bool n.leaf)).far (p := ⟨w.heap.size, 1, none⟩) hne (.slice tp n.l.length tc)
 have hR4 := (hR3.set_ 0 (.bool n.leaf)).set_ 1 (.slice tp n.l.length tc)
 have HS2 : Hid (((W3.setCell ⟨w.heap.size, 0, none⟩ (.bool n.leaf)).setCell ⟨w.heap.size, 1, none⟩ (.slice tp n.l.length tc)).cell? ⟨W2.heap.size, 0, none⟩ = some (.bool n.leaf) ∧ ((W3.setCell ⟨w.heap.size, 0, none⟩ (.bool n.leaf)).setCell ⟨w.heap.size, 1, none⟩ (.slice tp n.l.length tc)).cell? ⟨W2.heap.size, 1, none⟩ = some (.slice tp n.l.length tc)) := hid ⟨hM4.cell 0, hM4.cell 1⟩
 have HR4 := hid hR4
 clear hR3 hM3 hb3 hW3 hM4 hR4
 go_region_held3 (fun W => W.cell? ⟨W2.heap.size, 0, none⟩ = some (.bool n.leaf) ∧ W.cell? ⟨W2.heap.size, 1, none⟩ = some (.slice tp n.l.length tc)) (first | exact HS.out | exact HS2.out) (first | (go_at_call 196; refine (HB.out _).mono ?_; rintro e w1 ⟨rfl, rfl⟩))
 go_wp2
 have q0 := HR4.out.cell 0
 have q1 := HR4.out.cell 1
 simp only [List.setIfInBounds_toArray, List.set_cons_zero, List.set_cons_succ, List.getElem?_toArray, List.getElem?_cons_zero, List.getElem?_cons_succ] at q0 q1
 have hkk : Kp O w ((W3.setCell ⟨w.heap.size, 0, none⟩ (.bool n.leaf)).setCell ⟨w.heap.size, 1, none⟩ (.slice tp n.l.length tc)) :=
  (((HK1.out.trans (Kp.of_below HB2.out)).trans (Kp.of_below HB3.out)).setCell (.inr (Nat.le_refl _)) _).setCell (.inr (Nat.le_refl _)) _
 refine bodyPost_ret (v := .tuple #[.agg #[.bool n.leaf, .slice tp n.l.length tc], .int .i64 0]) (by simp [results, Tryz.results186, go_sem, q0, q1]) rfl ⟨_, rfl, ?_, hkk.drew, ?_⟩
 ·refine row_of (own_base (row_of HO2.out (fun b hb => HB3.out.block b (HO2.out.lt b hb).2)) (Nat.le_of_lt hw1)) (fun b hb => ?_)
  have hb1 : W1.heap.size ≤ b := (HO2.out.lt b hb).1
  show ((W3.setCell ⟨w.heap.size, 0, none⟩ (.bool n.leaf)).setCell ⟨w.heap.size, 1, none⟩ (.slice tp n.l.length tc)).heap[b]? = _
  rw [Below.heap_setCell _ ⟨w.heap.size, 1, none⟩ _ b (by show b ≠ w.heap.size; omega), Below.heap_setCell _ ⟨w.heap.size, 0, none⟩ _ b (by show b ≠ w.heap.size; omega)]
 ·refine ((HP1.out.below HB2.out).below HB3.out).of_blocks (fun b hb => ?_)
  have hb1 := HLT.out b hb
  show ((W3.setCell ⟨w.heap.size, 0, none⟩ (.bool n.leaf)).setCell ⟨w.heap.size, 1, none⟩ (.slice tp n.l.length tc)).heap[b]? = _
  rw [Below.heap_setCell _ ⟨w.heap.size, 1, none⟩ _ b (by show b ≠ w.heap.size; omega), Below.heap_setCell _ ⟨w.heap.size, 0, none⟩ _ b (by show b ≠ w.heap.size; omega)]
end
end
end Go.Proofs.YtnnghcooidjlhaaGreat
