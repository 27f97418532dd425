/- Parts of the proof: Kza Kzc Kzd Kze Kzg. -/
import Derived.Defers
import Derived.Recover
import Derived.Laws.Pointers
import Derived.Laws.Externs
import Derived.Test.YtfkoaooceickiaaGreatH01
import Derived.Test.YtfkoaooceickiaaGreatH16
set_option linter.all false
set_option maxRecDepth 100000
namespace Go.Proofs.YtfkoaooceickiaaGreat
section
open Go.RowKit Go.Lib
theorem take_of_drop (cur : List Value) {i n : Nat} (hi : i ≤ n) : cur.take (n * 3) = cur.take (i * 3) ++ (cur.drop (i * 3)).take ((n - i) * 3) := by
 have e : n * 3 = i * 3 + (n - i) * 3 := by omega
 rw [e, List.take_add]
set_option maxHeartbeats 4000000 in
theorem insG_shift {w : World} {T T2 : TypeId} {cur arr : Array Value} {X : List Value} {g vb c i n : Nat} (hb : Blk w g T cur) (hcs : cur.size = c * 3) (hvb : Blk w vb T2 arr) (hXa : arr.toList.take 3 = X) (hX : X.length = 3) (hone : ∀ v ∈ cur.toList.take (n * 3), v.oneCell' = true) (hX1 : ∀ v ∈ X, v.oneCell' = true) (hne : vb ≠ g) (hi : i < n) (hroom : n + 1 ≤ c) (hn : n ≤ 100000) :
  Calls Tryz.prog 330 #[.slice (some ⟨g, 0, none⟩) n c, .int .i64 i, .slice (some ⟨vb, 0, none⟩) 1 1] w fun e w' => e = .returned (.slice (some ⟨g, 0, none⟩) (n + 1) c) ∧
   (∃ cur' : Array Value, Blk w' g T cur' ∧ cur'.size = c * 3 ∧ cur'.toList.take ((n + 1) * 3) = cur.toList.take (i * 3) ++ X ++ (cur.toList.drop (i * 3)).take ((n - i) * 3)) ∧ Kp [g] w w' := by
 have hXj : ∀ (j : Nat) v, X[j]? = some v → arr[j]? = some v := fun j v hj => by
  have hjl := (List.getElem?_eq_some_iff.1 hj).1
  rw [← Array.getElem?_toList]
  rw [← hXa, List.getElem?_take_of_lt (by omega)] at hj
  exact hj
 obtain ⟨R, hRd⟩ : ∃ R, R = (cur.toList.drop (i * 3)).take ((n - i) * 3) := ⟨_, rfl⟩
 have hsb : w.shape? g = some (T, cur.size) := by have : w.heap[g]? = _ := hb; simp [World.shape?, this]
 have hsa : w.shape? vb = some (T2, arr.size) := by
  have : w.heap[vb]? = some (.cells arr T2 (0, 0)) := hvb
  simp [World.shape?, this]
 have hov : ∀ lb cb o, (callFunc 395 #[.slice (some ⟨vb, 0, none⟩) 1 1, .slice (some ⟨g, o, none⟩) lb cb]).run Tryz.prog w = .ok (.value (.bool false)) w := fun lb cb o => by
  rw [run_callFunc_extern Tryz.func395 (by kernel_rfl) (by kernel_rfl) (by kernel_rfl) (e := Extern.SlicesOverlaps.overlaps #[372, 372] #[4]) (by kernel_rfl),
   Lib.run_overlaps_apart w 372 4 380 Tryz.underlying372 3 (fun w => by
    obtain ⟨i0, hi0, hz0, hz1, hz2⟩ := info_parts infEn
    simp [sizeOf, typeInfo, hi0, hz1]) ⟨vb, 0, none⟩ ⟨g, o, none⟩ 1 1 lb cb hne _ _ _ _ hsa hsb (by omega) (hvb.frozen 0) (hvb.frozen _)]
  rfl
 have hcl : cur.toList.length = c * 3 := by simpa using hcs
 have hR : R.length = (n - i) * 3 := by rw [hRd, List.length_take, List.length_drop, hcl]; omega
 have hRone : ∀ v ∈ R, v.oneCell' = true := fun v hv => hone v (by rw [take_of_drop cur.toList (by omega : i ≤ n), ← hRd]; exact List.mem_append_right _ hv)
 have hsome : ∀ j, j < c * 3 → (w.cell? ⟨g, j, none⟩).isSome = true := fun j hj => by rw [hb.cell, Array.getElem?_eq_getElem (by omega)]; rfl
 have hfz : ∀ j, w.frozen? ⟨g, j, none⟩ = false := fun j => hb.frozen j
 have hat : ∀ (j : Nat) v, R[j]? = some v → w.cell? ⟨g, i * 3 + j, none⟩ = some v := fun j v hj => by
  have hjl := (List.getElem?_eq_some_iff.1 hj).1
  rw [hb.cell, ← Array.getElem?_toList]
  rw [hRd, List.getElem?_take_of_lt (by omega), List.getElem?_drop] at hj
  exact hj
 have hcp1 : ∀ ty dc sc, (Builtin.copy_ #[372, 372] ty #[.slice (some ⟨g, (i + 1) * 3, none⟩) (n - i) dc, .slice (some ⟨g, i * 3, none⟩) (n + 1 - i) sc]).run Tryz.prog w.drew = .ok (goInt (n - i : Nat)) (w.drew.setCells g ((i + 1) * 3) R) := fun ty dc sc =>
  run_copy3 w.drew ty g ((i + 1) * 3) _ dc ⟨g, i * 3, none⟩ _ sc _ (n - i) (by simp only [Nat.min_def]; split <;> omega) hR
   (fun j v hj => by rw [Addr.add_lit]; exact hat j v hj) (fun j hj => hsome _ (by rw [hR] at hj; omega)) (fun j _ => hfz _) hRone
 obtain ⟨W1, hW1⟩ : ∃ W1, W1 = w.drew.setCells g ((i + 1) * 3) R := ⟨_, rfl⟩
 have hk1 : Kp [g] w W1 := by rw [hW1]; exact (Kp.refl _ w).drew.trans (kp_setCells g _ _ w.drew)
 have g1 : Blk W1 g T (setL cur.toList ((i + 1) * 3) R).toArray := by
  rw [hW1]
  exact heap_setCellsL g T (0, 0) R ((i + 1) * 3) w.drew cur hb (by rw [hR, hcs]; omega)
 have hsl : (setL cur.toList ((i + 1) * 3) R).length = c * 3 := by rw [setL_length (by rw [hR]; simp; omega)]; simpa using hcs
 have hvb1 : Blk W1 vb T2 arr := hvb.kp hk1 (by simpa using hne)
 have hcp2 : ∀ (W : World), (∀ x, W.cell? x = W1.cell? x) → (∀ x, W.frozen? x = W1.frozen? x) → ∀ ty dc, (Builtin.copy_ #[372, 372] ty #[.slice (some ⟨g, i * 3, none⟩) (n + 1 - i) dc, .slice (some ⟨vb, 0, none⟩) 1 1]).run Tryz.prog W = .ok (goInt (1 : Nat)) (W.setCells g (i * 3) X) := fun W hWc hWf ty dc =>
  run_copy3 W ty g (i * 3) _ dc ⟨vb, 0, none⟩ 1 1 _ 1 (by simp only [Nat.min_def]; split <;> omega) (by rw [hX])
   (fun j v hj => by rw [Addr.add_lit, hWc, Nat.zero_add, hvb1.cell]; exact hXj j v hj) (fun j hj => by rw [hWc, g1.cell, Array.getElem?_eq_getElem (by simp only [List.size_toArray]; rw [hsl]; omega)]; rfl) (fun j _ => by rw [hWf]; exact g1.frozen _) hX1
 have hO2 : ∀ (W : World), (∀ b, W.heap[b]? = W1.heap[b]?) → ∃ cur' : Array Value, Blk (W.setCells g (i * 3) X) g T cur' ∧ cur'.size = c * 3 ∧ cur'.toList.take ((n + 1) * 3) = cur.toList.take (i * 3) ++ X ++ R := fun W hWh => by
  have g2 := heap_setCellsL g T (0, 0) X (i * 3) W _ ((hWh g).trans g1) (by simp [hX, hsl]; omega)
  refine ⟨_, g2, ?_, ?_⟩
  ·simp only [List.size_toArray]
   rw [setL_length (by simp [hX, hsl]; omega), hsl]
  ·show List.take ((n + 1) * 3) (setL (setL cur.toList _ _) _ _) = _
   exact two_lay' (n := n) (c := c) hcl rfl hX hR (by omega) hroom
 rw [← hW1] at hcp1
 have HP := hid hcp1
 have HP2 := hid hcp2
 have HO2 := hid hO2
 have HK1 := hid hk1
 have HOV := hid hov
 have hz2 : ¬ ((i : Int) = (n : Int)) := by omega
 have hw1 : IntKind.i64.wrap ((i : Int) + 1) = (i : Int) + 1 := by rw [IntKind.wrap_i64]; omega
 have hw2 : IntKind.i64.wrap ((n : Int) + 1) = (n : Int) + 1 := by rw [IntKind.wrap_i64]; omega
 have hb0 : ¬ ((c : Int) < (n : Int) + 1) := by omega
 have hb1 : (0 : Int) ≤ (i : Int) + 1 := by omega
 have hin : i ≤ n := by omega
 have htn : ((i : Int) + 1).toNat = i + 1 := by omega
 have htn2 : ((n : Int) + 1).toNat = n + 1 := by omega
 have hb2 : ¬ (c = i + 1) := by omega
 have hb3 : (i : Int) ≤ (n : Int) + 1 := by omega
 have hb4 : ¬ (c = i) := by omega
 have hb5 : (i : Int) + 1 ≤ (n : Int) + 1 := by omega
 have hb6 : (0 : Int) ≤ (n : Int) + 1 := by omega
 have hb7 : (n : Int) + 1 ≤ (c : Int) := by omega
 have HRd := hid hRd
 clear hXa hXj hRd hsb hsa hR hsome hfz hat hcp1 hcp2 hO2 hk1 hvb1 hW1 hov hvb hb hcs hone hX1 hX hcl hRone g1 hsl
 go_enter Tryz.func330, Tryz.ntmps330
 go_wp2_with (simp only [HOV.out])
 go_region_law (refine step_copyR rfl _ _ 372 372 rfl _ _ (by simp [Act.eval, Act.put]) (by simp [Act.eval, Act.put]) (HP.out 3 (c - (i + 1)) (c - i)) ?_)
 go_wp2_with (with_reducible refine stopAt .copy rfl ?_)
 with_reducible refine goOn ?_
 refine wpL_copyR _ rfl _ _ 372 372 rfl _ _ rfl rfl (HP2.out _ (fun _ => rfl) (fun _ => rfl) _ _) ?_
 go_wp2
 go_ret
 refine ⟨rfl, ?_, HK1.out.trans (kp_setCells g _ _ _)⟩
 rw [← HRd.out]
 exact HO2.out _ (fun _ => rfl)
set_option maxHeartbeats 4000000 in
theorem insG_grow {w : World} {T T2 : TypeId} {cur arr : Array Value} {X : List Value} {g vb c i n : Nat} (hb : Blk w g T cur) (hcs : cur.size = c * 3) (hvb : Blk w vb T2 arr) (hXa : arr.toList.take 3 = X) (hX : X.length = 3) (hone : ∀ v ∈ cur.toList.take (n * 3), v.oneCell' = true) (hX1 : ∀ v ∈ X, v.oneCell' = true) (hi : i < n) (hnc : n ≤ c) (hroom : c < n + 1) (hn : n ≤ 100000) :
  Calls Tryz.prog 330 #[.slice (some ⟨g, 0, none⟩) n c, .int .i64 i, .slice (some ⟨vb, 0, none⟩) 1 1] w fun e w' => ∃ G cur', e = .returned (.slice (some ⟨w.heap.size, 0, none⟩) (n + 1) G) ∧ n + 1 ≤ G ∧
   Blk w' w.heap.size 380 cur' ∧ cur'.size = G * 3 ∧ cur'.toList.take ((n + 1) * 3) = cur.toList.take (i * 3) ++ X ++ (cur.toList.drop (i * 3)).take ((n - i) * 3) ∧ Below w.heap.size w w' := by
 have hcn : c = n := by omega
 subst hcn
 have hXj : ∀ (j : Nat) v, X[j]? = some v → arr[j]? = some v := fun j v hj => by
  have hjl := (List.getElem?_eq_some_iff.1 hj).1
  rw [← Array.getElem?_toList]
  rw [← hXa, List.getElem?_take_of_lt (by omega)] at hj
  exact hj
 obtain ⟨R, hRd⟩ : ∃ R, R = (cur.toList.drop (i * 3)).take ((c - i) * 3) := ⟨_, rfl⟩
 obtain ⟨A, hAd⟩ : ∃ A, A = cur.toList.take (i * 3) := ⟨_, rfl⟩
 have hq2 : g < w.heap.size := hb.lt
 obtain ⟨i0, hi0, hz0, hz1, hz2⟩ := info_parts infEn
 have hcl : cur.toList.length = c * 3 := by simpa using hcs
 have hR : R.length = (c - i) * 3 := by rw [hRd, List.length_take, List.length_drop, hcl]; omega
 have hA : A.length = i * 3 := by rw [hAd, List.length_take, hcl]; omega
 have hRone : ∀ v ∈ R, v.oneCell' = true := fun v hv => hone v (by rw [take_of_drop cur.toList (by omega : i ≤ c), ← hRd]; exact List.mem_append_right _ hv)
 have hold : (Builtin.firstCells i0.size i (.slice (some ⟨g, 0, none⟩) i c)).run Tryz.prog w.drew = .ok A.toArray w.drew := by
  rw [hz1]
  exact run_firstCells_some w.drew 3 i ⟨g, 0, none⟩ i c _ hA (fun j v hj => by
   rw [Addr.add_lit, Nat.zero_add]
   have hjl := (List.getElem?_eq_some_iff.1 hj).1
   have : w.cell? ⟨g, j, none⟩ = some v := by
    rw [hb.cell, ← Array.getElem?_toList]
    rw [hAd, List.getElem?_take_of_lt (by omega)] at hj
    exact hj
   exact this)
 obtain ⟨G, hG⟩ : ∃ G, G = grownCap w (c + 1) c 380 := ⟨_, rfl⟩
 obtain ⟨ROW, hROW⟩ : ∃ ROW : Array Value, ROW = A.toArray ++ Builtin.zeroCells (Value.agg #[.string ⟨#[]⟩, .string ⟨#[]⟩, .int .i64 0]).cells (c + 1 - i) ++ Builtin.zeroCells (Value.agg #[.string ⟨#[]⟩, .string ⟨#[]⟩, .int .i64 0]).cells (G - (c + 1)) := ⟨_, rfl⟩
 have hrz : ∀ ty, (Builtin.append_ #[372, 3] ty #[.slice (some ⟨g, 0, none⟩) i c, .int .i64 ((c : Int) + 1 - (i : Int))]).run Tryz.prog w = .ok (.slice (some ⟨w.heap.size, 0, none⟩) (c + 1) G) (w.drew.alloc (.cells ROW 380)) := fun ty => by
  have hh := Lib.run_append_grow_zeros w 372 3 ty 380 i0 _ .i64 .i64 Tryz.underlying372 Tryz.underlying3 hi0 hz0 (some ⟨g, 0, none⟩) i c A hold (c + 1 - i) (by omega) (by omega) (by omega) (by omega) (by rw [hz2]; omega) (by
   rw [hz2, show i + (c + 1 - i) = c + 1 by omega]
   exact growslice_fits (by omega) (by omega))
  rw [show i + (c + 1 - i) = c + 1 by omega, ← hG, ← hROW] at hh
  rw [show (c : Int) + 1 - (i : Int) = ((c + 1 - i : Nat) : Int) by omega]
  exact hh
 have hGn : c + 1 ≤ G := by rw [hG]; exact grownCap_ge w _ _ _
 have hGm : G ≤ maxLen := by rw [hG]; exact grownCap_le_maxLen w (c + 1) c 380 (by unfold maxLen; omega)
 have hRS : ROW.size = G * 3 := by
  rw [hROW]
  simp only [Array.size_append, List.size_toArray, zc_size, hA]
  omega
 obtain ⟨W1, hW1⟩ : ∃ W1, W1 = w.drew.alloc (.cells ROW 380) := ⟨_, rfl⟩
 have hs1 : W1.heap.size = w.heap.size + 1 := by rw [hW1]; simp
 have hb1 : Below w.heap.size w W1 := by rw [hW1]; exact (Below.refl _ w).drew.alloc (Nat.le_refl _) _
 have hk1 : Blk W1 w.heap.size 380 ROW := by rw [hW1]; exact Blk.new w.drew _ _
 rw [← hW1] at hrz
 have hN : ∀ j, j < G * 3 → (W1.cell? ⟨w.heap.size, j, none⟩).isSome = true := fun j hj => by
  rw [hk1.cell, Array.getElem?_eq_getElem (by omega)]; rfl
 have hNf : ∀ j, W1.frozen? ⟨w.heap.size, j, none⟩ = false := fun j => hk1.frozen j
 have hcpA : ∀ (W : World), (∀ x, W.cell? x = W1.cell? x) → (∀ x, W.frozen? x = W1.frozen? x) → ∀ ty dc, (Builtin.copy_ #[372, 372] ty #[.slice (some ⟨w.heap.size, i * 3, none⟩) (c + 1 - i) dc, .slice (some ⟨vb, 0, none⟩) 1 1]).run Tryz.prog W = .ok (goInt (1 : Nat)) (W.setCells w.heap.size (i * 3) X) := fun W hWc hWf ty dc =>
  run_copy3 W ty w.heap.size (i * 3) _ dc ⟨vb, 0, none⟩ 1 1 _ 1 (by simp only [Nat.min_def]; split <;> omega) (by rw [hX])
   (fun j v hj => by
    have := (hvb.below hb1 hvb.lt).cell j
    rw [Addr.add_lit, hWc, Nat.zero_add, this]; exact hXj j v hj) (fun j hj => by rw [hWc]; exact hN _ (by omega)) (fun j _ => by rw [hWf]; exact hNf _) hX1
 have hcpB : ∀ (W : World), (∀ y, W.cell? y = (W1.setCells w.heap.size (i * 3) X).cell? y) → (∀ y, W.frozen? y = (W1.setCells w.heap.size (i * 3) X).frozen? y) → ∀ ty dc sc, (Builtin.copy_ #[372, 372] ty #[.slice (some ⟨w.heap.size, (i + 1) * 3, none⟩) (c - i) dc, .slice (some ⟨g, i * 3, none⟩) (c - i) sc]).run Tryz.prog W = .ok (goInt (c - i : Nat)) (W.setCells w.heap.size ((i + 1) * 3) R) := fun W hWc hWf ty dc sc =>
  run_copy3 W ty w.heap.size ((i + 1) * 3) _ dc ⟨g, i * 3, none⟩ _ sc _ (c - i) (by simp only [Nat.min_def]; split <;> omega) hR
   (fun j v hj => by
    rw [Addr.add_lit, hWc, World.cell?_setCells_out _ _ _ _ _ (fun hh _ => by have : g = w.heap.size := hh; omega)]
    rw [hb1.cell (p := ⟨g, i * 3 + j, none⟩) hq2]
    have hjl := (List.getElem?_eq_some_iff.1 hj).1
    rw [hb.cell, ← Array.getElem?_toList]
    rw [hRd, List.getElem?_take_of_lt (by omega), List.getElem?_drop] at hj
    exact hj)
   (fun j hj => by rw [hWc]; exact kp_isSome (fun t ht => hN _ (by omega)) _ (hN _ (by rw [hR] at hj; omega)))
   (fun j _ => by rw [hWf, World.frozen?_setCells]; exact hNf _) hRone
 have hO : ∀ (Wa Wb : World), (∀ b, Wa.heap[b]? = W1.heap[b]?) → (∀ b, Wb.heap[b]? = (Wa.setCells w.heap.size (i * 3) X).heap[b]?) → ∃ cur' : Array Value, Blk (Wb.setCells w.heap.size ((i + 1) * 3) R) w.heap.size 380 cur' ∧ cur'.size = G * 3 ∧ cur'.toList.take ((c + 1) * 3) = A ++ X ++ R := fun Wa Wb hWa hWb => by
  have g0 : Wa.heap[w.heap.size]? = some (.cells ROW 380 (0, 0)) := (hWa _).trans hk1
  have g1 := heap_setCellsL w.heap.size 380 (0, 0) X (i * 3) Wa ROW g0 (by rw [hRS]; simp [hX]; omega)
  have hsl : (setL ROW.toList (i * 3) X).length = G * 3 := by rw [setL_length (by simp [hX, hRS]; omega)]; simpa using hRS
  have g2 := heap_setCellsL w.heap.size 380 (0, 0) R ((i + 1) * 3) Wb _ ((hWb _).trans g1) (by simp only [List.size_toArray]; rw [hR, hsl]; omega)
  refine ⟨_, g2, ?_, ?_⟩
  ·simp only [List.size_toArray]
   rw [setL_length (by rw [hsl, hR]; omega), hsl]
  ·show List.take ((c + 1) * 3) (setL (setL ROW.toList _ _) _ _) = _
   refine two_lay (n := c) (c := G) (by simpa using hRS) ?_ hX hR (by omega) hGn
   rw [hROW]
   simp only [Array.toList_append, List.append_assoc]
   rw [List.take_append_of_le_length (by rw [hA]; exact Nat.le_refl _), List.take_of_length_le (by rw [hA]; exact Nat.le_refl _)]
 have HB1 := hid hb1
 have HRZ := hid hrz
 have HPA := hid hcpA
 have HPB := hid hcpB
 have HO := hid hO
 have HW1 := hid hW1
 unfold maxLen at hGm
 have hz2 : ¬ ((i : Int) = (c : Int)) := by omega
 have hz3 : (c : Int) < (c : Int) + 1 := by omega
 have hw1 : IntKind.i64.wrap ((i : Int) + 1) = (i : Int) + 1 := by rw [IntKind.wrap_i64]; omega
 have hw2 : IntKind.i64.wrap ((c : Int) + 1) = (c : Int) + 1 := by rw [IntKind.wrap_i64]; omega
 have hw3 : IntKind.i64.wrap ((c : Int) + 1 - (i : Int)) = (c : Int) + 1 - (i : Int) := by rw [IntKind.wrap_i64]; omega
 have hb2 : (0 : Int) ≤ (i : Int) + 1 := by omega
 have hin : i ≤ c := by omega
 have htn : ((i : Int) + 1).toNat = i + 1 := by omega
 have hGi : ¬ (G = i) := by omega
 have hGim : ¬ (G = i + 1) := by omega
 have hci : ¬ (c = i) := by omega
 have hb3 : (i : Int) ≤ (c : Int) := by omega
 have hb4 : (i : Int) ≤ (c : Int) + 1 := by omega
 have hb5 : (i : Int) + 1 ≤ (c : Int) + 1 := by omega
 have HRd := hid hRd
 have HAd := hid hAd
 clear hR hA hold hG hROW hrz hRS hb1 hk1 hN hNf hcpA hcpB hO hW1 hvb hb hcs hone hX1 hX hcl hRone hRd hAd hXa hXj
 go_enter Tryz.func330, Tryz.ntmps330
 go_wp2_with (with_reducible refine stopAt .append rfl ?_)
 with_reducible refine goOn ?_
 refine Lib.wpList_append_run _ rfl _ _ 372 3 rfl _ _ rfl rfl _ _ (HRZ.out _) ?_
 go_wp2_with (with_reducible refine stopAt .copy rfl ?_)
 with_reducible refine goOn ?_
 refine wpL_copyR _ rfl _ _ 372 372 rfl _ _ rfl rfl (HPA.out _ (fun _ => rfl) (fun _ => rfl) _ _) ?_
 go_wp2_with fail
 go_region_law (refine step_copyR rfl _ _ 372 372 rfl _ _ (by simp [Act.eval, Act.put]) (by simp [Act.eval, Act.put]) (HPB.out (W1.setCells w.heap.size (i * 3) X).drew (fun _ => rfl) (fun _ => rfl) 3 (G - (i + 1)) (c - i)) ?_)
 go_wp2
 go_ret
 obtain ⟨cur', k1, k2, k3⟩ := HO.out W1 (W1.setCells w.heap.size (i * 3) X).drew (fun _ => rfl) (fun _ => rfl)
 refine ⟨G, cur', rfl, hGn, k1, k2, by rw [k3, HAd.out, HRd.out], ?_⟩
 refine HB1.out.trans (Below.trans (b := (W1.setCells w.heap.size (i * 3) X).drew) ?_ ?_)
 ·exact ((kp_setCells w.heap.size X (i * 3) W1).drew).to_below (by omega) (by simp)
 ·exact (kp_setCells w.heap.size _ _ _).to_below (by
   have := (kp_setCells w.heap.size X (i * 3) W1).size
   show w.heap.size ≤ (W1.setCells w.heap.size (i * 3) X).heap.size
   omega) (by simp)
end
section
noncomputable section
namespace Kv
open Go.RowKit
variable {P : Program}
section
variable {ρ : Ren} {h : HP} {w w' : World}
theorem Ext.move (hr : HR ρ h w) {i g κ : Nat} (hi : ρ i = some (g, κ)) (hl : h.get i ≠ .dead) {g' κ' : Nat} {o : Obj} {b : Blk} (hg : g' = g ∨ w.heap.size ≤ g') (hs : w.heap.size ≤ w'.heap.size) (hold : ∀ k, k < w.heap.size → k ≠ g → w'.heap[k]? = w.heap[k]?) (ho : w'.heap[g']? = some o)
    (e1 : w'.os = w.os) (e2 : w'.output = w.output) (e3 : w'.tape = w.tape) (hb : BR ρ κ' b o) : Ext ρ h w (ρ.put h.n g' κ') ((h.set i .dead).push b) w' := by
  have hin := (hr.at_ i g κ hi).1
  have hgl := hr.lt hi
  have hnn := hr.none (Nat.le_refl h.n)
  have hle := Ren.put_le (b := g') (κ := κ') hnn
  have hwf := HP.set_wf i .dead hr.wf
  have hget : ∀ j, ((h.set i .dead).push b).get j = if j = h.n then b else if j = i then .dead else h.get j := fun j => by
    rw [HP.get_push b hwf, HP.set_n, HP.get_set .dead hr.wf hin]
  have hput : ∀ j p, ρ.put h.n g' κ' j = some p → (j = h.n ∧ p = (g', κ')) ∨ (j ≠ h.n ∧ ρ j = some p) := fun j p hj => by
    unfold Ren.put at hj
    by_cases q : j = h.n
    · rw [if_pos q] at hj; injection hj with hj; exact .inl ⟨q, hj.symm⟩
    · rw [if_neg q] at hj; exact .inr ⟨q, hj⟩
  have hlive : ∀ j, j ≠ h.n → ((h.set i .dead).push b).get j ≠ .dead → j ≠ i ∧ h.get j ≠ .dead := fun j q hd => by
    rw [hget, if_neg q] at hd
    by_cases ej : j = i
    · rw [if_pos ej] at hd; exact absurd rfl hd
    · rw [if_neg ej] at hd; exact ⟨ej, hd⟩
  have far : ∀ j k κ2, j ≠ i → h.get j ≠ .dead → ρ j = some (k, κ2) → k ≠ g' := fun j k κ2 hji hd hj e => by
    rcases hg with rfl | hg
    · exact hji (hr.inj j i k κ2 κ hj (by rw [e]; exact hi) hd hl)
    · have := hr.lt hj; omega
  refine ⟨hle, ⟨HP.push_wf b hwf, fun j k κ2 hj => ?_, fun j1 j2 k κ1 κ2 h1 h2 d1 d2 => ?_, fun j => ?_⟩, fun j p h1 h2 => ?_, by rw [HP.push_n, HP.set_n]; omega, hs, fun k hk hd => hold k hk fun ek => hl (hd i κ (by rw [ek]; exact hi)), fun j k κ2 hj hne hk => ?_, e1, e2, e3⟩
  · rw [HP.push_n, HP.set_n, hget]
    rcases hput j _ hj with ⟨q, p⟩ | ⟨q, p⟩
    · injection p with p1 p2
      subst p1; subst p2
      rw [if_pos q]
      exact ⟨by omega, o, ho, hb.mono hle⟩
    · obtain ⟨h1, o', h2, h3⟩ := hr.at_ j k κ2 p
      rw [if_neg q]
      refine ⟨by omega, ?_⟩
      by_cases ej : j = i
      · rw [if_pos ej]
        exact ⟨_, Array.getElem?_eq_getElem (Nat.lt_of_lt_of_le (hr.lt p) hs), trivial⟩
      · rw [if_neg ej]
        by_cases hd : h.get j = .dead
        · rw [hd]
          exact ⟨_, Array.getElem?_eq_getElem (Nat.lt_of_lt_of_le (hr.lt p) hs), trivial⟩
        · refine ⟨o', ?_, h3.mono hle⟩
          rw [hold k (hr.lt p) (fun e => ej (hr.inj j i k κ2 κ p (by rw [e]; exact hi) hd hl))]
          exact h2
  · rcases hput j1 _ h1 with ⟨q1, p1⟩ | ⟨q1, p1⟩
    · rcases hput j2 _ h2 with ⟨q2, p2⟩ | ⟨q2, p2⟩
      · omega
      · injection p1 with p1 _
        obtain ⟨m1, m2⟩ := hlive j2 q2 d2
        exact absurd p1 (far j2 k κ2 m1 m2 p2)
    · obtain ⟨m1, m2⟩ := hlive j1 q1 d1
      rcases hput j2 _ h2 with ⟨q2, p2⟩ | ⟨q2, p2⟩
      · injection p2 with p2 _
        exact absurd p2 (far j1 k κ1 m1 m2 p1)
      · exact hr.inj j1 j2 k κ1 κ2 p1 p2 m2 (hlive j2 q2 d2).2
  · rw [HP.push_n, HP.set_n, hget]
    by_cases q : j = h.n
    · rw [if_pos q]
      refine .inr ⟨_, κ', o, fun j' p hj => ?_, hb.mono hle⟩
      rcases hput j' p hj with ⟨q', _⟩ | ⟨_, p'⟩
      · omega
      · have := hr.dom j' p p'; omega
    · rw [if_neg q]
      by_cases ej : j = i
      · rw [if_pos ej]; exact .inl rfl
      · rw [if_neg ej]; exact (hr.low j).mono (Nat.le_succ _)
  · rcases hput j _ h1 with ⟨q, _⟩ | ⟨q, p'⟩
    · omega
    · rw [p'] at h2; cases h2
  · rcases hput j _ hj with ⟨q, p⟩ | ⟨q, p⟩
    · injection p with p1 p2
      subst p1
      rcases hg with rfl | hg
      · exact ⟨i, κ, hi, hl⟩
      · omega
    · exact ⟨j, κ2, p, (hlive j q hne).2⟩
theorem cpU_get (s : RT AV) : ∀ (n i k : Nat) (t : RT AV) (z : Nat), t.wf z → k + n ≤ z → ∀ m, m < z → (cpU s n i k t).get m = if k ≤ m ∧ m < k + n then s.get (i + (m - k)) else t.get m
  | 0, i, k, t, z, _, _, m, _ => by rw [if_neg (by omega)]; rfl
  | n + 1, i, k, t, z, hw, hk, m, hm => by
    rw [cpU_succ, cpU_get s n (i + 1) (k + 1) _ z (RT.wf_set _ t z k hw) (by omega) m hm, RT.get_set _ t z k m hw (by omega) hm]
    by_cases h1 : k + 1 ≤ m ∧ m < k + 1 + n
    · rw [if_pos h1, if_pos (by omega), show i + 1 + (m - (k + 1)) = i + (m - k) by omega]
    · rw [if_neg h1]
      by_cases h2 : m = k
      · rw [if_pos h2, if_pos (by omega), show i + (m - k) = i by omega]
      · rw [if_neg h2, if_neg (by omega)]
theorem cpU_wf (s : RT AV) : ∀ (n i k : Nat) (t : RT AV) (z : Nat), t.wf z → (cpU s n i k t).wf z
  | 0, _, _, _, _, h => h
  | n + 1, i, k, t, z, h => by rw [cpU_succ]; exact cpU_wf s n _ _ _ z (RT.wf_set _ t z k h)
def insT (z : AV) (t s : RT AV) (l p : Nat) : RT AV := cpU t (l - p) p (p + 1) ((cpU t p 0 0 (.mk z (dep (l + 1)))).set p (s.get 0))
theorem insT_get (z : AV) (t s : RT AV) {l p m : Nat} (hp : p < l) (hm : m < l + 1) : (insT z t s l p).get m = if m < p then t.get m else if m = p then s.get 0 else t.get (m - 1) := by
  have hd := dep_le (l + 1)
  have w0 := RT.mk_wf z (dep (l + 1))
  have w1 := cpU_wf t p 0 0 _ _ w0
  have w2 := RT.wf_set (s.get 0) _ _ p w1
  unfold insT
  rw [cpU_get t (l - p) p (p + 1) _ _ w2 (by omega) m (by omega), RT.get_set _ _ _ p m w1 (by omega) (by omega), cpU_get t p 0 0 _ _ w0 (by omega) m (by omega)]
  by_cases h1 : m < p
  · rw [if_neg (by omega), if_neg (by omega), if_pos (by omega), if_pos h1, show 0 + (m - 0) = m by omega]
  · by_cases h2 : m = p
    · rw [if_neg (by omega), if_pos h2, if_neg h1, if_pos h2]
    · rw [if_pos (by omega), if_neg h1, if_neg h2, show p + (m - (p + 1)) = m - 1 by omega]
theorem insT_wf (z : AV) (t s : RT AV) (l p : Nat) : (insT z t s l p).wf (2 ^ dep (l + 1)) := cpU_wf _ _ _ _ _ _ (RT.wf_set _ _ _ _ (cpU_wf _ _ _ _ _ _ (RT.mk_wf _ _)))
theorem one_cell {v : Value} (h : oneV v = true) : v.oneCell' = true := by cases v <;> first | rfl | (cases h; done)
theorem ins_br {n k l p κ κ2 κ' : Nat} {t s : RT AV} {cur arr cur' : Array Value} {T T2 T' : TypeId} {z : AV} (hB : BR ρ κ (.row 3 n t) (.cells cur T (0, 0))) (hB2 : BR ρ κ2 (.row 3 k s) (.cells arr T2 (0, 0))) (hln : l ≤ n) (hk : 1 ≤ k) (hp : p < l) (hsz : cur'.size = κ') (hlen : (l + 1) * 3 ≤ κ')
    (hc : cur'.toList.take ((l + 1) * 3) = cur.toList.take (p * 3) ++ arr.toList.take 3 ++ (cur.toList.drop (p * 3)).take ((l - p) * 3)) : BR ρ κ' (.row 3 (l + 1) (insT z t s l p)) (.cells cur' T' (0, 0)) := by
  obtain ⟨c1, ty1, fr1, e, h1, h2, h3, h4, h5, h6⟩ := hB
  injection e with e1 e2 e3
  subst e1
  obtain ⟨c2, ty2, fr2, e', g1, g2, g3, g4, g5, g6⟩ := hB2
  injection e' with e1 e2 e3
  subst e1
  have hcl : cur.toList.length = κ := by rw [Array.length_toList]; exact h1
  have hal : arr.toList.length = κ2 := by rw [Array.length_toList]; exact g1
  have hA : (cur.toList.take (p * 3)).length = p * 3 := by rw [List.length_take]; omega
  have hX : (arr.toList.take 3).length = 3 := by rw [List.length_take]; omega
  refine ⟨_, _, _, rfl, hsz, rfl, by omega, by omega, ⟨_, insT_wf z t s l p, dep_le _⟩, fun m hm => ?_⟩
  have e0 : (cur'.toList.drop (m * 3)).take 3 = ((cur'.toList.take ((l + 1) * 3)).drop (m * 3)).take 3 := by
    rw [List.drop_take, List.take_take, Nat.min_eq_left (by omega)]
  rw [e0, hc, insT_get z t s hp hm]
  by_cases q1 : m < p
  · rw [if_pos q1, List.append_assoc, List.drop_append_of_le_length (by omega), List.take_append_of_le_length (by rw [List.length_drop]; omega), List.drop_take, List.take_take, Nat.min_eq_left (by omega)]
    exact h6 m (by omega)
  · rw [if_neg q1]
    by_cases q2 : m = p
    · rw [if_pos q2, q2, List.append_assoc, List.drop_left' hA, List.take_left' hX]
      have := g6 0 (by omega)
      rwa [Nat.zero_mul, List.drop_zero] at this
    · rw [if_neg q2]
      have e1 : m * 3 = (cur.toList.take (p * 3) ++ arr.toList.take 3).length + (m - 1 - p) * 3 := by rw [List.length_append, hA, hX]; omega
      rw [e1, List.drop_length_add_append, List.drop_take, List.take_take, Nat.min_eq_left (by omega), List.drop_drop, show p * 3 + (m - 1 - p) * 3 = (m - 1) * 3 by omega]
      exact h6 (m - 1) (by omega)
theorem insertS_ok {f : FuncId} {fn : Func} {c0 : Code} {z : AV} (e1 : P.funcs[f]? = some fn) (e2 : fn.body = some c0) (e3 : fn.name ≠ "runtime.NumGoroutine")
    (hf : ∀ {w : World} {T T2 : TypeId} {cur arr : Array Value} {X : List Value} {g vb c i n : Nat}, w.heap[g]? = some (.cells cur T (0, 0)) → cur.size = c * 3 → w.heap[vb]? = some (.cells arr T2 (0, 0)) → arr.toList.take 3 = X → X.length = 3 → (∀ v ∈ cur.toList.take (n * 3), v.oneCell' = true) → (∀ v ∈ X, v.oneCell' = true) → vb ≠ g → i < n → n ≤ c → n ≤ 100000 →
      Calls P f #[.slice (some ⟨g, 0, none⟩) n c, .int .i64 i, .slice (some ⟨vb, 0, none⟩) 1 1] w fun e w' => ∃ (g' : Nat) (T' : TypeId) (c' : Nat) (cur' : Array Value), e = .returned (.slice (some ⟨g', 0, none⟩) (n + 1) c') ∧ n + 1 ≤ c' ∧ (g' = g ∨ w.heap.size ≤ g') ∧ w'.heap[g']? = some (.cells cur' T' (0, 0)) ∧ cur'.size = c' * 3 ∧ cur'.toList.take ((n + 1) * 3) = cur.toList.take (i * 3) ++ X ++ (cur.toList.drop (i * 3)).take ((n - i) * 3) ∧ Kp [g] w w') :
    ∀ args h v h', insertS z args h = some (v, h') → CallR P f args h v h' := fun args h v h' e => by
  unfold insertS at e
  split at e
  · rename_i i o l w3 p j q m c
    rw [brec] at e
    split at e
    · rename_i hcond
      obtain ⟨c1, hcond⟩ := and_split hcond
      obtain ⟨c2, hcond⟩ := and_split hcond
      obtain ⟨c3, hcond⟩ := and_split hcond
      obtain ⟨c4, hcond⟩ := and_split hcond
      obtain ⟨c5, hcond⟩ := and_split hcond
      obtain ⟨c6, hcond⟩ := and_split hcond
      obtain ⟨c7, c8⟩ := and_split hcond
      have c1 := (beq_iff _ _).1 c1
      have c2 : p + 1 ≤ l := (ble_iff _ _).1 c2
      have c3 := (beq_iff _ _).1 c3
      have c4 := (ble_iff _ _).1 c4
      have c5 := (beq_iff _ _).1 c5
      have c6 := (beq_iff _ _).1 c6
      have c7 := (beq_iff _ _).1 c7
      have c8 : i ≠ j := fun q => by subst q; rw [(beq_iff i i).2 rfl] at c8; cases c8
      subst c1; subst c3; subst c5; subst c6; subst c7
      split at e
      · rename_i u n t u2 k s hgi hgj
        rw [brec] at e
        split at e
        · rename_i hcond
          obtain ⟨d1, hcond⟩ := and_split hcond
          obtain ⟨d2, hcond⟩ := and_split hcond
          obtain ⟨d3, d4⟩ := and_split hcond
          have d1 := (beq_iff _ _).1 d1
          have d2 := (beq_iff _ _).1 d2
          have d3 := (ble_iff _ _).1 d3
          have d4 := (ble_iff _ _).1 d4
          subst d1; subst d2
          injection e with e
          injection e with q1 q2
          subst q1; subst q2
          intro ρ args' w K hv hr hK
          obtain ⟨v1, l1, rfl, ⟨g, κ, cc, hi, rfl, hκ, hlc, _⟩, v2, l2, rfl, hv2, v3, l3, rfl, ⟨gv, κv, hj, rfl, _⟩, hl⟩ := hv
          have hl : l3 = [] := hl
          subst hl
          obtain ⟨rfl, hp1, _⟩ := VR_int.1 hv2
          obtain ⟨ob, ho, hB⟩ := hr.obj hi
          obtain ⟨ob2, ho2, hB2⟩ := hr.obj hj
          rw [hgi] at hB
          rw [hgj] at hB2
          obtain ⟨cur, T, fr, rfl, k1, k2, k3, k4, k5, k6⟩ := id hB
          obtain ⟨arr, T2, fr2, rfl, m1, m2, m3, m4, m5, m6⟩ := id hB2
          have k2 : fr = (0, 0) := k2
          have m2 : fr2 = (0, 0) := m2
          subst k2; subst m2
          have hne : gv ≠ g := fun q => c8 (hr.inj i j g κ κv hi (by rw [← q]; exact hj) (by rw [hgi]; intro q; cases q) (by rw [hgj]; intro q; cases q))
          have hp2 : toI 3 p = (p : Int) := toI_nat hp1 (fun _ => by show p < 9223372036854775808; omega)
          have hcur : cur.size = cc * 3 := by omega
          have hX : (arr.toList.take 3).length = 3 := by rw [List.length_take, Array.length_toList]; omega
          have one : ∀ x ∈ cur.toList.take (l * 3), x.oneCell' = true := fun x hx => by
            obtain ⟨a, ha⟩ := List.mem_iff_getElem?.1 hx
            have hal := (List.getElem?_eq_some_iff.1 ha).1
            rw [List.length_take] at hal
            rw [List.getElem?_take_of_lt (by omega)] at ha
            refine one_cell ((k6 (a / 3) (by omega)).one x (List.mem_iff_getElem?.2 ⟨a % 3, ?_⟩))
            rw [List.getElem?_take_of_lt (Nat.mod_lt _ (by omega)), List.getElem?_drop, show a / 3 * 3 + a % 3 = a by omega]
            exact ha
          have oneX : ∀ x ∈ arr.toList.take 3, x.oneCell' = true := fun x hx => by
            have := m6 0 (by omega)
            rw [Nat.zero_mul, List.drop_zero] at this
            exact one_cell (this.one x hx)
          rw [hp2]
          refine Upon.calls e1 e2 e3 ((hf (w := w) (X := arr.toList.take 3) ho hcur ho2 rfl hX one oneX hne (by omega) hlc c4).mono fun e w' he => ?_)
          obtain ⟨g', T', c', cur', rfl, n1, n2, n3, n4, n5, n6⟩ := he
          refine ⟨_, rfl, ?_⟩
          have hbr : BR ρ (c' * 3) (.row 3 (l + 1) (insT z t s l p)) (.cells cur' T' (0, 0)) := ins_br hB hB2 d3 d4 (by omega) n4 (Nat.mul_le_mul_right _ n1) n5
          have x := Ext.move (w' := w') hr hi (by rw [hgi]; intro q; cases q) n2 n6.size (fun b hb hbg => n6.block b hb (by simpa using hbg)) n3 n6.os n6.output n6.tape hbr
          exact hK _ _ w' x ⟨g', c' * 3, c', Ren.put_self _ _ _ _, rfl, by omega, n1, by omega⟩
        · cases e
      · cases e
    · cases e
  · cases e
end
end Kv
end
end
section
set_option autoImplicit false
open Go.RowKit Go.Lib
theorem idle_all (p : Addr) (w : World) : CallsD Tryz.prog 404 #[.pointer (some p)] .returning w fun e u' w' => e = .returned (.tuple #[]) ∧ u' = .returning ∧ w' = w := by
 refine callsD_of_wpS Tryz.func404 rfl fun c₀ cs hu => ?_
 apply wpS_seq
 apply wpS_region
 simp [wpOpsS, go_sem, recoverD, hu, Tryz.ntmps404, Exit.thenS]
 refine wpS_of_wp ?_
 go_wp2
 cases c₀
 simp_all [bodyPostS, results, Tryz.results404]
set_option maxHeartbeats 4000000 in
theorem idle_lay (p : Addr) (w : World) : CallsD Tryz.prog 425 #[.pointer (some p)] .returning w fun e u' w' => e = .returned (.tuple #[]) ∧ u' = .returning ∧ w' = w := by
 refine callsD_of_wpS Tryz.func425 rfl fun c₀ cs hu => ?_
 apply wpS_seq
 apply wpS_region
 simp [wpOpsS, go_sem, recoverD, hu, Tryz.ntmps425, Exit.thenS]
 refine wpS_of_wp ?_
 go_wp2
 cases c₀
 simp_all [bodyPostS, results, Tryz.results425]
set_option maxHeartbeats 4000000 in
theorem idle_caught (p : Addr) (w : World) : CallsD Tryz.prog 218 #[.pointer (some p)] .returning w fun e u' w' => e = .returned (.tuple #[]) ∧ u' = .returning ∧ w' = w := by
 refine callsD_of_wpS Tryz.func218 rfl fun c₀ cs hu => ?_
 apply wpS_seq
 apply wpS_region
 simp [wpOpsS, go_sem, recoverD, hu, Tryz.ntmps218, Exit.thenS]
 refine wpS_of_wp ?_
 go_wp2
 cases c₀
 simp_all [bodyPostS, results, Tryz.results218]
theorem ext_bits (b : Nat) (w : World) : (callFunc 229 #[.float .f64 b]).run Tryz.prog w = .ok (.value (.int .u64 b)) w := by
 rw [run_callFunc_extern (e := Extern.MathFloatBits.float64bits) Tryz.func229 (by kernel_rfl) (by kernel_rfl) (by kernel_rfl) (by kernel_rfl)]
 rfl
theorem ext_from (b : Int) (w : World) : (callFunc 108 #[.int .u64 b]).run Tryz.prog w = .ok (.value (.float .f64 b.toNat)) w := by
 rw [run_callFunc_extern (e := Extern.MathFloatBits.float64frombits) Tryz.func108 (by kernel_rfl) (by kernel_rfl) (by kernel_rfl) (by kernel_rfl)]
 rfl
theorem ext_cmp (a b : ByteArray) (w : World) : (callFunc 442 #[.string a, .string b]).run Tryz.prog w = .ok (.value (.int .i64 (Lib.compareBytes a.data.toList b.data.toList))) w := by
 rw [run_callFunc_extern Tryz.func442 (by kernel_rfl) (by kernel_rfl) (by kernel_rfl) (e := Extern.BytealgCompare.compare) (by kernel_rfl), Lib.run_compareString]
 rfl
theorem ins_told {w : World} {T T2 : TypeId} {cur arr : Array Value} {X : List Value} {g vb c i n : Nat} (hb : w.heap[g]? = some (.cells cur T (0, 0))) (hcs : cur.size = c * 3) (hvb : w.heap[vb]? = some (.cells arr T2 (0, 0))) (hXa : arr.toList.take 3 = X) (hX : X.length = 3) (hone : ∀ v ∈ cur.toList.take (n * 3), v.oneCell' = true) (hX1 : ∀ v ∈ X, v.oneCell' = true) (hne : vb ≠ g) (hi : i < n) (hnc : n ≤ c) (hn : n ≤ 100000) :
  Calls Tryz.prog 330 #[.slice (some ⟨g, 0, none⟩) n c, .int .i64 i, .slice (some ⟨vb, 0, none⟩) 1 1] w fun e w' => ∃ (g' : Nat) (T' : TypeId) (c' : Nat) (cur' : Array Value), e = .returned (.slice (some ⟨g', 0, none⟩) (n + 1) c') ∧ n + 1 ≤ c' ∧ (g' = g ∨ w.heap.size ≤ g') ∧ w'.heap[g']? = some (.cells cur' T' (0, 0)) ∧ cur'.size = c' * 3 ∧ cur'.toList.take ((n + 1) * 3) = cur.toList.take (i * 3) ++ X ++ (cur.toList.drop (i * 3)).take ((n - i) * 3) ∧ Kp [g] w w' := by
 rcases Nat.lt_or_ge c (n + 1) with hc | hc
 ·refine (insG_grow (T := T) (T2 := T2) (arr := arr) hb hcs hvb hXa hX hone hX1 hi hnc hc hn).mono ?_
  rintro e w' ⟨G, cur', rfl, k1, k2, k3, k4, k5⟩
  exact ⟨_, _, G, cur', rfl, k1, .inr (Nat.le_refl _), k2, k3, k4, Kp.of_below k5⟩
 ·refine (insG_shift (T := T) (T2 := T2) (arr := arr) hb hcs hvb hXa hX hone hX1 hne hi hc hn).mono ?_
  rintro e w' ⟨rfl, ⟨cur', k1, k2, k3⟩, k4⟩
  exact ⟨_, _, c, cur', rfl, hc, .inl rfl, k1, k2, k3, k4⟩
end
section
set_option maxRecDepth 100000
noncomputable section
namespace Kv
open Go.RowKit Go.Lib
theorem P_mixed : Tryz.prog.follows .mixedOrders = true := by kernel_rfl
theorem P_noNum : NoNum Tryz.prog := fun f fn h _ e => by
  have h1 : (Tryz.prog.funcs.toList.all fun fn => !(fn.name == "runtime.NumGoroutine")) = true := by decide +kernel
  have h2 := List.all_eq_true.1 h1 fn (by rw [← Array.getElem?_toList] at h; exact List.mem_of_getElem? h)
  rw [e] at h2
  simp at h2
def sel (l : List (Nat × (List AV → HP → Option (AV × HP)))) (f : Nat) : Option (List AV → HP → Option (AV × HP)) :=
  List.rec (motive := fun _ => Option _) none (fun a _ ih => @Bool.rec (fun _ => _) ih (some a.2) (Nat.beq f a.1)) l
theorem sel_mem {f : Nat} {g : List AV → HP → Option (AV × HP)} : ∀ l, sel l f = some g → ∃ p ∈ l, p.1 = f ∧ p.2 = g
  | [], h => by cases h
  | p :: l, h => by
    have h : @Bool.rec (fun _ => Option (List AV → HP → Option (AV × HP))) (sel l f) (some p.2) (Nat.beq f p.1) = some g := h
    rw [brec_beq] at h
    split at h
    · next q => injection h with h; exact ⟨p, List.mem_cons_self, q.symm, h⟩
    · obtain ⟨q, h1, h2⟩ := sel_mem l h; exact ⟨q, List.mem_cons_of_mem _ h1, h2⟩
def isIn (l : List Nat) (f : Nat) : Bool := List.rec (motive := fun _ => Bool) false (fun a _ ih => @Bool.rec (fun _ => _) ih true (Nat.beq f a)) l
theorem isIn_mem {f : Nat} : ∀ l, isIn l f = true → f ∈ l
  | [], h => by cases h
  | p :: l, h => by
    have h : @Bool.rec (fun _ => Bool) (isIn l f) true (Nat.beq f p) = true := h
    rw [brec_beq] at h
    split at h
    · next q => rw [q]; exact List.mem_cons_self
    · exact List.mem_cons_of_mem _ (isIn_mem l h)
def Sb : Sm := ⟨sel [(229, ext1), (108, ext2), (442, ext3), (407, crcS), (330, insertS (.agg [.str 0 0, .str 0 0, .int 3 0]))], isIn [404, 425, 218]⟩
theorem idle_of {f : FuncId} (hb : ∃ fn c, Tryz.prog.funcs[f]? = some fn ∧ fn.body = some c ∧ fn.name ≠ "runtime.NumGoroutine") (hr : ∀ p w, CallsD Tryz.prog f #[.pointer (some p)] .returning w fun e u' w' => e = .returned (.tuple #[]) ∧ u' = .returning ∧ w' = w) : Idle Tryz.prog f :=
  ⟨hb, hr⟩
theorem body_some {fn : Func} (h : fn.body.isSome = true) : ∃ c, fn.body = some c := by
  cases e : fn.body with
  | none => rw [e] at h; cases h
  | some c => exact ⟨c, rfl⟩
theorem has_body (f : FuncId) (h : (match Tryz.prog.funcs[f]? with | some fn => fn.body.isSome | none => false) = true) : ∃ fn c, Tryz.prog.funcs[f]? = some fn ∧ fn.body = some c ∧ fn.name ≠ "runtime.NumGoroutine" := by
  cases e : Tryz.prog.funcs[f]? with
  | none => rw [e] at h; cases h
  | some fn =>
    rw [e] at h
    obtain ⟨c, hc⟩ := body_some h
    exact ⟨fn, c, rfl, hc, P_noNum f fn e h⟩
theorem told_crc : ∀ args h v h', crcS args h = some (v, h') → CallR Tryz.prog 407 args h v h' := by
  obtain ⟨fn, c, e1, e2, e3⟩ := has_body 407 (by decide +kernel)
  exact crcS_ok e1 e2 e3 (fun r s w hr hs => more_any r s w hr hs)
theorem told_ins : ∀ args h v h', insertS (.agg [.str 0 0, .str 0 0, .int 3 0]) args h = some (v, h') → CallR Tryz.prog 330 args h v h' := by
  obtain ⟨fn, c, e1, e2, e3⟩ := has_body 330 (by decide +kernel)
  exact insertS_ok e1 e2 e3 ins_told
theorem told_bits : ∀ args h v h', ext1 args h = some (v, h') → CallR Tryz.prog 229 args h v h' := ext1_ok ext_bits
theorem told_from : ∀ args h v h', ext2 args h = some (v, h') → CallR Tryz.prog 108 args h v h' := ext2_ok ext_from
theorem told_cmp : ∀ args h v h', ext3 args h = some (v, h') → CallR Tryz.prog 442 args h v h' := fun args h v h' e => by
  refine ext3_ok (P := Tryz.prog) (f := 442) ?_ args h v h' e
  intro a b w
  rw [ext_cmp a b w]
theorem Sb_ok : SmOk Tryz.prog Sb where
  s := fun f g hg => by
    unfold Sb at hg
    dsimp only at hg
    obtain ⟨p, hp, rfl, rfl⟩ := sel_mem _ hg
    simp only [List.mem_cons, List.not_mem_nil, or_false] at hp
    rcases hp with rfl | rfl | rfl | rfl | rfl
    · exact told_bits
    · exact told_from
    · exact told_cmp
    · exact told_crc
    · exact told_ins
  i := fun f h => by
    unfold Sb at h
    dsimp only at h
    have hp := isIn_mem _ h
    simp only [List.mem_cons, List.not_mem_nil, or_false] at hp
    rcases hp with rfl | rfl | rfl
    · exact idle_of (has_body _ (by decide +kernel)) idle_all
    · exact idle_of (has_body _ (by decide +kernel)) idle_lay
    · exact idle_of (has_body _ (by decide +kernel)) idle_caught
theorem EL.nil {P : Program} : ∀ e ∈ ([] : List Ent), EntOK P e := fun _ h => by cases h
theorem EL.cons {P : Program} {e : Ent} {l : List Ent} (h : EntOK P e) (hl : ∀ e ∈ l, EntOK P e) : ∀ x ∈ e :: l, EntOK P x := fun x hx => by
  rcases List.mem_cons.1 hx with rfl | hx
  · exact h
  · exact hl x hx
theorem ent_calls {P : Program} {e : Ent} (he : EntOK P e) {fn : Func} {c : Code} (e1 : P.funcs[e.f]? = some fn) (e2 : fn.body = some c) (e3 : fn.name ≠ "runtime.NumGoroutine") {ρ : Ren} {args' : List Value} {w : World} (hv : VRs ρ e.a args') (hr : HR ρ e.h w) :
    Calls P e.f args'.toArray w fun r w' => ∃ ρ' v', r = .returned v' ∧ Ext ρ e.h w ρ' e.h' w' ∧ VR ρ' e.v v' := by
  have := he.c ρ args' w (fun v' w' => ∃ ρ', Ext ρ e.h w ρ' e.h' w' ∧ VR ρ' e.v v') hv hr (fun ρ' v' w' x h => ⟨ρ', x, h⟩)
  unfold Upon at this
  rw [r_callFunc e1 e2 e3] at this
  refine this.mono fun r w' h => ?_
  cases r with
  | returned v => obtain ⟨ρ', x, h⟩ := h; exact ⟨ρ', v, rfl, x, h⟩
  | panicked c => exact h.elim
  | outgrown => exact h.elim
theorem hr_none {d n : Nat} {p : PT} {w : World} (hs : p.shape d = true) (hw : (litH d p n).wf) (hl : ∀ i, (litH d p n).get i = .dead) : HR (fun _ => none) (litH d p n) w :=
  ⟨hw, fun i b κ h => (by cases h), fun i j b κ κ' h => (by cases h), fun i => .inl (hl i)⟩
theorem wf_d (d n : Nat) (h : n ≤ 2 ^ d) : (litH d .d n).wf := ⟨RT.mk_wf _ _, h⟩
theorem get_d (d n i : Nat) : (litH d .d n).get i = .dead := by
  rw [HP.get_eq]
  split
  · exact RT.mk_get _ _ _
  · rfl
end Kv
end
end
section
set_option maxRecDepth 100000
noncomputable section
namespace Kv
open Go.RowKit
mutual
def conc : AV → Option Value
  | .fl x => some (.float .f64 x)
  | .nilp => some (.pointer none)
  | .nils => some (.slice none 0 0)
  | .nilf => some .nilFunc
  | .nili => some .nilIface
  | .tup l => (concs l).map fun l => .tuple l.toArray
  | .agg l => (concs l).map fun l => .agg l.toArray
  | .str l x => some (.string ⟨((bys l x).map UInt8.ofNat).toArray⟩)
  | .bl b => some (.bool b)
  | .int c x => some (.int (kindOf c) (toI c x))
  | _ => none
def concs : List AV → Option (List Value)
  | [] => some []
  | a :: l => match conc a, concs l with
    | some v, some vs => some (v :: vs)
    | _, _ => none
end
mutual
theorem conc_ok {ρ : Ren} : ∀ (a : AV) (v v' : Value), conc a = some v → VR ρ a v' → v' = v
  | .fl x, v, v', h, k => by injection h with h; rw [← h]; exact k
  | .nilp, v, v', h, k => by injection h with h; rw [← h]; exact k
  | .nils, v, v', h, k => by injection h with h; rw [← h]; exact k
  | .nilf, v, v', h, k => by injection h with h; rw [← h]; exact k
  | .nili, v, v', h, k => by injection h with h; rw [← h]; exact k
  | .bl b, v, v', h, k => by injection h with h; rw [← h]; exact k
  | .int c x, v, v', h, k => by injection h with h; rw [← h]; exact k.1
  | .str l x, v, v', h, ⟨s, e, k⟩ => by
    injection h with h
    rw [← h, e]
    congr 1
    have h1 : s.data.toList = (bys l x).map UInt8.ofNat := by
      rw [← k.1, List.map_map]
      have : (UInt8.ofNat ∘ UInt8.toNat) = id := funext fun u => by simp
      rw [this, List.map_id]
    rw [← h1]
  | .tup l, v, v', h, ⟨l', e, k⟩ => by
    simp only [conc, Option.map_eq_some_iff] at h
    obtain ⟨vs, h1, h2⟩ := h
    have := concs_ok l vs l'.toList h1 k
    rw [e, ← h2, ← this]
  | .agg l, v, v', h, ⟨l', e, k, _⟩ => by
    simp only [conc, Option.map_eq_some_iff] at h
    obtain ⟨vs, h1, h2⟩ := h
    have := concs_ok l vs l'.toList h1 k
    rw [e, ← h2, ← this]
  | .se, v, v', h, k => by cases h
  | .ifc _ _, v, v', h, k => by cases h
  | .fn _ _ _, v, v', h, k => by cases h
  | .un, v, v', h, k => by cases h
  | .sf _ _ _ _, v, v', h, k => by cases h
  | .sl _ _ _ _, v, v', h, k => by cases h
  | .ba _ _, v, v', h, k => by cases h
  | .ptr _ _, v, v', h, k => by cases h
theorem concs_ok {ρ : Ren} : ∀ (a : List AV) (v v' : List Value), concs a = some v → VRs ρ a v' → v' = v
  | [], v, v', h, k => by injection h with h; rw [← h]; exact k
  | a :: l, v, v', h, ⟨x, y, e, k, r⟩ => by
    unfold concs at h
    cases h1 : conc a with
    | none => rw [h1] at h; cases h
    | some v1 =>
      cases h2 : concs l with
      | none => rw [h1, h2] at h; cases h
      | some v2 =>
        rw [h1, h2] at h
        injection h with h
        rw [e, ← h, conc_ok a v1 x h1 k, concs_ok l v2 y h2 r]
end
theorem closed_run {e : Ent} (he : EntOK Tryz.prog e) (hp : e.p = .d) (hn : e.n = 0) (hb : (match Tryz.prog.funcs[e.f]? with | some fn => fn.body.isSome | none => false) = true) {args' : List Value} (hv : ∀ ρ, VRs ρ e.a args') (W : World) :
    Calls Tryz.prog e.f args'.toArray W fun r W' => (∃ ρ' v', r = .returned v' ∧ VR ρ' e.v v' ∧ HR ρ' e.h' W') ∧ Below W.heap.size W W' := by
  obtain ⟨fn, c, e1, e2, e3⟩ := has_body e.f hb
  have hh : e.h = litH e.d .d 0 := by unfold Ent.h; rw [hp, hn]
  have hr : HR (fun _ => none) e.h W := by
    rw [hh]
    exact hr_none rfl (wf_d _ _ (Nat.zero_le _)) (fun i => get_d _ _ i)
  refine (ent_calls he e1 e2 e3 (hv _) hr).mono fun r W' h => ?_
  obtain ⟨ρ', v', rfl, x, k⟩ := h
  exact ⟨⟨ρ', v', rfl, k, x.hr⟩, x.below fun i b κ q => by cases q⟩
theorem plain_run {e : Ent} {v : Value} (he : EntOK Tryz.prog e) (hp : e.p = .d) (hn : e.n = 0) (hb : (match Tryz.prog.funcs[e.f]? with | some fn => fn.body.isSome | none => false) = true) {args' : List Value} (hv : ∀ ρ, VRs ρ e.a args') (hc : conc e.v = some v) (W : World) :
    Calls Tryz.prog e.f args'.toArray W fun r W' => r = .returned v ∧ Below W.heap.size W W' := by
  refine (closed_run he hp hn hb hv W).mono fun r W' h => ?_
  obtain ⟨⟨ρ', v', rfl, k, _⟩, hbl⟩ := h
  exact ⟨by rw [conc_ok _ _ _ hc k], hbl⟩
end Kv
end
end
end Go.Proofs.YtfkoaooceickiaaGreat
