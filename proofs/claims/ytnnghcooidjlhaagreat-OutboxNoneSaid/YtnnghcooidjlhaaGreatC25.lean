/- Parts of the proof: Zf. -/
import Derived.Deep.RegionHeld3
import Derived.Test.YtnnghcooidjlhaaGreatA22
import Derived.Test.YtnnghcooidjlhaaGreatC23
import Derived.Test.YtnnghcooidjlhaaGreatC24
set_option linter.all false
section
set_option linter.unusedSimpArgs false
set_option linter.unusedVariables false
set_option maxRecDepth 100000
namespace Go.Proofs.YtnnghcooidjlhaaGreat
open Go.RowKit Go.Lib
def OxX (w : World) (xb : Nat) (s : SL) (sp lp : Int) : Prop := Blk w xb 199 #[.pointer (some ⟨s.sb, 0, none⟩), .int .i64 sp, .int .i64 lp]
def itC (x : It) : List Value := [.string (S x.c), .int .i64 x.k, .float .f64 x.e.t, .int .i64 x.e.src, .int .i64 x.e.n, .int .i64 x.e.dst, .int .i64 x.e.pay]
def itV (x : It) : Value := .agg #[.string (S x.c), .int .i64 x.k, .float .f64 x.e.t, .int .i64 x.e.src, .int .i64 x.e.n, .int .i64 x.e.dst, .int .i64 x.e.pay]
theorem itC_len (x : It) : (itC x).length = 7 := rfl
theorem itC_one (x : It) : ∀ u ∈ itC x, u.oneCell' = true := by
  intro u hu
  simp [itC] at hu
  rcases hu with rfl | rfl | rfl | rfl | rfl | rfl | rfl <;> rfl
theorem infItem : (Tryz.prog.info? 69).map (fun i => (i.zero, i.size, i.bytes)) = some (some (.agg #[.string ⟨#[]⟩, .int .i64 0, .float .f64 0, .int .i64 0, .int .i64 0, .int .i64 0, .int .i64 0]), 7, 64) := by kernel_rfl
theorem oof_a (s : SL) (lp : Int) (h : 0 ≤ lp ∧ lp < 6) (w : World) : Calls Tryz.prog 45 #[.pointer (some ⟨s.sb, 0, none⟩), .int .i64 lp, .bool false] w fun e w' => e = .returned (.tuple #[.pointer (some ⟨w.heap.size, 0, none⟩), .int .i64 0]) ∧ w.alloc (.cells #[.pointer (some ⟨s.sb, 0, none⟩), .int .i64 1, .int .i64 lp] 199) = w' := by
  have h0 : ¬ lp < 0 := by omega
  have h1 : ¬ 6 ≤ lp := by omega
  clear h
  go_enter Tryz.func45, Tryz.ntmps45
  go_wp2
  go_ret2
  exact ⟨rfl, rfl⟩
theorem oof_b (s : SL) (lp : Int) (h : 0 ≤ lp ∧ lp < 6) (w : World) : Calls Tryz.prog 45 #[.pointer (some ⟨s.sb, 0, none⟩), .int .i64 lp, .bool true] w fun e w' => e = .returned (.tuple #[.pointer (some ⟨w.heap.size, 0, none⟩), .int .i64 0]) ∧ w.alloc (.cells #[.pointer (some ⟨s.sb, 0, none⟩), .int .i64 2, .int .i64 lp] 199) = w' := by
  have h0 : ¬ lp < 0 := by omega
  have h1 : ¬ 6 ≤ lp := by omega
  clear h
  go_enter Tryz.func45, Tryz.ntmps45
  go_wp2
  go_ret2
  exact ⟨rfl, rfl⟩
theorem oof_nil (lp : Int) (b : Bool) (w : World) : Calls Tryz.prog 45 #[.pointer none, .int .i64 lp, .bool b] w fun e w' => e = .returned (.tuple #[.pointer none, .int .i64 1]) ∧ w = w' := by
  go_enter Tryz.func45, Tryz.ntmps45
  go_wp2
  go_ret2
  exact ⟨rfl, rfl⟩
theorem oof_bad (p : Addr) (lp : Int) (b : Bool) (h : ¬ (0 ≤ lp ∧ lp < 6)) (w : World) : Calls Tryz.prog 45 #[.pointer (some p), .int .i64 lp, .bool b] w fun e w' => e = .returned (.tuple #[.pointer none, .int .i64 2]) ∧ w = w' := by
  have hc : lp < 0 ∨ (¬ lp < 0 ∧ 6 ≤ lp) := by omega
  clear h
  rcases hc with h0 | ⟨h0, h1⟩
  all_goals
    go_enter Tryz.func45, Tryz.ntmps45
    go_wp2
    go_ret2
    exact ⟨rfl, rfl⟩
structure OxI (w : World) (xb yb : Nat) (s : SL) (sp sq lp : Int) (O : List Nat) (N L : Nat) (l m : List It) : Prop where
  x : OxX w xb s sp lp
  y : OxX w yb s sq lp
  nx : xb ∉ s.sb :: s.tb :: O
  ny : yb ∉ s.sb :: s.tb :: O
  sps : (sp = 1 ∧ sq = 2) ∨ (sp = 2 ∧ sq = 1)
  hlp : 0 ≤ lp ∧ lp ≤ 5
  m : ∃ M, StI w s O N M ∧ OxM M sp lp l ∧ OxM M sq lp m ∧ longs M = 0 ∧ M.length ≤ L
section
variable {w w' : World} {xb yb : Nat} {s : SL} {sp sq lp : Int} {O : List Nat} {N L : Nat} {l m : List It}
theorem OxI.swap (h : OxI w xb yb s sp sq lp O N L l m) : OxI w yb xb s sq sp lp O N L m l := by
  obtain ⟨M, h1, h2, h3, h4⟩ := h.m
  exact ⟨h.y, h.x, h.ny, h.nx, by have := h.sps; omega, h.hlp, M, h1, h3, h2, h4⟩
theorem OxI.below (h : OxI w xb yb s sp sq lp O N L l m) (hb : Below w.heap.size w w') : OxI w' xb yb s sp sq lp O N L l m := by
  obtain ⟨M, h1, h2⟩ := h.m
  exact ⟨Blk.below h.x hb (Blk.lt h.x), Blk.below h.y hb (Blk.lt h.y), h.nx, h.ny, h.sps, h.hlp, M, h1.below hb, h2⟩
theorem OxI.of_blocks (h : OxI w xb yb s sp sq lp O N L l m) (e : ∀ b ∈ xb :: yb :: s.sb :: s.tb :: O, w'.heap[b]? = w.heap[b]?) : OxI w' xb yb s sp sq lp O N L l m := by
  obtain ⟨M, h1, h2⟩ := h.m
  exact ⟨(e xb (by simp)).trans h.x, (e yb (by simp)).trans h.y, h.nx, h.ny, h.sps, h.hlp, M, h1.of_blocks (fun b hb => e b (List.mem_cons_of_mem _ (List.mem_cons_of_mem _ hb))), h2⟩
theorem OxI.lts (h : OxI w xb yb s sp sq lp O N L l m) : ∀ b ∈ xb :: yb :: s.sb :: s.tb :: O, b < w.heap.size := by
  obtain ⟨M, h1, h2⟩ := h.m
  intro b hb
  rcases List.mem_cons.1 hb with rfl | hb
  · exact Blk.lt h.x
  rcases List.mem_cons.1 hb with rfl | hb
  · exact Blk.lt h.y
  · exact h1.lts b hb
theorem OxI.nxO (h : OxI w xb yb s sp sq lp O N L l m) : xb ∉ O := fun hm => h.nx (by simp [hm])
theorem OxI.nyO (h : OxI w xb yb s sp sq lp O N L l m) : yb ∉ O := fun hm => h.ny (by simp [hm])
theorem OxI.okp (h : OxI w xb yb s sp sq lp O N L l m) : okP sp lp := by
  have := h.sps; have := h.hlp
  unfold okP; omega
theorem hdO_ne (h : (sp = 1 ∧ sq = 2) ∨ (sp = 2 ∧ sq = 1)) (lp : Int) : hdP sq lp ≠ hdP sp lp := by
  rcases h with ⟨rfl, rfl⟩ | ⟨rfl, rfl⟩
  all_goals
    intro e
    unfold hdP at e
    injection e with e _
    exact absurd e (by decide)
theorem OxI.turn {O' : List Nat} {N' L' : Nat} {l' m' : List It} {M' : List KV} (h : OxI w xb yb s sp sq lp O N L l m) (hk : Kp O w w') (hg : Gr O w.heap.size O') (hs : StI w' s O' N' M') (h1 : OxM M' sp lp l') (h2 : OxM M' sq lp m') (h3 : longs M' = 0) (h4 : M'.length ≤ L') : OxI w' xb yb s sp sq lp O' N' L' l' m' := by
  have hnx := h.nx
  have hny := h.ny
  simp only [List.mem_cons, not_or] at hnx hny
  refine ⟨Blk.kp h.x hk hnx.2.2, Blk.kp h.y hk hny.2.2, ?_, ?_, h.sps, h.hlp, M', hs, h1, h2, h3, h4⟩
  · simp only [List.mem_cons, not_or]
    exact ⟨hnx.1, hnx.2.1, hg.out (Blk.lt h.x) hnx.2.2⟩
  · simp only [List.mem_cons, not_or]
    exact ⟨hny.1, hny.2.1, hg.out (Blk.lt h.y) hny.2.2⟩
theorem OxI.ok (h : OxI w xb yb s sp sq lp O N L l m) : ∀ x ∈ l, x.right ∧ x.e.ok ∧ x.e.nrm = x.e := by
  obtain ⟨M, _, h2, _⟩ := h.m
  exact h2.ok
theorem OxI.asc (h : OxI w xb yb s sp sq lp O N L l m) : AscO l := by
  obtain ⟨M, h1, h2, _⟩ := h.m
  exact h2.asc h1.asc
theorem OxI.len (h : OxI w xb yb s sp sq lp O N L l m) : l.length ≤ L := by
  obtain ⟨M, h1, h2, _, _, h5⟩ := h.m
  exact Nat.le_trans h2.len h5
end
theorem it_box (w : World) (x : It) : Blk (w.alloc (.cells #[.string (S x.c), .int .i64 x.k, .float .f64 x.e.t, .int .i64 x.e.src, .int .i64 x.e.n, .int .i64 x.e.dst, .int .i64 x.e.pay] 69)) w.heap.size 69 #[.string (S x.c), .int .i64 x.k, .float .f64 x.e.t, .int .i64 x.e.src, .int .i64 x.e.n, .int .i64 x.e.dst, .int .i64 x.e.pay] := Blk.new w _ _
set_option maxHeartbeats 4000000 in
theorem orest_any (x : It) (h : x.c.length < 9223372036854775807) (w : World) :
    Calls Tryz.prog 95 #[itV x] w fun r w' => ∃ str, r = .returned (.tuple #[.string (S str), .bool (decide x.fit)]) ∧ (x.fit → str = x.key) ∧ Below w.heap.size w w' := by
  unfold itV
  obtain ⟨W1, hW1⟩ : ∃ W1, W1 = w.alloc (.cells #[.string (S x.c), .int .i64 x.k, .float .f64 x.e.t, .int .i64 x.e.src, .int .i64 x.e.n, .int .i64 x.e.dst, .int .i64 x.e.pay] 69) := ⟨_, rfl⟩
  have hb1 : Below w.heap.size w W1 := by rw [hW1]; exact (Below.refl _ w).alloc (Nat.le_refl _) _
  have hB1 := it_box w x
  rw [← hW1] at hB1
  have m0 : W1.cell? ⟨w.heap.size, 0, none⟩ = some (.string (S x.c)) := hB1.cell 0
  have m1 : W1.cell? ⟨w.heap.size, 1, none⟩ = some (.int .i64 x.k) := hB1.cell 1
  obtain ⟨kb, hkb⟩ : ∃ kb, kb = IntKind.u8.wrap x.k := ⟨_, rfl⟩
  have hwr : IntKind.u8.wrap x.k = kb := hkb.symm
  have hkr : 0 ≤ kb ∧ kb < 256 := by rw [hkb, IntKind.wrap_u8]; omega
  have hfit : x.fit → x.c ++ oneB kb = x.key := fun hf => by
    have : kb = x.k := by rw [hkb, IntKind.wrap_u8]; have := hf.2; omega
    unfold It.key
    rw [this]
  have hcv := blk_one (l := oneB kb) (Blk.new W1 5 #[.int .u8 kb]).drew (by
    simp [bA, cB, oneB]
    omega) 1 1 rfl
  have hcat : ¬ 9223372036854775807 < x.c.length + 1 := by omega
  have hlt1 := hB1.lt
  have HMA : Hid (∀ o : Obj, (W1.alloc o).drew.cell? ⟨w.heap.size, 0, none⟩ = some (.string (S x.c)) ∧ (W1.alloc o).drew.cell? ⟨w.heap.size, 1, none⟩ = some (.int .i64 x.k)) := hid fun o => ⟨(hB1.alloc o).drew.cell 0, (hB1.alloc o).drew.cell 1⟩
  have HB := hid (fun o => (hb1.trans ((below_drewN (Below.refl W1.heap.size W1) 1).mono hb1.size)).alloc (Nat.le_of_lt hlt1) o)
  have HFI := hid hfit
  have HW1 := hid hW1
  have hcs : (¬ x.c.length = 25) ∨ (x.c.length = 25 ∧ ¬ 0 ≤ x.k) ∨ (x.c.length = 25 ∧ 0 ≤ x.k ∧ ¬ x.k ≤ 255) ∨ (x.c.length = 25 ∧ 0 ≤ x.k ∧ x.k ≤ 255) := by omega
  clear hb1 hB1 hkb hkr hfit h hW1
  rcases hcs with h | ⟨h, h1⟩ | ⟨h, h1, h2⟩ | ⟨h, h1, h2⟩
  case' inl =>
    have HNF : Hid (¬ x.fit) := hid fun hr => h hr.1
    rw [decide_eq_false HNF.out]
    have hi : ((x.c.length : Int) == 25) = false := by
      rw [beq_eq_false_iff_ne]
      omega
  case' inr.inl =>
    have HNF : Hid (¬ x.fit) := hid fun hr => h1 hr.2.1
    rw [decide_eq_false HNF.out]
    have hi : ((x.c.length : Int) == 25) = true := by
      rw [beq_iff_eq]
      omega
    have hd : decide (0 ≤ x.k) = false := decide_eq_false h1
    clear h1
  case' inr.inr.inl =>
    rw [decide_eq_false (show ¬ x.fit from fun hr => h2 hr.2.2)]
    have hi : ((x.c.length : Int) == 25) = true := by
      rw [beq_iff_eq]
      omega
    have hd : decide (0 ≤ x.k) = true := decide_eq_true h1
    have hd2 : decide (x.k ≤ 255) = false := decide_eq_false h2
    clear h1 h2
  case' inr.inr.inr =>
    rw [decide_eq_true (show x.fit from ⟨h, h1, h2⟩)]
    have hi : ((x.c.length : Int) == 25) = true := by
      rw [beq_iff_eq]
      omega
    have hd : decide (0 ≤ x.k) = true := decide_eq_true h1
    have hd2 : decide (x.k ≤ 255) = true := decide_eq_true h2
    clear h1 h2
  all_goals
    clear h
    go_enter Tryz.func95, Tryz.ntmps95
    go_wp2
    rw [← HW1.out]
  · refine wp_region_held_drew (S := fun W => W.cell? ⟨w.heap.size, 0, none⟩ = some (.string (S x.c)) ∧ W.cell? ⟨w.heap.size, 1, none⟩ = some (.int .i64 x.k)) (by kernel_rfl) (by exact ⟨m0, m1⟩) (fun hHeld => ?_)
    refine wpAnyH_take (i := 0) (oi := ?oi0_0) (v := ?v0_0) (by (simp only [List.getElem?_toArray, List.getElem?_cons_succ, List.getElem?_cons_zero]; try rfl)) (by kernel_rfl) (by kernel_rfl) (by kernel_rfl) ?hq0_0 (Or.inl ⟨by rfl, ?hy0_0⟩) hHeld ?rest0_0; (case hy0_0 => (intro wz hSw; (try dsimp only at hSw); go_simp; first | done | with_reducible rfl)); (case hq0_0 => exact fun _ _ _ h => h); (try simp only [Act.put, List.setIfInBounds_toArray, List.set_cons_zero, List.set_cons_succ]); refine wpAnyH_take (i := 1) (oi := ?oi1_0) (v := ?v1_0) (by (simp only [List.getElem?_toArray, List.getElem?_cons_succ, List.getElem?_cons_zero]; try rfl)) (by kernel_rfl) (by kernel_rfl) (by kernel_rfl) ?hq1_0 (Or.inl ⟨by rfl, ?hy1_0⟩) hHeld ?rest1_0; (case hy1_0 => (intro wz hSw; (try dsimp only at hSw); go_simp; first | done | with_reducible rfl)); (case hq1_0 => exact fun _ _ _ h => h); (try simp only [Act.put, List.setIfInBounds_toArray, List.set_cons_zero, List.set_cons_succ]); refine wpAnyH_take (i := 2) (oi := ?oi2_0) (v := ?v2_0) (by (simp only [List.getElem?_toArray, List.getElem?_cons_succ, List.getElem?_cons_zero]; try rfl)) (by kernel_rfl) (by kernel_rfl) (by kernel_rfl) ?hq2_0 (Or.inl ⟨by rfl, ?hy2_0⟩) hHeld ?rest2_0; (case hy2_0 => (intro wz hSw; (try dsimp only at hSw); go_simp; first | done | with_reducible rfl)); (case hq2_0 => exact fun _ _ _ h => h); (try simp only [Act.put, List.setIfInBounds_toArray, List.set_cons_zero, List.set_cons_succ]); refine wpAnyH_take (i := 3) (oi := ?oi3_0) (v := ?v3_0) (by (simp only [List.getElem?_toArray, List.getElem?_cons_succ, List.getElem?_cons_zero]; try rfl)) (by kernel_rfl) (by kernel_rfl) (by kernel_rfl) ?hq3_0 (Or.inl ⟨by rfl, ?hy3_0⟩) hHeld ?rest3_0; (case hy3_0 => (intro wz hSw; (try dsimp only at hSw); go_simp; first | done | with_reducible rfl)); (case hq3_0 => exact fun _ _ _ h => h); (try simp only [Act.put, List.setIfInBounds_toArray, List.set_cons_zero, List.set_cons_succ]); refine wpAnyH_take (i := 4) (oi := ?oi4_0) (v := ?v4_0) (by (simp only [List.getElem?_toArray, List.getElem?_cons_succ, List.getElem?_cons_zero]; try rfl)) (by kernel_rfl) (by kernel_rfl) (by kernel_rfl) ?hq4_0 (Or.inl ⟨by rfl, ?hy4_0⟩) hHeld ?rest4_0; (case hy4_0 => (intro wz hSw; (try dsimp only at hSw); go_simp; first | done | with_reducible rfl)); (case hq4_0 => exact fun _ _ _ h => h); (try simp only [Act.put, List.setIfInBounds_toArray, List.set_cons_zero, List.set_cons_succ]); refine wpAnyH_take (i := 8) (oi := ?oi8_0) (v := ?v8_0) (by (simp only [List.getElem?_toArray, List.getElem?_cons_succ, List.getElem?_cons_zero]; try rfl)) (by kernel_rfl) (by kernel_rfl) (by kernel_rfl) ?hq8_0 (Or.inl ⟨by rfl, ?hy8_0⟩) hHeld ?rest8_0; (case hy8_0 => (intro wz hSw; (try dsimp only at hSw); go_simp; first | done | with_reducible rfl)); (case hq8_0 => exact fun _ _ _ h => h); (try simp only [Act.put, List.setIfInBounds_toArray, List.set_cons_zero, List.set_cons_succ]); refine wpAnyH_take (i := 9) (oi := ?oi9_0) (v := ?v9_0) (by (simp only [List.getElem?_toArray, List.getElem?_cons_succ, List.getElem?_cons_zero]; try rfl)) (by kernel_rfl) (by kernel_rfl) (by kernel_rfl) ?hq9_0 (Or.inl ⟨by rfl, ?hy9_0⟩) hHeld ?rest9_0; (case hy9_0 => (intro wz hSw; (try dsimp only at hSw); go_simp; first | done | with_reducible rfl)); (case hq9_0 => exact fun _ _ _ h => h); (try simp only [Act.put, List.setIfInBounds_toArray, List.set_cons_zero, List.set_cons_succ]); refine wpAnyH_take (i := 10) (oi := ?oi10_0) (v := ?v10_0) (by (simp only [List.getElem?_toArray, List.getElem?_cons_succ, List.getElem?_cons_zero]; try rfl)) (by kernel_rfl) (by kernel_rfl) (by kernel_rfl) ?hq10_0 (Or.inl ⟨by rfl, ?hy10_0⟩) hHeld ?rest10_0; (case hy10_0 => (intro wz hSw; (try dsimp only at hSw); go_simp; first | done | with_reducible rfl)); (case hq10_0 => exact fun _ _ _ h => h); (try simp only [Act.put, List.setIfInBounds_toArray, List.set_cons_zero, List.set_cons_succ]); refine wpAnyH_take (i := 11) (oi := ?oi11_0) (v := ?v11_0) (by (simp only [List.getElem?_toArray, List.getElem?_cons_succ, List.getElem?_cons_zero]; try rfl)) (by kernel_rfl) (by kernel_rfl) (by kernel_rfl) ?hq11_0 (Or.inl ⟨by rfl, ?hy11_0⟩) hHeld ?rest11_0; (case hy11_0 => (intro wz hSw; (try dsimp only at hSw); go_simp; first | done | with_reducible rfl)); (case hq11_0 => exact fun _ _ _ h => h); (try simp only [Act.put, List.setIfInBounds_toArray, List.set_cons_zero, List.set_cons_succ]); refine wpAnyH_take (i := 12) (oi := ?oi12_0) (v := ?v12_0) (by (simp only [List.getElem?_toArray, List.getElem?_cons_succ, List.getElem?_cons_zero]; try rfl)) (by kernel_rfl) (by kernel_rfl) (by kernel_rfl) ?hq12_0 (Or.inl ⟨by rfl, ?hy12_0⟩) hHeld ?rest12_0; (case hy12_0 => (intro wz hSw; (try dsimp only at hSw); go_simp; first | done | with_reducible rfl)); (case hq12_0 => exact fun _ _ _ h => h); (try simp only [Act.put, List.setIfInBounds_toArray, List.set_cons_zero, List.set_cons_succ]); refine wpAnyH_take (i := 13) (oi := ?oi13_0) (v := ?v13_0) (by (simp only [List.getElem?_toArray, List.getElem?_cons_succ, List.getElem?_cons_zero]; try rfl)) (by kernel_rfl) (by kernel_rfl) (by kernel_rfl) ?hq13_0 (Or.inl ⟨by kernel_rfl, ?hy13_0⟩) hHeld ?rest13_0; (case hy13_0 => (intro wz hSw; (try dsimp only at hSw); go_simp; first | done | with_reducible rfl)); (case hq13_0 => exact fun _ _ _ h => h); (try simp only [Act.put, List.setIfInBounds_toArray, List.set_cons_zero, List.set_cons_succ]); refine wpAnyH_take (i := 14) (oi := ?oi14_0) (v := ?v14_0) (by (simp only [List.getElem?_toArray, List.getElem?_cons_succ, List.getElem?_cons_zero]; try rfl)) (by kernel_rfl) (by kernel_rfl) (by kernel_rfl) ?hq14_0 (Or.inl ⟨by kernel_rfl, ?hy14_0⟩) hHeld ?rest14_0; (case hy14_0 => (intro wz hSw; (try dsimp only at hSw); go_simp; first | done | with_reducible rfl)); (case hq14_0 => exact fun _ _ _ h => h); (try simp only [Act.put, List.setIfInBounds_toArray, List.set_cons_zero, List.set_cons_succ]); refine wpAnyH_take (i := 15) (oi := ?oi15_0) (v := ?v15_0) (by (simp only [List.getElem?_toArray, List.getElem?_cons_succ, List.getElem?_cons_zero]; try rfl)) (by kernel_rfl) (by kernel_rfl) (by kernel_rfl) ?hq15_0 (Or.inl ⟨by kernel_rfl, ?hy15_0⟩) hHeld ?rest15_0; (case hy15_0 => (intro wz hSw; (try dsimp only at hSw); go_simp; first | done | with_reducible rfl)); (case hq15_0 => exact fun _ _ _ h => h); (try simp only [Act.put, List.setIfInBounds_toArray, List.set_cons_zero, List.set_cons_succ]); refine wpAnyH_take (i := 16) (oi := ?oi16_0) (v := ?v16_0) (by (simp only [List.getElem?_toArray, List.getElem?_cons_succ, List.getElem?_cons_zero]; try rfl)) (by kernel_rfl) (by kernel_rfl) (by kernel_rfl) ?hq16_0 (Or.inl ⟨by rfl, ?hy16_0⟩) hHeld ?rest16_0; (case hy16_0 => (intro wz hSw; (try dsimp only at hSw); go_simp; first | done | with_reducible rfl)); (case hq16_0 => exact fun _ _ _ h => h); (try simp only [Act.put, List.setIfInBounds_toArray, List.set_cons_zero, List.set_cons_succ]); refine wpAnyH_take (i := 17) (oi := ?oi17_0) (v := ?v17_0) (by (simp only [List.getElem?_toArray, List.getElem?_cons_succ, List.getElem?_cons_zero]; try rfl)) (by kernel_rfl) (by kernel_rfl) (by kernel_rfl) ?hq17_0 (Or.inl ⟨by rfl, ?hy17_0⟩) hHeld ?rest17_0; (case hy17_0 => (intro wz hSw; (try dsimp only at hSw); go_simp; first | done | with_reducible rfl)); (case hq17_0 => exact fun _ _ _ h => h); (try simp only [Act.put, List.setIfInBounds_toArray, List.set_cons_zero, List.set_cons_succ]); refine wpAnyH_take (i := 18) (oi := ?oi18_0) (v := ?v18_0) (by (simp only [List.getElem?_toArray, List.getElem?_cons_succ, List.getElem?_cons_zero]; try rfl)) (by kernel_rfl) (by kernel_rfl) (by kernel_rfl) ?hq18_0 (Or.inl ⟨by kernel_rfl, ?hy18_0⟩) hHeld ?rest18_0; (case hy18_0 => (intro wz hSw; (try dsimp only at hSw); go_simp; first | done | with_reducible rfl)); (case hq18_0 => exact fun _ _ _ h => h); (try simp only [Act.put, List.setIfInBounds_toArray, List.set_cons_zero, List.set_cons_succ]); refine wpAnyH_take (i := 19) (oi := ?oi19_0) (v := ?v19_0) (by (simp only [List.getElem?_toArray, List.getElem?_cons_succ, List.getElem?_cons_zero]; try rfl)) (by kernel_rfl) (by kernel_rfl) (by kernel_rfl) ?hq19_0 (Or.inl ⟨by kernel_rfl, ?hy19_0⟩) hHeld ?rest19_0; (case hy19_0 => (intro wz hSw; (try dsimp only at hSw); go_simp; first | done | with_reducible rfl)); (case hq19_0 => exact fun _ _ _ h => h); (try simp only [Act.put, List.setIfInBounds_toArray, List.set_cons_zero, List.set_cons_succ]); refine wpAnyH_take (i := 20) (oi := ?oi20_0) (v := ?v20_0) (by (simp only [List.getElem?_toArray, List.getElem?_cons_succ, List.getElem?_cons_zero]; try rfl)) (by kernel_rfl) (by kernel_rfl) (by kernel_rfl) ?hq20_0 (Or.inl ⟨by kernel_rfl, ?hy20_0⟩) hHeld ?rest20_0; (case hy20_0 => (intro wz hSw; (try dsimp only at hSw); go_simp; first | done | with_reducible rfl)); (case hq20_0 => exact fun _ _ _ h => h); (try simp only [Act.put, List.setIfInBounds_toArray, List.set_cons_zero, List.set_cons_succ]); refine wpAnyH_take (i := 21) (oi := ?oi21_0) (v := ?v21_0) (by (simp only [List.getElem?_toArray, List.getElem?_cons_succ, List.getElem?_cons_zero]; try rfl)) (by kernel_rfl) (by kernel_rfl) (by kernel_rfl) ?hq21_0 (Or.inl ⟨by rfl, ?hy21_0⟩) hHeld ?rest21_0; (case hy21_0 => (intro wz hSw; (try dsimp only at hSw); go_simp; first | done | with_reducible rfl)); (case hq21_0 => exact fun _ _ _ h => h); (try simp only [Act.put, List.setIfInBounds_toArray, List.set_cons_zero, List.set_cons_succ]); refine wpAnyH_ready (rs := [5]) (by kernel_rfl) (by simp) ?_; refine AllReadyH.cons (o := ?o5_0) (by (simp only [List.getElem?_toArray, List.getElem?_cons_succ, List.getElem?_cons_zero]; try rfl)) (fun K hK => ?_) AllReadyH.nil; go_simp; refine hK.out _ _ (by exact HMA.out _) (fun hHeld => ?_); clear hK K; (try simp only [Act.put, List.setIfInBounds_toArray, List.set_cons_zero, List.set_cons_succ]); refine wpAnyH_ready (rs := [6]) (by kernel_rfl) (by simp) ?_; refine AllReadyH.cons (o := ?o6_0) (by (simp only [List.getElem?_toArray, List.getElem?_cons_succ, List.getElem?_cons_zero]; try rfl)) (fun K hK => ?_) AllReadyH.nil; go_simp; refine hK.out _ _ (by exact HMA.out _) (fun hHeld => ?_); clear hK K; (try simp only [Act.put, List.setIfInBounds_toArray, List.set_cons_zero, List.set_cons_succ]); refine wpAnyH_take (i := 7) (oi := ?oi7_0) (v := ?v7_0) (by (simp only [List.getElem?_toArray, List.getElem?_cons_succ, List.getElem?_cons_zero]; try rfl)) (by kernel_rfl) (by kernel_rfl) (by kernel_rfl) ?hq7_0 (Or.inl ⟨by rfl, ?hy7_0⟩) hHeld ?rest7_0; (case hy7_0 => (intro wz hSw; (try dsimp only at hSw); go_simp; first | done | with_reducible rfl)); (case hq7_0 => exact fun _ _ _ h => h); (try simp only [Act.put, List.setIfInBounds_toArray, List.set_cons_zero, List.set_cons_succ]); refine wpAnyH_take (i := 22) (oi := ?oi22_0) (v := ?v22_0) (by (simp only [List.getElem?_toArray, List.getElem?_cons_succ, List.getElem?_cons_zero]; try rfl)) (by kernel_rfl) (by kernel_rfl) (by kernel_rfl) ?hq22_0 (Or.inl ⟨by rfl, ?hy22_0⟩) hHeld ?rest22_0; (case hy22_0 => (intro wz hSw; (try dsimp only at hSw); go_simp; first | done | with_reducible rfl)); (case hq22_0 => exact fun _ _ _ h => h); (try simp only [Act.put, List.setIfInBounds_toArray, List.set_cons_zero, List.set_cons_succ]); refine wpAnyH_take (i := 23) (oi := ?oi23_0) (v := ?v23_0) (by (simp only [List.getElem?_toArray, List.getElem?_cons_succ, List.getElem?_cons_zero]; try rfl)) (by kernel_rfl) (by kernel_rfl) (by kernel_rfl) ?hq23_0 (Or.inl ⟨by rfl, ?hy23_0⟩) hHeld ?rest23_0; (case hy23_0 => (intro wz hSw; (try dsimp only at hSw); go_simp; first | done | with_reducible rfl)); (case hq23_0 => exact fun _ _ _ h => h); (try simp only [Act.put, List.setIfInBounds_toArray, List.set_cons_zero, List.set_cons_succ])
    refine wpAnyH_done (by kernel_rfl) ?_ _
    go_wp2
    go_ret2
    exact ⟨_, rfl, HFI.out, HB.out _⟩
  · refine wp_region_held_drew (S := fun W => W.cell? ⟨w.heap.size, 0, none⟩ = some (.string (S x.c)) ∧ W.cell? ⟨w.heap.size, 1, none⟩ = some (.int .i64 x.k)) (by kernel_rfl) (by exact ⟨m0, m1⟩) (fun hHeld => ?_)
    refine wpAnyH_take (i := 0) (oi := ?oi0_1) (v := ?v0_1) (by (simp only [List.getElem?_toArray, List.getElem?_cons_succ, List.getElem?_cons_zero]; try rfl)) (by kernel_rfl) (by kernel_rfl) (by kernel_rfl) ?hq0_1 (Or.inl ⟨by rfl, ?hy0_1⟩) hHeld ?rest0_1; (case hy0_1 => (intro wz hSw; (try dsimp only at hSw); go_simp; first | done | with_reducible rfl)); (case hq0_1 => exact fun _ _ _ h => h); (try simp only [Act.put, List.setIfInBounds_toArray, List.set_cons_zero, List.set_cons_succ]); refine wpAnyH_take (i := 1) (oi := ?oi1_1) (v := ?v1_1) (by (simp only [List.getElem?_toArray, List.getElem?_cons_succ, List.getElem?_cons_zero]; try rfl)) (by kernel_rfl) (by kernel_rfl) (by kernel_rfl) ?hq1_1 (Or.inl ⟨by rfl, ?hy1_1⟩) hHeld ?rest1_1; (case hy1_1 => (intro wz hSw; (try dsimp only at hSw); go_simp; first | done | with_reducible rfl)); (case hq1_1 => exact fun _ _ _ h => h); (try simp only [Act.put, List.setIfInBounds_toArray, List.set_cons_zero, List.set_cons_succ]); refine wpAnyH_take (i := 2) (oi := ?oi2_1) (v := ?v2_1) (by (simp only [List.getElem?_toArray, List.getElem?_cons_succ, List.getElem?_cons_zero]; try rfl)) (by kernel_rfl) (by kernel_rfl) (by kernel_rfl) ?hq2_1 (Or.inl ⟨by rfl, ?hy2_1⟩) hHeld ?rest2_1; (case hy2_1 => (intro wz hSw; (try dsimp only at hSw); go_simp; first | done | with_reducible rfl)); (case hq2_1 => exact fun _ _ _ h => h); (try simp only [Act.put, List.setIfInBounds_toArray, List.set_cons_zero, List.set_cons_succ]); refine wpAnyH_take (i := 3) (oi := ?oi3_1) (v := ?v3_1) (by (simp only [List.getElem?_toArray, List.getElem?_cons_succ, List.getElem?_cons_zero]; try rfl)) (by kernel_rfl) (by kernel_rfl) (by kernel_rfl) ?hq3_1 (Or.inl ⟨by rfl, ?hy3_1⟩) hHeld ?rest3_1; (case hy3_1 => (intro wz hSw; (try dsimp only at hSw); go_simp; first | done | with_reducible rfl)); (case hq3_1 => exact fun _ _ _ h => h); (try simp only [Act.put, List.setIfInBounds_toArray, List.set_cons_zero, List.set_cons_succ]); refine wpAnyH_take (i := 4) (oi := ?oi4_1) (v := ?v4_1) (by (simp only [List.getElem?_toArray, List.getElem?_cons_succ, List.getElem?_cons_zero]; try rfl)) (by kernel_rfl) (by kernel_rfl) (by kernel_rfl) ?hq4_1 (Or.inl ⟨by rfl, ?hy4_1⟩) hHeld ?rest4_1; (case hy4_1 => (intro wz hSw; (try dsimp only at hSw); go_simp; first | done | with_reducible rfl)); (case hq4_1 => exact fun _ _ _ h => h); (try simp only [Act.put, List.setIfInBounds_toArray, List.set_cons_zero, List.set_cons_succ]); refine wpAnyH_take (i := 8) (oi := ?oi8_1) (v := ?v8_1) (by (simp only [List.getElem?_toArray, List.getElem?_cons_succ, List.getElem?_cons_zero]; try rfl)) (by kernel_rfl) (by kernel_rfl) (by kernel_rfl) ?hq8_1 (Or.inl ⟨by rfl, ?hy8_1⟩) hHeld ?rest8_1; (case hy8_1 => (intro wz hSw; (try dsimp only at hSw); go_simp; first | done | with_reducible rfl)); (case hq8_1 => exact fun _ _ _ h => h); (try simp only [Act.put, List.setIfInBounds_toArray, List.set_cons_zero, List.set_cons_succ]); refine wpAnyH_take (i := 9) (oi := ?oi9_1) (v := ?v9_1) (by (simp only [List.getElem?_toArray, List.getElem?_cons_succ, List.getElem?_cons_zero]; try rfl)) (by kernel_rfl) (by kernel_rfl) (by kernel_rfl) ?hq9_1 (Or.inl ⟨by rfl, ?hy9_1⟩) hHeld ?rest9_1; (case hy9_1 => (intro wz hSw; (try dsimp only at hSw); go_simp; first | done | with_reducible rfl)); (case hq9_1 => exact fun _ _ _ h => h); (try simp only [Act.put, List.setIfInBounds_toArray, List.set_cons_zero, List.set_cons_succ]); refine wpAnyH_take (i := 10) (oi := ?oi10_1) (v := ?v10_1) (by (simp only [List.getElem?_toArray, List.getElem?_cons_succ, List.getElem?_cons_zero]; try rfl)) (by kernel_rfl) (by kernel_rfl) (by kernel_rfl) ?hq10_1 (Or.inl ⟨by rfl, ?hy10_1⟩) hHeld ?rest10_1; (case hy10_1 => (intro wz hSw; (try dsimp only at hSw); go_simp; first | done | with_reducible rfl)); (case hq10_1 => exact fun _ _ _ h => h); (try simp only [Act.put, List.setIfInBounds_toArray, List.set_cons_zero, List.set_cons_succ]); refine wpAnyH_take (i := 11) (oi := ?oi11_1) (v := ?v11_1) (by (simp only [List.getElem?_toArray, List.getElem?_cons_succ, List.getElem?_cons_zero]; try rfl)) (by kernel_rfl) (by kernel_rfl) (by kernel_rfl) ?hq11_1 (Or.inl ⟨by rfl, ?hy11_1⟩) hHeld ?rest11_1; (case hy11_1 => (intro wz hSw; (try dsimp only at hSw); go_simp; first | done | with_reducible rfl)); (case hq11_1 => exact fun _ _ _ h => h); (try simp only [Act.put, List.setIfInBounds_toArray, List.set_cons_zero, List.set_cons_succ]); refine wpAnyH_take (i := 12) (oi := ?oi12_1) (v := ?v12_1) (by (simp only [List.getElem?_toArray, List.getElem?_cons_succ, List.getElem?_cons_zero]; try rfl)) (by kernel_rfl) (by kernel_rfl) (by kernel_rfl) ?hq12_1 (Or.inl ⟨by rfl, ?hy12_1⟩) hHeld ?rest12_1; (case hy12_1 => (intro wz hSw; (try dsimp only at hSw); go_simp; first | done | with_reducible rfl)); (case hq12_1 => exact fun _ _ _ h => h); (try simp only [Act.put, List.setIfInBounds_toArray, List.set_cons_zero, List.set_cons_succ]); refine wpAnyH_take (i := 13) (oi := ?oi13_1) (v := ?v13_1) (by (simp only [List.getElem?_toArray, List.getElem?_cons_succ, List.getElem?_cons_zero]; try rfl)) (by kernel_rfl) (by kernel_rfl) (by kernel_rfl) ?hq13_1 (Or.inl ⟨by kernel_rfl, ?hy13_1⟩) hHeld ?rest13_1; (case hy13_1 => (intro wz hSw; (try dsimp only at hSw); go_simp; first | done | with_reducible rfl)); (case hq13_1 => exact fun _ _ _ h => h); (try simp only [Act.put, List.setIfInBounds_toArray, List.set_cons_zero, List.set_cons_succ]); refine wpAnyH_take (i := 14) (oi := ?oi14_1) (v := ?v14_1) (by (simp only [List.getElem?_toArray, List.getElem?_cons_succ, List.getElem?_cons_zero]; try rfl)) (by kernel_rfl) (by kernel_rfl) (by kernel_rfl) ?hq14_1 (Or.inl ⟨by kernel_rfl, ?hy14_1⟩) hHeld ?rest14_1; (case hy14_1 => (intro wz hSw; (try dsimp only at hSw); go_simp; first | done | with_reducible rfl)); (case hq14_1 => exact fun _ _ _ h => h); (try simp only [Act.put, List.setIfInBounds_toArray, List.set_cons_zero, List.set_cons_succ]); refine wpAnyH_take (i := 15) (oi := ?oi15_1) (v := ?v15_1) (by (simp only [List.getElem?_toArray, List.getElem?_cons_succ, List.getElem?_cons_zero]; try rfl)) (by kernel_rfl) (by kernel_rfl) (by kernel_rfl) ?hq15_1 (Or.inl ⟨by kernel_rfl, ?hy15_1⟩) hHeld ?rest15_1; (case hy15_1 => (intro wz hSw; (try dsimp only at hSw); go_simp; first | done | with_reducible rfl)); (case hq15_1 => exact fun _ _ _ h => h); (try simp only [Act.put, List.setIfInBounds_toArray, List.set_cons_zero, List.set_cons_succ]); refine wpAnyH_take (i := 16) (oi := ?oi16_1) (v := ?v16_1) (by (simp only [List.getElem?_toArray, List.getElem?_cons_succ, List.getElem?_cons_zero]; try rfl)) (by kernel_rfl) (by kernel_rfl) (by kernel_rfl) ?hq16_1 (Or.inl ⟨by rfl, ?hy16_1⟩) hHeld ?rest16_1; (case hy16_1 => (intro wz hSw; (try dsimp only at hSw); go_simp; first | done | with_reducible rfl)); (case hq16_1 => exact fun _ _ _ h => h); (try simp only [Act.put, List.setIfInBounds_toArray, List.set_cons_zero, List.set_cons_succ]); refine wpAnyH_take (i := 17) (oi := ?oi17_1) (v := ?v17_1) (by (simp only [List.getElem?_toArray, List.getElem?_cons_succ, List.getElem?_cons_zero]; try rfl)) (by kernel_rfl) (by kernel_rfl) (by kernel_rfl) ?hq17_1 (Or.inl ⟨by rfl, ?hy17_1⟩) hHeld ?rest17_1; (case hy17_1 => (intro wz hSw; (try dsimp only at hSw); go_simp; first | done | with_reducible rfl)); (case hq17_1 => exact fun _ _ _ h => h); (try simp only [Act.put, List.setIfInBounds_toArray, List.set_cons_zero, List.set_cons_succ]); refine wpAnyH_take (i := 18) (oi := ?oi18_1) (v := ?v18_1) (by (simp only [List.getElem?_toArray, List.getElem?_cons_succ, List.getElem?_cons_zero]; try rfl)) (by kernel_rfl) (by kernel_rfl) (by kernel_rfl) ?hq18_1 (Or.inl ⟨by kernel_rfl, ?hy18_1⟩) hHeld ?rest18_1; (case hy18_1 => (intro wz hSw; (try dsimp only at hSw); go_simp; first | done | with_reducible rfl)); (case hq18_1 => exact fun _ _ _ h => h); (try simp only [Act.put, List.setIfInBounds_toArray, List.set_cons_zero, List.set_cons_succ]); refine wpAnyH_take (i := 19) (oi := ?oi19_1) (v := ?v19_1) (by (simp only [List.getElem?_toArray, List.getElem?_cons_succ, List.getElem?_cons_zero]; try rfl)) (by kernel_rfl) (by kernel_rfl) (by kernel_rfl) ?hq19_1 (Or.inl ⟨by kernel_rfl, ?hy19_1⟩) hHeld ?rest19_1; (case hy19_1 => (intro wz hSw; (try dsimp only at hSw); go_simp; first | done | with_reducible rfl)); (case hq19_1 => exact fun _ _ _ h => h); (try simp only [Act.put, List.setIfInBounds_toArray, List.set_cons_zero, List.set_cons_succ]); refine wpAnyH_take (i := 20) (oi := ?oi20_1) (v := ?v20_1) (by (simp only [List.getElem?_toArray, List.getElem?_cons_succ, List.getElem?_cons_zero]; try rfl)) (by kernel_rfl) (by kernel_rfl) (by kernel_rfl) ?hq20_1 (Or.inl ⟨by kernel_rfl, ?hy20_1⟩) hHeld ?rest20_1; (case hy20_1 => (intro wz hSw; (try dsimp only at hSw); go_simp; first | done | with_reducible rfl)); (case hq20_1 => exact fun _ _ _ h => h); (try simp only [Act.put, List.setIfInBounds_toArray, List.set_cons_zero, List.set_cons_succ]); refine wpAnyH_take (i := 21) (oi := ?oi21_1) (v := ?v21_1) (by (simp only [List.getElem?_toArray, List.getElem?_cons_succ, List.getElem?_cons_zero]; try rfl)) (by kernel_rfl) (by kernel_rfl) (by kernel_rfl) ?hq21_1 (Or.inl ⟨by rfl, ?hy21_1⟩) hHeld ?rest21_1; (case hy21_1 => (intro wz hSw; (try dsimp only at hSw); go_simp; first | done | with_reducible rfl)); (case hq21_1 => exact fun _ _ _ h => h); (try simp only [Act.put, List.setIfInBounds_toArray, List.set_cons_zero, List.set_cons_succ]); refine wpAnyH_ready (rs := [5]) (by kernel_rfl) (by simp) ?_; refine AllReadyH.cons (o := ?o5_1) (by (simp only [List.getElem?_toArray, List.getElem?_cons_succ, List.getElem?_cons_zero]; try rfl)) (fun K hK => ?_) AllReadyH.nil; go_simp; refine hK.out _ _ (by exact HMA.out _) (fun hHeld => ?_); clear hK K; (try simp only [Act.put, List.setIfInBounds_toArray, List.set_cons_zero, List.set_cons_succ]); refine wpAnyH_ready (rs := [6]) (by kernel_rfl) (by simp) ?_; refine AllReadyH.cons (o := ?o6_1) (by (simp only [List.getElem?_toArray, List.getElem?_cons_succ, List.getElem?_cons_zero]; try rfl)) (fun K hK => ?_) AllReadyH.nil; go_simp; refine hK.out _ _ (by exact HMA.out _) (fun hHeld => ?_); clear hK K; (try simp only [Act.put, List.setIfInBounds_toArray, List.set_cons_zero, List.set_cons_succ]); refine wpAnyH_take (i := 7) (oi := ?oi7_1) (v := ?v7_1) (by (simp only [List.getElem?_toArray, List.getElem?_cons_succ, List.getElem?_cons_zero]; try rfl)) (by kernel_rfl) (by kernel_rfl) (by kernel_rfl) ?hq7_1 (Or.inl ⟨by rfl, ?hy7_1⟩) hHeld ?rest7_1; (case hy7_1 => (intro wz hSw; (try dsimp only at hSw); go_simp; first | done | with_reducible rfl)); (case hq7_1 => exact fun _ _ _ h => h); (try simp only [Act.put, List.setIfInBounds_toArray, List.set_cons_zero, List.set_cons_succ]); refine wpAnyH_take (i := 22) (oi := ?oi22_1) (v := ?v22_1) (by (simp only [List.getElem?_toArray, List.getElem?_cons_succ, List.getElem?_cons_zero]; try rfl)) (by kernel_rfl) (by kernel_rfl) (by kernel_rfl) ?hq22_1 (Or.inl ⟨by rfl, ?hy22_1⟩) hHeld ?rest22_1; (case hy22_1 => (intro wz hSw; (try dsimp only at hSw); go_simp; first | done | with_reducible rfl)); (case hq22_1 => exact fun _ _ _ h => h); (try simp only [Act.put, List.setIfInBounds_toArray, List.set_cons_zero, List.set_cons_succ]); refine wpAnyH_take (i := 23) (oi := ?oi23_1) (v := ?v23_1) (by (simp only [List.getElem?_toArray, List.getElem?_cons_succ, List.getElem?_cons_zero]; try rfl)) (by kernel_rfl) (by kernel_rfl) (by kernel_rfl) ?hq23_1 (Or.inl ⟨by rfl, ?hy23_1⟩) hHeld ?rest23_1; (case hy23_1 => (intro wz hSw; (try dsimp only at hSw); go_simp; first | done | with_reducible rfl)); (case hq23_1 => exact fun _ _ _ h => h); (try simp only [Act.put, List.setIfInBounds_toArray, List.set_cons_zero, List.set_cons_succ])
    refine wpAnyH_done (by kernel_rfl) ?_ _
    go_wp2
    go_ret2
    exact ⟨_, rfl, HFI.out, HB.out _⟩
  · refine wp_region_held_drew (S := fun W => W.cell? ⟨w.heap.size, 0, none⟩ = some (.string (S x.c)) ∧ W.cell? ⟨w.heap.size, 1, none⟩ = some (.int .i64 x.k)) (by kernel_rfl) (by exact ⟨m0, m1⟩) (fun hHeld => ?_)
    refine wpAnyH_take (i := 0) (oi := ?oi0_2) (v := ?v0_2) (by (simp only [List.getElem?_toArray, List.getElem?_cons_succ, List.getElem?_cons_zero]; try rfl)) (by kernel_rfl) (by kernel_rfl) (by kernel_rfl) ?hq0_2 (Or.inl ⟨by rfl, ?hy0_2⟩) hHeld ?rest0_2; (case hy0_2 => (intro wz hSw; (try dsimp only at hSw); go_simp; first | done | with_reducible rfl)); (case hq0_2 => exact fun _ _ _ h => h); (try simp only [Act.put, List.setIfInBounds_toArray, List.set_cons_zero, List.set_cons_succ]); refine wpAnyH_take (i := 1) (oi := ?oi1_2) (v := ?v1_2) (by (simp only [List.getElem?_toArray, List.getElem?_cons_succ, List.getElem?_cons_zero]; try rfl)) (by kernel_rfl) (by kernel_rfl) (by kernel_rfl) ?hq1_2 (Or.inl ⟨by rfl, ?hy1_2⟩) hHeld ?rest1_2; (case hy1_2 => (intro wz hSw; (try dsimp only at hSw); go_simp; first | done | with_reducible rfl)); (case hq1_2 => exact fun _ _ _ h => h); (try simp only [Act.put, List.setIfInBounds_toArray, List.set_cons_zero, List.set_cons_succ]); refine wpAnyH_take (i := 2) (oi := ?oi2_2) (v := ?v2_2) (by (simp only [List.getElem?_toArray, List.getElem?_cons_succ, List.getElem?_cons_zero]; try rfl)) (by kernel_rfl) (by kernel_rfl) (by kernel_rfl) ?hq2_2 (Or.inl ⟨by rfl, ?hy2_2⟩) hHeld ?rest2_2; (case hy2_2 => (intro wz hSw; (try dsimp only at hSw); go_simp; first | done | with_reducible rfl)); (case hq2_2 => exact fun _ _ _ h => h); (try simp only [Act.put, List.setIfInBounds_toArray, List.set_cons_zero, List.set_cons_succ]); refine wpAnyH_take (i := 3) (oi := ?oi3_2) (v := ?v3_2) (by (simp only [List.getElem?_toArray, List.getElem?_cons_succ, List.getElem?_cons_zero]; try rfl)) (by kernel_rfl) (by kernel_rfl) (by kernel_rfl) ?hq3_2 (Or.inl ⟨by rfl, ?hy3_2⟩) hHeld ?rest3_2; (case hy3_2 => (intro wz hSw; (try dsimp only at hSw); go_simp; first | done | with_reducible rfl)); (case hq3_2 => exact fun _ _ _ h => h); (try simp only [Act.put, List.setIfInBounds_toArray, List.set_cons_zero, List.set_cons_succ]); refine wpAnyH_take (i := 4) (oi := ?oi4_2) (v := ?v4_2) (by (simp only [List.getElem?_toArray, List.getElem?_cons_succ, List.getElem?_cons_zero]; try rfl)) (by kernel_rfl) (by kernel_rfl) (by kernel_rfl) ?hq4_2 (Or.inl ⟨by rfl, ?hy4_2⟩) hHeld ?rest4_2; (case hy4_2 => (intro wz hSw; (try dsimp only at hSw); go_simp; first | done | with_reducible rfl)); (case hq4_2 => exact fun _ _ _ h => h); (try simp only [Act.put, List.setIfInBounds_toArray, List.set_cons_zero, List.set_cons_succ]); refine wpAnyH_take (i := 8) (oi := ?oi8_2) (v := ?v8_2) (by (simp only [List.getElem?_toArray, List.getElem?_cons_succ, List.getElem?_cons_zero]; try rfl)) (by kernel_rfl) (by kernel_rfl) (by kernel_rfl) ?hq8_2 (Or.inl ⟨by rfl, ?hy8_2⟩) hHeld ?rest8_2; (case hy8_2 => (intro wz hSw; (try dsimp only at hSw); go_simp; first | done | with_reducible rfl)); (case hq8_2 => exact fun _ _ _ h => h); (try simp only [Act.put, List.setIfInBounds_toArray, List.set_cons_zero, List.set_cons_succ]); refine wpAnyH_take (i := 9) (oi := ?oi9_2) (v := ?v9_2) (by (simp only [List.getElem?_toArray, List.getElem?_cons_succ, List.getElem?_cons_zero]; try rfl)) (by kernel_rfl) (by kernel_rfl) (by kernel_rfl) ?hq9_2 (Or.inl ⟨by rfl, ?hy9_2⟩) hHeld ?rest9_2; (case hy9_2 => (intro wz hSw; (try dsimp only at hSw); go_simp; first | done | with_reducible rfl)); (case hq9_2 => exact fun _ _ _ h => h); (try simp only [Act.put, List.setIfInBounds_toArray, List.set_cons_zero, List.set_cons_succ]); refine wpAnyH_take (i := 10) (oi := ?oi10_2) (v := ?v10_2) (by (simp only [List.getElem?_toArray, List.getElem?_cons_succ, List.getElem?_cons_zero]; try rfl)) (by kernel_rfl) (by kernel_rfl) (by kernel_rfl) ?hq10_2 (Or.inl ⟨by rfl, ?hy10_2⟩) hHeld ?rest10_2; (case hy10_2 => (intro wz hSw; (try dsimp only at hSw); go_simp; first | done | with_reducible rfl)); (case hq10_2 => exact fun _ _ _ h => h); (try simp only [Act.put, List.setIfInBounds_toArray, List.set_cons_zero, List.set_cons_succ]); refine wpAnyH_take (i := 11) (oi := ?oi11_2) (v := ?v11_2) (by (simp only [List.getElem?_toArray, List.getElem?_cons_succ, List.getElem?_cons_zero]; try rfl)) (by kernel_rfl) (by kernel_rfl) (by kernel_rfl) ?hq11_2 (Or.inl ⟨by rfl, ?hy11_2⟩) hHeld ?rest11_2; (case hy11_2 => (intro wz hSw; (try dsimp only at hSw); go_simp; first | done | with_reducible rfl)); (case hq11_2 => exact fun _ _ _ h => h); (try simp only [Act.put, List.setIfInBounds_toArray, List.set_cons_zero, List.set_cons_succ]); refine wpAnyH_take (i := 12) (oi := ?oi12_2) (v := ?v12_2) (by (simp only [List.getElem?_toArray, List.getElem?_cons_succ, List.getElem?_cons_zero]; try rfl)) (by kernel_rfl) (by kernel_rfl) (by kernel_rfl) ?hq12_2 (Or.inl ⟨by rfl, ?hy12_2⟩) hHeld ?rest12_2; (case hy12_2 => (intro wz hSw; (try dsimp only at hSw); go_simp; first | done | with_reducible rfl)); (case hq12_2 => exact fun _ _ _ h => h); (try simp only [Act.put, List.setIfInBounds_toArray, List.set_cons_zero, List.set_cons_succ]); refine wpAnyH_take (i := 13) (oi := ?oi13_2) (v := ?v13_2) (by (simp only [List.getElem?_toArray, List.getElem?_cons_succ, List.getElem?_cons_zero]; try rfl)) (by kernel_rfl) (by kernel_rfl) (by kernel_rfl) ?hq13_2 (Or.inl ⟨by kernel_rfl, ?hy13_2⟩) hHeld ?rest13_2; (case hy13_2 => (intro wz hSw; (try dsimp only at hSw); go_simp; first | done | with_reducible rfl)); (case hq13_2 => exact fun _ _ _ h => h); (try simp only [Act.put, List.setIfInBounds_toArray, List.set_cons_zero, List.set_cons_succ]); refine wpAnyH_take (i := 14) (oi := ?oi14_2) (v := ?v14_2) (by (simp only [List.getElem?_toArray, List.getElem?_cons_succ, List.getElem?_cons_zero]; try rfl)) (by kernel_rfl) (by kernel_rfl) (by kernel_rfl) ?hq14_2 (Or.inl ⟨by kernel_rfl, ?hy14_2⟩) hHeld ?rest14_2; (case hy14_2 => (intro wz hSw; (try dsimp only at hSw); go_simp; first | done | with_reducible rfl)); (case hq14_2 => exact fun _ _ _ h => h); (try simp only [Act.put, List.setIfInBounds_toArray, List.set_cons_zero, List.set_cons_succ]); refine wpAnyH_take (i := 15) (oi := ?oi15_2) (v := ?v15_2) (by (simp only [List.getElem?_toArray, List.getElem?_cons_succ, List.getElem?_cons_zero]; try rfl)) (by kernel_rfl) (by kernel_rfl) (by kernel_rfl) ?hq15_2 (Or.inl ⟨by kernel_rfl, ?hy15_2⟩) hHeld ?rest15_2; (case hy15_2 => (intro wz hSw; (try dsimp only at hSw); go_simp; first | done | with_reducible rfl)); (case hq15_2 => exact fun _ _ _ h => h); (try simp only [Act.put, List.setIfInBounds_toArray, List.set_cons_zero, List.set_cons_succ]); refine wpAnyH_take (i := 16) (oi := ?oi16_2) (v := ?v16_2) (by (simp only [List.getElem?_toArray, List.getElem?_cons_succ, List.getElem?_cons_zero]; try rfl)) (by kernel_rfl) (by kernel_rfl) (by kernel_rfl) ?hq16_2 (Or.inl ⟨by rfl, ?hy16_2⟩) hHeld ?rest16_2; (case hy16_2 => (intro wz hSw; (try dsimp only at hSw); go_simp; first | done | with_reducible rfl)); (case hq16_2 => exact fun _ _ _ h => h); (try simp only [Act.put, List.setIfInBounds_toArray, List.set_cons_zero, List.set_cons_succ]); refine wpAnyH_take (i := 17) (oi := ?oi17_2) (v := ?v17_2) (by (simp only [List.getElem?_toArray, List.getElem?_cons_succ, List.getElem?_cons_zero]; try rfl)) (by kernel_rfl) (by kernel_rfl) (by kernel_rfl) ?hq17_2 (Or.inl ⟨by rfl, ?hy17_2⟩) hHeld ?rest17_2; (case hy17_2 => (intro wz hSw; (try dsimp only at hSw); go_simp; first | done | with_reducible rfl)); (case hq17_2 => exact fun _ _ _ h => h); (try simp only [Act.put, List.setIfInBounds_toArray, List.set_cons_zero, List.set_cons_succ]); refine wpAnyH_take (i := 18) (oi := ?oi18_2) (v := undef) (by (simp only [List.getElem?_toArray, List.getElem?_cons_succ, List.getElem?_cons_zero]; try rfl)) (by kernel_rfl) (by kernel_rfl) (by kernel_rfl) ?hq18_2 (Or.inr ⟨by kernel_rfl, rfl⟩) hHeld ?rest18_2; (case hq18_2 => exact fun _ _ _ h => h); (try simp only [Act.put, List.setIfInBounds_toArray, List.set_cons_zero, List.set_cons_succ]); refine wpAnyH_take (i := 19) (oi := ?oi19_2) (v := undef) (by (simp only [List.getElem?_toArray, List.getElem?_cons_succ, List.getElem?_cons_zero]; try rfl)) (by kernel_rfl) (by kernel_rfl) (by kernel_rfl) ?hq19_2 (Or.inr ⟨by kernel_rfl, rfl⟩) hHeld ?rest19_2; (case hq19_2 => exact fun _ _ _ h => h); (try simp only [Act.put, List.setIfInBounds_toArray, List.set_cons_zero, List.set_cons_succ]); refine wpAnyH_take (i := 20) (oi := ?oi20_2) (v := undef) (by (simp only [List.getElem?_toArray, List.getElem?_cons_succ, List.getElem?_cons_zero]; try rfl)) (by kernel_rfl) (by kernel_rfl) (by kernel_rfl) ?hq20_2 (Or.inr ⟨by kernel_rfl, rfl⟩) hHeld ?rest20_2; (case hq20_2 => exact fun _ _ _ h => h); (try simp only [Act.put, List.setIfInBounds_toArray, List.set_cons_zero, List.set_cons_succ]); refine wpAnyH_take (i := 21) (oi := ?oi21_2) (v := ?v21_2) (by (simp only [List.getElem?_toArray, List.getElem?_cons_succ, List.getElem?_cons_zero]; try rfl)) (by kernel_rfl) (by kernel_rfl) (by kernel_rfl) ?hq21_2 (Or.inl ⟨by rfl, ?hy21_2⟩) hHeld ?rest21_2; (case hy21_2 => (intro wz hSw; (try dsimp only at hSw); go_simp; first | done | with_reducible rfl)); (case hq21_2 => exact fun _ _ _ h => h); (try simp only [Act.put, List.setIfInBounds_toArray, List.set_cons_zero, List.set_cons_succ]); refine wpAnyH_ready (rs := [5]) (by kernel_rfl) (by simp) ?_; refine AllReadyH.cons (o := ?o5_2) (by (simp only [List.getElem?_toArray, List.getElem?_cons_succ, List.getElem?_cons_zero]; try rfl)) (fun K hK => ?_) AllReadyH.nil; go_simp; refine hK.out _ _ (by exact HMA.out _) (fun hHeld => ?_); clear hK K; (try simp only [Act.put, List.setIfInBounds_toArray, List.set_cons_zero, List.set_cons_succ]); refine wpAnyH_ready (rs := [6]) (by kernel_rfl) (by simp) ?_; refine AllReadyH.cons (o := ?o6_2) (by (simp only [List.getElem?_toArray, List.getElem?_cons_succ, List.getElem?_cons_zero]; try rfl)) (fun K hK => ?_) AllReadyH.nil; go_simp; refine hK.out _ _ (by exact HMA.out _) (fun hHeld => ?_); clear hK K; (try simp only [Act.put, List.setIfInBounds_toArray, List.set_cons_zero, List.set_cons_succ]); refine wpAnyH_take (i := 7) (oi := ?oi7_2) (v := ?v7_2) (by (simp only [List.getElem?_toArray, List.getElem?_cons_succ, List.getElem?_cons_zero]; try rfl)) (by kernel_rfl) (by kernel_rfl) (by kernel_rfl) ?hq7_2 (Or.inl ⟨by rfl, ?hy7_2⟩) hHeld ?rest7_2; (case hy7_2 => (intro wz hSw; (try dsimp only at hSw); go_simp; first | done | with_reducible rfl)); (case hq7_2 => exact fun _ _ _ h => h); (try simp only [Act.put, List.setIfInBounds_toArray, List.set_cons_zero, List.set_cons_succ]); refine wpAnyH_take (i := 22) (oi := ?oi22_2) (v := ?v22_2) (by (simp only [List.getElem?_toArray, List.getElem?_cons_succ, List.getElem?_cons_zero]; try rfl)) (by kernel_rfl) (by kernel_rfl) (by kernel_rfl) ?hq22_2 (Or.inl ⟨by rfl, ?hy22_2⟩) hHeld ?rest22_2; (case hy22_2 => (intro wz hSw; (try dsimp only at hSw); go_simp; first | done | with_reducible rfl)); (case hq22_2 => exact fun _ _ _ h => h); (try simp only [Act.put, List.setIfInBounds_toArray, List.set_cons_zero, List.set_cons_succ]); refine wpAnyH_take (i := 23) (oi := ?oi23_2) (v := ?v23_2) (by (simp only [List.getElem?_toArray, List.getElem?_cons_succ, List.getElem?_cons_zero]; try rfl)) (by kernel_rfl) (by kernel_rfl) (by kernel_rfl) ?hq23_2 (Or.inl ⟨by rfl, ?hy23_2⟩) hHeld ?rest23_2; (case hy23_2 => (intro wz hSw; (try dsimp only at hSw); go_simp; first | done | with_reducible rfl)); (case hq23_2 => exact fun _ _ _ h => h); (try simp only [Act.put, List.setIfInBounds_toArray, List.set_cons_zero, List.set_cons_succ])
    refine wpAnyH_done (by kernel_rfl) ?_ _
    go_wp2
    go_ret2
    exact ⟨_, rfl, fun hf => absurd hf HNF.out, HB.out _⟩
  · refine wp_region_held_drew (S := fun W => W.cell? ⟨w.heap.size, 0, none⟩ = some (.string (S x.c)) ∧ W.cell? ⟨w.heap.size, 1, none⟩ = some (.int .i64 x.k)) (by kernel_rfl) (by exact ⟨m0, m1⟩) (fun hHeld => ?_)
    refine wpAnyH_take (i := 0) (oi := ?oi0_3) (v := ?v0_3) (by (simp only [List.getElem?_toArray, List.getElem?_cons_succ, List.getElem?_cons_zero]; try rfl)) (by kernel_rfl) (by kernel_rfl) (by kernel_rfl) ?hq0_3 (Or.inl ⟨by rfl, ?hy0_3⟩) hHeld ?rest0_3; (case hy0_3 => (intro wz hSw; (try dsimp only at hSw); go_simp; first | done | with_reducible rfl)); (case hq0_3 => exact fun _ _ _ h => h); (try simp only [Act.put, List.setIfInBounds_toArray, List.set_cons_zero, List.set_cons_succ]); refine wpAnyH_take (i := 1) (oi := ?oi1_3) (v := ?v1_3) (by (simp only [List.getElem?_toArray, List.getElem?_cons_succ, List.getElem?_cons_zero]; try rfl)) (by kernel_rfl) (by kernel_rfl) (by kernel_rfl) ?hq1_3 (Or.inl ⟨by rfl, ?hy1_3⟩) hHeld ?rest1_3; (case hy1_3 => (intro wz hSw; (try dsimp only at hSw); go_simp; first | done | with_reducible rfl)); (case hq1_3 => exact fun _ _ _ h => h); (try simp only [Act.put, List.setIfInBounds_toArray, List.set_cons_zero, List.set_cons_succ]); refine wpAnyH_take (i := 2) (oi := ?oi2_3) (v := ?v2_3) (by (simp only [List.getElem?_toArray, List.getElem?_cons_succ, List.getElem?_cons_zero]; try rfl)) (by kernel_rfl) (by kernel_rfl) (by kernel_rfl) ?hq2_3 (Or.inl ⟨by rfl, ?hy2_3⟩) hHeld ?rest2_3; (case hy2_3 => (intro wz hSw; (try dsimp only at hSw); go_simp; first | done | with_reducible rfl)); (case hq2_3 => exact fun _ _ _ h => h); (try simp only [Act.put, List.setIfInBounds_toArray, List.set_cons_zero, List.set_cons_succ]); refine wpAnyH_take (i := 3) (oi := ?oi3_3) (v := ?v3_3) (by (simp only [List.getElem?_toArray, List.getElem?_cons_succ, List.getElem?_cons_zero]; try rfl)) (by kernel_rfl) (by kernel_rfl) (by kernel_rfl) ?hq3_3 (Or.inl ⟨by rfl, ?hy3_3⟩) hHeld ?rest3_3; (case hy3_3 => (intro wz hSw; (try dsimp only at hSw); go_simp; first | done | with_reducible rfl)); (case hq3_3 => exact fun _ _ _ h => h); (try simp only [Act.put, List.setIfInBounds_toArray, List.set_cons_zero, List.set_cons_succ]); refine wpAnyH_take (i := 4) (oi := ?oi4_3) (v := ?v4_3) (by (simp only [List.getElem?_toArray, List.getElem?_cons_succ, List.getElem?_cons_zero]; try rfl)) (by kernel_rfl) (by kernel_rfl) (by kernel_rfl) ?hq4_3 (Or.inl ⟨by rfl, ?hy4_3⟩) hHeld ?rest4_3; (case hy4_3 => (intro wz hSw; (try dsimp only at hSw); go_simp; first | done | with_reducible rfl)); (case hq4_3 => exact fun _ _ _ h => h); (try simp only [Act.put, List.setIfInBounds_toArray, List.set_cons_zero, List.set_cons_succ]); refine wpAnyH_take (i := 8) (oi := ?oi8_3) (v := ?v8_3) (by (simp only [List.getElem?_toArray, List.getElem?_cons_succ, List.getElem?_cons_zero]; try rfl)) (by kernel_rfl) (by kernel_rfl) (by kernel_rfl) ?hq8_3 (Or.inl ⟨by rfl, ?hy8_3⟩) hHeld ?rest8_3; (case hy8_3 => (intro wz hSw; (try dsimp only at hSw); go_simp; first | done | with_reducible rfl)); (case hq8_3 => exact fun _ _ _ h => h); (try simp only [Act.put, List.setIfInBounds_toArray, List.set_cons_zero, List.set_cons_succ]); refine wpAnyH_take (i := 9) (oi := ?oi9_3) (v := ?v9_3) (by (simp only [List.getElem?_toArray, List.getElem?_cons_succ, List.getElem?_cons_zero]; try rfl)) (by kernel_rfl) (by kernel_rfl) (by kernel_rfl) ?hq9_3 (Or.inl ⟨by rfl, ?hy9_3⟩) hHeld ?rest9_3; (case hy9_3 => (intro wz hSw; (try dsimp only at hSw); go_simp; first | done | with_reducible rfl)); (case hq9_3 => exact fun _ _ _ h => h); (try simp only [Act.put, List.setIfInBounds_toArray, List.set_cons_zero, List.set_cons_succ]); refine wpAnyH_take (i := 10) (oi := ?oi10_3) (v := ?v10_3) (by (simp only [List.getElem?_toArray, List.getElem?_cons_succ, List.getElem?_cons_zero]; try rfl)) (by kernel_rfl) (by kernel_rfl) (by kernel_rfl) ?hq10_3 (Or.inl ⟨by rfl, ?hy10_3⟩) hHeld ?rest10_3; (case hy10_3 => (intro wz hSw; (try dsimp only at hSw); go_simp; first | done | with_reducible rfl)); (case hq10_3 => exact fun _ _ _ h => h); (try simp only [Act.put, List.setIfInBounds_toArray, List.set_cons_zero, List.set_cons_succ]); refine wpAnyH_take (i := 11) (oi := ?oi11_3) (v := ?v11_3) (by (simp only [List.getElem?_toArray, List.getElem?_cons_succ, List.getElem?_cons_zero]; try rfl)) (by kernel_rfl) (by kernel_rfl) (by kernel_rfl) ?hq11_3 (Or.inl ⟨by rfl, ?hy11_3⟩) hHeld ?rest11_3; (case hy11_3 => (intro wz hSw; (try dsimp only at hSw); go_simp; first | done | with_reducible rfl)); (case hq11_3 => exact fun _ _ _ h => h); (try simp only [Act.put, List.setIfInBounds_toArray, List.set_cons_zero, List.set_cons_succ]); refine wpAnyH_take (i := 12) (oi := ?oi12_3) (v := ?v12_3) (by (simp only [List.getElem?_toArray, List.getElem?_cons_succ, List.getElem?_cons_zero]; try rfl)) (by kernel_rfl) (by kernel_rfl) (by kernel_rfl) ?hq12_3 (Or.inl ⟨by rfl, ?hy12_3⟩) hHeld ?rest12_3; (case hy12_3 => (intro wz hSw; (try dsimp only at hSw); go_simp; first | done | with_reducible rfl)); (case hq12_3 => exact fun _ _ _ h => h); (try simp only [Act.put, List.setIfInBounds_toArray, List.set_cons_zero, List.set_cons_succ]); refine wpAnyH_take (i := 13) (oi := ?oi13_3) (v := undef) (by (simp only [List.getElem?_toArray, List.getElem?_cons_succ, List.getElem?_cons_zero]; try rfl)) (by kernel_rfl) (by kernel_rfl) (by kernel_rfl) ?hq13_3 (Or.inr ⟨by kernel_rfl, rfl⟩) hHeld ?rest13_3; (case hq13_3 => exact fun _ _ _ h => h); (try simp only [Act.put, List.setIfInBounds_toArray, List.set_cons_zero, List.set_cons_succ]); refine wpAnyH_take (i := 14) (oi := ?oi14_3) (v := undef) (by (simp only [List.getElem?_toArray, List.getElem?_cons_succ, List.getElem?_cons_zero]; try rfl)) (by kernel_rfl) (by kernel_rfl) (by kernel_rfl) ?hq14_3 (Or.inr ⟨by kernel_rfl, rfl⟩) hHeld ?rest14_3; (case hq14_3 => exact fun _ _ _ h => h); (try simp only [Act.put, List.setIfInBounds_toArray, List.set_cons_zero, List.set_cons_succ]); refine wpAnyH_take (i := 15) (oi := ?oi15_3) (v := undef) (by (simp only [List.getElem?_toArray, List.getElem?_cons_succ, List.getElem?_cons_zero]; try rfl)) (by kernel_rfl) (by kernel_rfl) (by kernel_rfl) ?hq15_3 (Or.inr ⟨by kernel_rfl, rfl⟩) hHeld ?rest15_3; (case hq15_3 => exact fun _ _ _ h => h); (try simp only [Act.put, List.setIfInBounds_toArray, List.set_cons_zero, List.set_cons_succ]); refine wpAnyH_take (i := 16) (oi := ?oi16_3) (v := ?v16_3) (by (simp only [List.getElem?_toArray, List.getElem?_cons_succ, List.getElem?_cons_zero]; try rfl)) (by kernel_rfl) (by kernel_rfl) (by kernel_rfl) ?hq16_3 (Or.inl ⟨by rfl, ?hy16_3⟩) hHeld ?rest16_3; (case hy16_3 => (intro wz hSw; (try dsimp only at hSw); go_simp; first | done | with_reducible rfl)); (case hq16_3 => exact fun _ _ _ h => h); (try simp only [Act.put, List.setIfInBounds_toArray, List.set_cons_zero, List.set_cons_succ]); refine wpAnyH_take (i := 17) (oi := ?oi17_3) (v := ?v17_3) (by (simp only [List.getElem?_toArray, List.getElem?_cons_succ, List.getElem?_cons_zero]; try rfl)) (by kernel_rfl) (by kernel_rfl) (by kernel_rfl) ?hq17_3 (Or.inl ⟨by rfl, ?hy17_3⟩) hHeld ?rest17_3; (case hy17_3 => (intro wz hSw; (try dsimp only at hSw); go_simp; first | done | with_reducible rfl)); (case hq17_3 => exact fun _ _ _ h => h); (try simp only [Act.put, List.setIfInBounds_toArray, List.set_cons_zero, List.set_cons_succ]); refine wpAnyH_take (i := 18) (oi := ?oi18_3) (v := undef) (by (simp only [List.getElem?_toArray, List.getElem?_cons_succ, List.getElem?_cons_zero]; try rfl)) (by kernel_rfl) (by kernel_rfl) (by kernel_rfl) ?hq18_3 (Or.inr ⟨by kernel_rfl, rfl⟩) hHeld ?rest18_3; (case hq18_3 => exact fun _ _ _ h => h); (try simp only [Act.put, List.setIfInBounds_toArray, List.set_cons_zero, List.set_cons_succ]); refine wpAnyH_take (i := 19) (oi := ?oi19_3) (v := undef) (by (simp only [List.getElem?_toArray, List.getElem?_cons_succ, List.getElem?_cons_zero]; try rfl)) (by kernel_rfl) (by kernel_rfl) (by kernel_rfl) ?hq19_3 (Or.inr ⟨by kernel_rfl, rfl⟩) hHeld ?rest19_3; (case hq19_3 => exact fun _ _ _ h => h); (try simp only [Act.put, List.setIfInBounds_toArray, List.set_cons_zero, List.set_cons_succ]); refine wpAnyH_take (i := 20) (oi := ?oi20_3) (v := undef) (by (simp only [List.getElem?_toArray, List.getElem?_cons_succ, List.getElem?_cons_zero]; try rfl)) (by kernel_rfl) (by kernel_rfl) (by kernel_rfl) ?hq20_3 (Or.inr ⟨by kernel_rfl, rfl⟩) hHeld ?rest20_3; (case hq20_3 => exact fun _ _ _ h => h); (try simp only [Act.put, List.setIfInBounds_toArray, List.set_cons_zero, List.set_cons_succ]); refine wpAnyH_take (i := 21) (oi := ?oi21_3) (v := ?v21_3) (by (simp only [List.getElem?_toArray, List.getElem?_cons_succ, List.getElem?_cons_zero]; try rfl)) (by kernel_rfl) (by kernel_rfl) (by kernel_rfl) ?hq21_3 (Or.inl ⟨by rfl, ?hy21_3⟩) hHeld ?rest21_3; (case hy21_3 => (intro wz hSw; (try dsimp only at hSw); go_simp; first | done | with_reducible rfl)); (case hq21_3 => exact fun _ _ _ h => h); (try simp only [Act.put, List.setIfInBounds_toArray, List.set_cons_zero, List.set_cons_succ]); refine wpAnyH_ready (rs := [5]) (by kernel_rfl) (by simp) ?_; refine AllReadyH.cons (o := ?o5_3) (by (simp only [List.getElem?_toArray, List.getElem?_cons_succ, List.getElem?_cons_zero]; try rfl)) (fun K hK => ?_) AllReadyH.nil; go_simp; refine hK.out _ _ (by exact HMA.out _) (fun hHeld => ?_); clear hK K; (try simp only [Act.put, List.setIfInBounds_toArray, List.set_cons_zero, List.set_cons_succ]); refine wpAnyH_ready (rs := [6]) (by kernel_rfl) (by simp) ?_; refine AllReadyH.cons (o := ?o6_3) (by (simp only [List.getElem?_toArray, List.getElem?_cons_succ, List.getElem?_cons_zero]; try rfl)) (fun K hK => ?_) AllReadyH.nil; go_simp; refine hK.out _ _ (by exact HMA.out _) (fun hHeld => ?_); clear hK K; (try simp only [Act.put, List.setIfInBounds_toArray, List.set_cons_zero, List.set_cons_succ]); refine wpAnyH_take (i := 7) (oi := ?oi7_3) (v := ?v7_3) (by (simp only [List.getElem?_toArray, List.getElem?_cons_succ, List.getElem?_cons_zero]; try rfl)) (by kernel_rfl) (by kernel_rfl) (by kernel_rfl) ?hq7_3 (Or.inl ⟨by rfl, ?hy7_3⟩) hHeld ?rest7_3; (case hy7_3 => (intro wz hSw; (try dsimp only at hSw); go_simp; first | done | with_reducible rfl)); (case hq7_3 => exact fun _ _ _ h => h); (try simp only [Act.put, List.setIfInBounds_toArray, List.set_cons_zero, List.set_cons_succ]); refine wpAnyH_take (i := 22) (oi := ?oi22_3) (v := ?v22_3) (by (simp only [List.getElem?_toArray, List.getElem?_cons_succ, List.getElem?_cons_zero]; try rfl)) (by kernel_rfl) (by kernel_rfl) (by kernel_rfl) ?hq22_3 (Or.inl ⟨by rfl, ?hy22_3⟩) hHeld ?rest22_3; (case hy22_3 => (intro wz hSw; (try dsimp only at hSw); go_simp; first | done | with_reducible rfl)); (case hq22_3 => exact fun _ _ _ h => h); (try simp only [Act.put, List.setIfInBounds_toArray, List.set_cons_zero, List.set_cons_succ]); refine wpAnyH_take (i := 23) (oi := ?oi23_3) (v := ?v23_3) (by (simp only [List.getElem?_toArray, List.getElem?_cons_succ, List.getElem?_cons_zero]; try rfl)) (by kernel_rfl) (by kernel_rfl) (by kernel_rfl) ?hq23_3 (Or.inl ⟨by rfl, ?hy23_3⟩) hHeld ?rest23_3; (case hy23_3 => (intro wz hSw; (try dsimp only at hSw); go_simp; first | done | with_reducible rfl)); (case hq23_3 => exact fun _ _ _ h => h); (try simp only [Act.put, List.setIfInBounds_toArray, List.set_cons_zero, List.set_cons_succ])
    refine wpAnyH_done (by kernel_rfl) ?_ _
    go_wp2
    go_ret2
    exact ⟨_, rfl, fun hf => absurd hf HNF.out, HB.out _⟩
theorem orest_fit (x : It) (h : x.fit) (w : World) :
    Calls Tryz.prog 95 #[itV x] w fun r w' => r = .returned (.tuple #[.string (S x.key), .bool true]) ∧ Below w.heap.size w w' := by
  refine (orest_any x (by have := h.1; omega) w).mono ?_
  rintro r w' ⟨str, rfl, h1, h2⟩
  rw [h1 h, decide_eq_true h]
  exact ⟨rfl, h2⟩
theorem orest_not (x : It) (hl : x.c.length < 9223372036854775807) (h : ¬ x.fit) (w : World) :
    Calls Tryz.prog 95 #[itV x] w fun r w' => ∃ str, r = .returned (.tuple #[.string (S str), .bool false]) ∧ Below w.heap.size w w' := by
  refine (orest_any x hl w).mono ?_
  rintro r w' ⟨str, rfl, h1, h2⟩
  rw [decide_eq_false h]
  exact ⟨str, rfl, h2⟩
theorem oput_nil (x : It) (w : World) : Calls Tryz.prog 34 #[.pointer none, itV x] w fun e w' => e = .returned (.int .i64 1) ∧ Below w.heap.size w w' := by
  have HB := hid ((Below.refl _ w).alloc (Nat.le_refl _) (.cells #[.string (S x.c), .int .i64 x.k, .float .f64 x.e.t, .int .i64 x.e.src, .int .i64 x.e.n, .int .i64 x.e.dst, .int .i64 x.e.pay] 69))
  unfold itV
  go_enter Tryz.func34, Tryz.ntmps34
  go_wp2
  go_ret
  exact ⟨rfl, HB.out⟩
theorem odel_nil (x : It) (w : World) : Calls Tryz.prog 46 #[.pointer none, itV x] w fun e w' => e = .returned (.int .i64 1) ∧ Below w.heap.size w w' := by
  have HB := hid ((Below.refl _ w).alloc (Nat.le_refl _) (.cells #[.string (S x.c), .int .i64 x.k, .float .f64 x.e.t, .int .i64 x.e.src, .int .i64 x.e.n, .int .i64 x.e.dst, .int .i64 x.e.pay] 69))
  unfold itV
  go_enter Tryz.func46, Tryz.ntmps46
  go_wp2
  go_ret
  exact ⟨rfl, HB.out⟩
set_option maxHeartbeats 4000000 in
theorem oput_no (q : Addr) (x : It) (hl : x.c.length < 9223372036854775807) (ho : x.e.ok) (h : ¬ x.right) (w : World) :
    Calls Tryz.prog 34 #[.pointer (some q), itV x] w fun e w' => e = .returned (.int .i64 2) ∧ Below w.heap.size w w' := by
  have HB := hid ((Below.refl _ w).alloc (Nat.le_refl _) (.cells #[.string (S x.c), .int .i64 x.k, .float .f64 x.e.t, .int .i64 x.e.src, .int .i64 x.e.n, .int .i64 x.e.dst, .int .i64 x.e.pay] 69))
  have HX := hid (it_box w x)
  have HC : Hid (∀ W, Below (w.heap.size + 1) (w.alloc (.cells #[.string (S x.c), .int .i64 x.k, .float .f64 x.e.t, .int .i64 x.e.src, .int .i64 x.e.n, .int .i64 x.e.dst, .int .i64 x.e.pay] 69)) W → W.cell? ⟨w.heap.size, 2, none⟩ = some (.float .f64 x.e.t) ∧ W.cell? ⟨w.heap.size, 3, none⟩ = some (.int .i64 x.e.src) ∧ W.cell? ⟨w.heap.size, 4, none⟩ = some (.int .i64 x.e.n) ∧ W.cell? ⟨w.heap.size, 5, none⟩ = some (.int .i64 x.e.dst) ∧ W.cell? ⟨w.heap.size, 6, none⟩ = some (.int .i64 x.e.pay)) := hid fun W hb => by
    have h1 := HX.out.below hb (Nat.lt_succ_self _)
    exact ⟨h1.cell 2, h1.cell 3, h1.cell 4, h1.cell 5, h1.cell 6⟩
  by_cases hf : x.fit
  · have hr : ¬ x.e.right := fun hr => h ⟨hf, hr⟩
    have HR := hid (fun W => orest_fit x hf W)
    have HP := hid (fun W => putev_no x.e hr W)
    unfold itV at HR ⊢
    unfold evV at HP
    clear h hf hr hl ho
    go_enter Tryz.func34, Tryz.ntmps34
    go_wp2_with fail
    (with_reducible refine (HR.out _).mono ?_)
    rintro r W1 ⟨rfl, hb1⟩
    obtain ⟨m2, m3, m4, m5, m6⟩ := HC.out W1 (by simpa using hb1)
    have HF1 := hid (HB.out.trans (hb1.mono (by simp)))
    clear hb1
    go_wp2_with fail
    (with_reducible refine (HP.out _).mono ?_)
    rintro r W2 ⟨rfl, hb2⟩
    have HF := hid (HF1.out.trans (hb2.mono HF1.out.size))
    clear hb2 m2 m3 m4 m5 m6
    go_wp2
    go_ret
    exact ⟨rfl, HF.out⟩
  · have HR := hid (fun W => orest_not x hl hf W)
    have HP : Hid (∀ W, Calls Tryz.prog 96 #[evV x.e] W fun r w' => ∃ str er, r = .returned (.tuple #[.string str, .int .i64 er]) ∧ Below W.heap.size W w') := hid fun W => by
      by_cases hr : x.e.right
      · refine (putev_any x.e hr ho W).mono ?_
        rintro r w' ⟨rfl, hb⟩
        exact ⟨_, _, rfl, hb⟩
      · refine (putev_no x.e hr W).mono ?_
        rintro r w' ⟨rfl, hb⟩
        exact ⟨_, _, rfl, hb⟩
    unfold itV at HR ⊢
    unfold evV at HP
    clear h hf hl ho
    go_enter Tryz.func34, Tryz.ntmps34
    go_wp2_with fail
    (with_reducible refine (HR.out _).mono ?_)
    rintro r W1 ⟨str, rfl, hb1⟩
    obtain ⟨m2, m3, m4, m5, m6⟩ := HC.out W1 (by simpa using hb1)
    have HF1 := hid (HB.out.trans (hb1.mono (by simp)))
    clear hb1
    go_wp2_with fail
    (with_reducible refine (HP.out _).mono ?_)
    rintro r W2 ⟨s2, er, rfl, hb2⟩
    have HF := hid (HF1.out.trans (hb2.mono HF1.out.size))
    clear hb2 m2 m3 m4 m5 m6
    go_wp2
    go_ret
    exact ⟨rfl, HF.out⟩
theorem odel_no (q : Addr) (x : It) (hl : x.c.length < 9223372036854775807) (hf : ¬ x.fit) (w : World) :
    Calls Tryz.prog 46 #[.pointer (some q), itV x] w fun e w' => e = .returned (.int .i64 2) ∧ Below w.heap.size w w' := by
  have HB := hid ((Below.refl _ w).alloc (Nat.le_refl _) (.cells #[.string (S x.c), .int .i64 x.k, .float .f64 x.e.t, .int .i64 x.e.src, .int .i64 x.e.n, .int .i64 x.e.dst, .int .i64 x.e.pay] 69))
  have HR := hid (fun W => orest_not x hl hf W)
  unfold itV at HR ⊢
  clear hf hl
  go_enter Tryz.func46, Tryz.ntmps46
  go_wp2_with fail
  (with_reducible refine (HR.out _).mono ?_)
  rintro r W1 ⟨str, rfl, hb1⟩
  have HF := hid (HB.out.trans (hb1.mono (by simp)))
  clear hb1
  go_wp2
  go_ret
  exact ⟨rfl, HF.out⟩
section
variable {w w' : World} {xb yb : Nat} {s : SL} {sp sq lp : Int} {O : List Nat} {N L : Nat} {l m : List It}
def roomO (N L : Nat) : Prop := N ≤ 100 ∨ (L ≤ 28 ∧ N ≤ 245)
set_option maxHeartbeats 8000000 in
theorem oput_any (h : OxI w xb yb s sp sq lp O N L l m) (x : It) (hr : x.right) (ho : x.e.ok) (hN : roomO N L) :
    Calls Tryz.prog 34 #[.pointer (some ⟨xb, 0, none⟩), itV x] w fun e w' => ∃ O', e = .returned (.int .i64 0) ∧ OxI w' xb yb s sp sq lp O' (N + 1) (L + 1) (setO l x.nrm) m ∧ Kp O w w' ∧ Gr O w.heap.size O' := by
  have HB := hid ((Below.refl _ w).alloc (Nat.le_refl _) (.cells #[.string (S x.c), .int .i64 x.k, .float .f64 x.e.t, .int .i64 x.e.src, .int .i64 x.e.n, .int .i64 x.e.dst, .int .i64 x.e.pay] 69))
  have HX := hid (it_box w x)
  have HC : Hid (∀ W, Below (w.heap.size + 1) (w.alloc (.cells #[.string (S x.c), .int .i64 x.k, .float .f64 x.e.t, .int .i64 x.e.src, .int .i64 x.e.n, .int .i64 x.e.dst, .int .i64 x.e.pay] 69)) W → W.cell? ⟨w.heap.size, 2, none⟩ = some (.float .f64 x.e.t) ∧ W.cell? ⟨w.heap.size, 3, none⟩ = some (.int .i64 x.e.src) ∧ W.cell? ⟨w.heap.size, 4, none⟩ = some (.int .i64 x.e.n) ∧ W.cell? ⟨w.heap.size, 5, none⟩ = some (.int .i64 x.e.dst) ∧ W.cell? ⟨w.heap.size, 6, none⟩ = some (.int .i64 x.e.pay)) := hid fun W hb => by
    have h1 := HX.out.below hb (Nat.lt_succ_self _)
    exact ⟨h1.cell 2, h1.cell 3, h1.cell 4, h1.cell 5, h1.cell 6⟩
  have HR := hid (fun W => orest_fit x hr.1 W)
  have HP := hid (fun W => putev_any x.e hr.2 ho W)
  obtain ⟨M, h1, h2, h3, h4, h5⟩ := h.m
  have hkl := It.key_len hr.1
  have HSET : Hid (∀ W, Below w.heap.size w W → Calls Tryz.prog 80 #[.pointer (some ⟨s.sb, 0, none⟩), .int .i64 sp, .int .i64 lp, .string (S x.key), .string (S (evB x.e))] W fun e w' => ∃ O', e = .returned (.int .i64 0) ∧ StI w' s O' (N + 1) (setM M (hdP sp lp ++ x.key) (evB x.e)) ∧ Kp O W w' ∧ Gr O W.heap.size O') := hid fun W hW =>
    sset_any (h1.below hW) h.okp (by omega) (by simp) (by
      unfold Roomy
      unfold roomO at hN
      omega)
  have HFIN : Hid (∀ W' O', StI W' s O' (N + 1) (setM M (hdP sp lp ++ x.key) (evB x.e)) → Kp O w W' → Gr O w.heap.size O' → OxI W' xb yb s sp sq lp O' (N + 1) (L + 1) (setO l x.nrm) m) := hid fun W' O' hs hk hg => by
    have hl := longs_set h1.asc (hdP sp lp ++ x.key) (evB x.e)
    rw [h4, evB_length] at hl
    have hll := setM_length_le h1.asc (hdP sp lp ++ x.key) (evB x.e)
    exact h.turn hk hg hs (h2.set h1.asc hr ho) (h3.set_other h1.asc (hdO_ne h.sps lp) _ _) (by simpa using hl) (by omega)
  have HI := hid h
  unfold itV at HR ⊢
  unfold evV at HP
  clear h hr ho hN h1 h2 h3 h4 h5 hkl
  go_enter Tryz.func34, Tryz.ntmps34
  go_wp2_with fail
  (with_reducible refine (HR.out _).mono ?_)
  rintro r W1 ⟨rfl, hb1⟩
  obtain ⟨m2, m3, m4, m5, m6⟩ := HC.out W1 (by simpa using hb1)
  have HF1 := hid (HB.out.trans (hb1.mono (by simp)))
  clear hb1
  go_wp2_with fail
  (with_reducible refine (HP.out _).mono ?_)
  rintro r W2 ⟨rfl, hb2⟩
  have hb02 := HF1.out.trans (hb2.mono HF1.out.size)
  have hX2 : OxX W2 xb s sp lp := (HI.out.below hb02).x
  have c0 : W2.cell? ⟨xb, 0, none⟩ = some (.pointer (some ⟨s.sb, 0, none⟩)) := Blk.cell hX2 0
  have c1 : W2.cell? ⟨xb, 1, none⟩ = some (.int .i64 sp) := Blk.cell hX2 1
  have c2 : W2.cell? ⟨xb, 2, none⟩ = some (.int .i64 lp) := Blk.cell hX2 2
  have HS2 := hid (HSET.out W2.drew (below_drewN hb02 1))
  have HX2 := hid hb02
  have HCK : Hid (∀ W', Kp O W2.drew W' → W'.cell? ⟨xb, 0, none⟩ = some (.pointer (some ⟨s.sb, 0, none⟩)) ∧ W'.cell? ⟨xb, 1, none⟩ = some (.int .i64 sp) ∧ W'.cell? ⟨xb, 2, none⟩ = some (.int .i64 lp)) := hid fun W' hk => by
    have := (Blk.drew hX2).kp hk HI.out.nxO
    exact ⟨this.cell 0, this.cell 1, this.cell 2⟩
  clear hb2 hb02 hX2 m2 m3 m4 m5 m6
  go_wp2
  go_region_held3 (fun W => W.cell? ⟨xb, 0, none⟩ = some (.pointer (some ⟨s.sb, 0, none⟩)) ∧ W.cell? ⟨xb, 1, none⟩ = some (.int .i64 sp) ∧ W.cell? ⟨xb, 2, none⟩ = some (.int .i64 lp)) (first | exact hck5 | exact ⟨c0, c1, c2⟩)
    (first
      | (go_at_call 80; refine HS2.out.mono ?_; rintro r W5 ⟨O5, rfl, hS5, hk5, hg5⟩; have hck5 := HCK.out W5 hk5))
  all_goals
    have hk05 : Kp O w W5 := (Kp.of_below HX2.out).trans ((Kp.refl O W2).drew.trans hk5)
    have hg05 := hg5.mono HX2.out.size
    have HF := hid (⟨HFIN.out W5 O5 hS5 hk05 hg05, hk05, hg05⟩ : _ ∧ _ ∧ _)
    clear hS5 hk5 hg5 hck5 hk05 hg05
    go_wp2
    go_ret
    exact ⟨O5, rfl, HF.out⟩
set_option maxHeartbeats 8000000 in
theorem odel_any (h : OxI w xb yb s sp sq lp O N L l m) (x : It) (hr : x.fit) :
    Calls Tryz.prog 46 #[.pointer (some ⟨xb, 0, none⟩), itV x] w fun e w' => ∃ er, e = .returned (.int .i64 er) ∧ ((er = 0 ∧ (∃ y ∈ l, y.key = x.key) ∧ OxI w' xb yb s sp sq lp O N (L - 1) (delO l x.key) m) ∨ (er = 9 ∧ (¬ ∃ y ∈ l, y.key = x.key) ∧ OxI w' xb yb s sp sq lp O N L (delO l x.key) m)) ∧ Kp O w w' := by
  have HB := hid ((Below.refl _ w).alloc (Nat.le_refl _) (.cells #[.string (S x.c), .int .i64 x.k, .float .f64 x.e.t, .int .i64 x.e.src, .int .i64 x.e.n, .int .i64 x.e.dst, .int .i64 x.e.pay] 69))
  have HR := hid (fun W => orest_fit x hr W)
  obtain ⟨M, h1, h2, h3, h4, h5⟩ := h.m
  have hkl := It.key_len hr
  obtain ⟨ge, hge, hcs⟩ : ∃ ge, delR (getM M (hdP sp lp ++ x.key)) = .int .i64 ge ∧ ((ge = 0 ∧ ∃ v, getM M (hdP sp lp ++ x.key) = some v) ∨ (ge = 9 ∧ getM M (hdP sp lp ++ x.key) = none)) := by
    cases e : getM M (hdP sp lp ++ x.key) with
    | none => exact ⟨_, rfl, .inr ⟨rfl, rfl⟩⟩
    | some v => exact ⟨_, rfl, .inl ⟨rfl, v, rfl⟩⟩
  have HDEL : Hid (∀ W, Below w.heap.size w W → Calls Tryz.prog 105 #[.pointer (some ⟨s.sb, 0, none⟩), .int .i64 sp, .int .i64 lp, .string (S x.key)] W fun e w' => e = .returned (.int .i64 ge) ∧ StI w' s O N (delM M (hdP sp lp ++ x.key)) ∧ Kp O W w') := hid fun W hW => by
    have := sdel_any (h1.below hW) h.okp (k := x.key) (by omega)
    rw [hge] at this
    exact this
  have HFIN : Hid (∀ W', StI W' s O N (delM M (hdP sp lp ++ x.key)) → Kp O w W' → (ge = 0 ∧ (∃ y ∈ l, y.key = x.key) ∧ OxI W' xb yb s sp sq lp O N (L - 1) (delO l x.key) m) ∨ (ge = 9 ∧ (¬ ∃ y ∈ l, y.key = x.key) ∧ OxI W' xb yb s sp sq lp O N L (delO l x.key) m)) := hid fun W' hs hk => by
    have hlo : longs (delM M (hdP sp lp ++ x.key)) = 0 := by
      have := longs_sub (delM_sub M (hdP sp lp ++ x.key)); omega
    rcases hcs with ⟨e, v, hv⟩ | ⟨e, hv⟩
    · have hlen := delM_length h1.asc hv
      exact .inl ⟨e, (h2.has h1.asc _).1 ⟨v, hv⟩, h.turn hk (Gr.refl _ _) hs (h2.del _) (h3.del_other (hdO_ne h.sps lp) _) hlo (by omega)⟩
    · refine .inr ⟨e, fun hx => ?_, h.turn hk (Gr.refl _ _) hs (h2.del _) (h3.del_other (hdO_ne h.sps lp) _) hlo ?_⟩
      · obtain ⟨v, hv2⟩ := (h2.has h1.asc _).2 hx
        rw [hv] at hv2
        exact absurd hv2 (by simp)
      · rw [delM_none hv]; exact h5
  have HI := hid h
  unfold itV at HR ⊢
  clear h hr h1 h2 h3 h4 h5 hkl hge hcs
  go_enter Tryz.func46, Tryz.ntmps46
  go_wp2_with fail
  (with_reducible refine (HR.out _).mono ?_)
  rintro r W2 ⟨rfl, hb2⟩
  have hb02 := HB.out.trans (hb2.mono (by simp))
  have hX2 : OxX W2 xb s sp lp := (HI.out.below hb02).x
  have c0 : W2.cell? ⟨xb, 0, none⟩ = some (.pointer (some ⟨s.sb, 0, none⟩)) := Blk.cell hX2 0
  have c1 : W2.cell? ⟨xb, 1, none⟩ = some (.int .i64 sp) := Blk.cell hX2 1
  have c2 : W2.cell? ⟨xb, 2, none⟩ = some (.int .i64 lp) := Blk.cell hX2 2
  have HS2 := hid (HDEL.out W2.drew (below_drewN hb02 1))
  have HX2 := hid hb02
  have HCK : Hid (∀ W', Kp O W2.drew W' → W'.cell? ⟨xb, 0, none⟩ = some (.pointer (some ⟨s.sb, 0, none⟩)) ∧ W'.cell? ⟨xb, 1, none⟩ = some (.int .i64 sp) ∧ W'.cell? ⟨xb, 2, none⟩ = some (.int .i64 lp)) := hid fun W' hk => by
    have := (Blk.drew hX2).kp hk HI.out.nxO
    exact ⟨this.cell 0, this.cell 1, this.cell 2⟩
  clear hb2 hb02 hX2
  go_wp2
  go_region_held3 (fun W => W.cell? ⟨xb, 0, none⟩ = some (.pointer (some ⟨s.sb, 0, none⟩)) ∧ W.cell? ⟨xb, 1, none⟩ = some (.int .i64 sp) ∧ W.cell? ⟨xb, 2, none⟩ = some (.int .i64 lp)) (first | exact hck5 | exact ⟨c0, c1, c2⟩)
    (first
      | (go_at_call 105; refine HS2.out.mono ?_; rintro r W5 ⟨rfl, hS5, hk5⟩; have hck5 := HCK.out W5 hk5))
  all_goals
    have hk05 : Kp O w W5 := (Kp.of_below HX2.out).trans ((Kp.refl O W2).drew.trans hk5)
    have HF := hid (⟨HFIN.out W5 hS5 hk05, hk05⟩ : _ ∧ _)
    clear hS5 hk5 hck5 hk05
    go_wp2
    go_ret
    exact ⟨ge, rfl, HF.out⟩
end
end Go.Proofs.YtnnghcooidjlhaaGreat
end
