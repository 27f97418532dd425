/- Parts of the proof: Zf. -/
import Derived.Deep.RegionHeld3
import Derived.Test.YtnnghcooidjlhaaGreatE27
import Derived.Test.YtnnghcooidjlhaaGreatE28
import Derived.Test.YtnnghcooidjlhaaGreatE29
import Derived.Test.YtnnghcooidjlhaaGreatE31
set_option linter.all false
set_option maxRecDepth 100000
namespace Go.Proofs.YtnnghcooidjlhaaGreat
section
open Go.RowKit Go.Lib
section
variable {P : Program} {ops : Array Oper} {Q : Exit → Act → World → Prop} {md : Region.Mode} {S : World → Prop}
theorem hTk {i : Nat} {oi : Oper} {v : Value} {fuel : Nat} {listed : Array Bool} {a : Act} {w : World} (hi : ops[i]? = some oi)
  (h3 : (Region.noSelect ops && Region.free md ops listed i && (Region.ready md ops listed).contains i) = true)
  (hQ : ∀ c a w, Q (.panic c) (a.put oi.dst v) w → Q (.panic c) a w) (hy : YieldsIf P ops S oi v a) (hS : S w)
  (h : wpAnyH P md ops Q S fuel (listed.setIfInBounds i true) (a.put oi.dst v) w) : wpAnyH P md ops Q S (fuel + 1) listed a w := by
 simp only [Bool.and_eq_true] at h3
 exact wpAnyH_take hi h3.1.1 h3.1.2 h3.2 hQ hy hS h
end
theorem gEa {α : Type} (l : List α) (i : Nat) : l.toArray[i]? = l[i]? := by simp
theorem gEb {α : Type} (a : α) (l : List α) (i : Nat) : (a :: l)[i + 1]? = l[i]? := List.getElem?_cons_succ
theorem gEc {α : Type} (a : α) (l : List α) : (a :: l)[0]? = some a := List.getElem?_cons_zero
theorem sEa {α : Type} (l : List α) (i : Nat) (x : α) : l.toArray.setIfInBounds i x = (l.set i x).toArray := by simp
theorem sEb {α : Type} (a b : α) (l : List α) : (a :: l).set 0 b = b :: l := rfl
theorem sEc {α : Type} (a b : α) (l : List α) (i : Nat) : (a :: l).set (i + 1) b = a :: l.set i b := rfl
def OxX (w : World) (xb : Nat) (s : SL) (sp lp : Int) : Prop := Blk w xb 199 #[.pointer (some ⟨s.sb, 0, none⟩), .int .i64 sp, .int .i64 lp]
def itC (x : It) : List Value := [.string (S x.c), .int .i64 x.k, .float .f64 x.e.t, .int .i64 x.e.src, .int .i64 x.e.n, .int .i64 x.e.dst, .int .i64 x.e.pay]
def itV (x : It) : Value := .agg #[.string (S x.c), .int .i64 x.k, .float .f64 x.e.t, .int .i64 x.e.src, .int .i64 x.e.n, .int .i64 x.e.dst, .int .i64 x.e.pay]
theorem itC_len (x : It) : (itC x).length = 7 := rfl
theorem itC_one (x : It) : ∀ u ∈ itC x, u.oneCell' = true := by
 intro u hu
 simp [itC] at hu
 rcases hu with rfl | rfl | rfl | rfl | rfl | rfl | rfl <;> rfl
theorem infItem : (Tryz.prog.info? 69).map (fun i => (i.zero, i.size, i.bytes)) = some (some (.agg #[.string ⟨#[]⟩, .int .i64 0, .float .f64 0, .int .i64 0, .int .i64 0, .int .i64 0, .int .i64 0]), 7, 64) := by kernel_rfl
theorem oof_a (s : SL) (lp : Int) (h : 0 ≤ lp ∧ lp < 6) (w : World) : Calls Tryz.prog 45 #[.pointer (some ⟨s.sb, 0, none⟩), .int .i64 lp, .bool false] w fun e w' => e = .returned (.tuple #[.pointer (some ⟨w.heap.size, 0, none⟩), .int .i64 0]) ∧ w.alloc (.cells #[.pointer (some ⟨s.sb, 0, none⟩), .int .i64 1, .int .i64 lp] 199) = w' := by
 have h0 : ¬ lp < 0 := by omega
 have h1 : ¬ 6 ≤ lp := by omega
 clear h
 go_enter Tryz.func45, Tryz.ntmps45
 go_wp2
 go_ret2
 exact ⟨rfl, rfl⟩
theorem oof_b (s : SL) (lp : Int) (h : 0 ≤ lp ∧ lp < 6) (w : World) : Calls Tryz.prog 45 #[.pointer (some ⟨s.sb, 0, none⟩), .int .i64 lp, .bool true] w fun e w' => e = .returned (.tuple #[.pointer (some ⟨w.heap.size, 0, none⟩), .int .i64 0]) ∧ w.alloc (.cells #[.pointer (some ⟨s.sb, 0, none⟩), .int .i64 2, .int .i64 lp] 199) = w' := by
 have h0 : ¬ lp < 0 := by omega
 have h1 : ¬ 6 ≤ lp := by omega
 clear h
 go_enter Tryz.func45, Tryz.ntmps45
 go_wp2
 go_ret2
 exact ⟨rfl, rfl⟩
structure OxI (w : World) (xb yb : Nat) (s : SL) (sp sq lp : Int) (O : List Nat) (N L : Nat) (l m : List It) : Prop where
 x : OxX w xb s sp lp
 y : OxX w yb s sq lp
 nx : xb ∉ s.sb :: s.tb :: O
 ny : yb ∉ s.sb :: s.tb :: O
 sps : (sp = 1 ∧ sq = 2) ∨ (sp = 2 ∧ sq = 1)
 hlp : 0 ≤ lp ∧ lp ≤ 5
 m : ∃ M, StI w s O N M ∧ OxM M sp lp l ∧ OxM M sq lp m ∧ longs M = 0 ∧ M.length ≤ L
section
variable {w w' : World} {xb yb : Nat} {s : SL} {sp sq lp : Int} {O : List Nat} {N L : Nat} {l m : List It}
theorem OxI.swap (h : OxI w xb yb s sp sq lp O N L l m) : OxI w yb xb s sq sp lp O N L m l := by
 obtain ⟨M, h1, h2, h3, h4⟩ := h.m
 exact ⟨h.y, h.x, h.ny, h.nx, by have := h.sps; omega, h.hlp, M, h1, h3, h2, h4⟩
theorem OxI.below (h : OxI w xb yb s sp sq lp O N L l m) (hb : Below w.heap.size w w') : OxI w' xb yb s sp sq lp O N L l m := by
 obtain ⟨M, h1, h2⟩ := h.m
 exact ⟨Blk.below h.x hb (Blk.lt h.x), Blk.below h.y hb (Blk.lt h.y), h.nx, h.ny, h.sps, h.hlp, M, h1.below hb, h2⟩
theorem OxI.of_blocks (h : OxI w xb yb s sp sq lp O N L l m) (e : ∀ b ∈ xb :: yb :: s.sb :: s.tb :: O, w'.heap[b]? = w.heap[b]?) : OxI w' xb yb s sp sq lp O N L l m := by
 obtain ⟨M, h1, h2⟩ := h.m
 exact ⟨(e xb (by simp)).trans h.x, (e yb (by simp)).trans h.y, h.nx, h.ny, h.sps, h.hlp, M, h1.of_blocks (fun b hb => e b (List.mem_cons_of_mem _ (List.mem_cons_of_mem _ hb))), h2⟩
theorem OxI.lts (h : OxI w xb yb s sp sq lp O N L l m) : ∀ b ∈ xb :: yb :: s.sb :: s.tb :: O, b < w.heap.size := by
 obtain ⟨M, h1, h2⟩ := h.m
 intro b hb
 rcases List.mem_cons.1 hb with rfl | hb
 ·exact Blk.lt h.x
 rcases List.mem_cons.1 hb with rfl | hb
 ·exact Blk.lt h.y
 ·exact h1.lts b hb
theorem OxI.nxO (h : OxI w xb yb s sp sq lp O N L l m) : xb ∉ O := fun hm => h.nx (by simp [hm])
theorem OxI.okp (h : OxI w xb yb s sp sq lp O N L l m) : okP sp lp := by
 have := h.sps; have := h.hlp
 unfold okP; omega
theorem hdO_ne (h : (sp = 1 ∧ sq = 2) ∨ (sp = 2 ∧ sq = 1)) (lp : Int) : hdP sq lp ≠ hdP sp lp := by
 rcases h with ⟨rfl, rfl⟩ | ⟨rfl, rfl⟩
 all_goals
  intro e
  unfold hdP at e
  injection e with e _
  exact absurd e (by decide)
theorem OxI.turn {O' : List Nat} {N' L' : Nat} {l' m' : List It} {M' : List KV} (h : OxI w xb yb s sp sq lp O N L l m) (hk : Kp O w w') (hg : Gr O w.heap.size O') (hs : StI w' s O' N' M') (h1 : OxM M' sp lp l') (h2 : OxM M' sq lp m') (h3 : longs M' = 0) (h4 : M'.length ≤ L') : OxI w' xb yb s sp sq lp O' N' L' l' m' := by
 have hnx := h.nx
 have hny := h.ny
 simp only [List.mem_cons, not_or] at hnx hny
 refine ⟨Blk.kp h.x hk hnx.2.2, Blk.kp h.y hk hny.2.2, ?_, ?_, h.sps, h.hlp, M', hs, h1, h2, h3, h4⟩
 ·simp only [List.mem_cons, not_or]
  exact ⟨hnx.1, hnx.2.1, hg.out (Blk.lt h.x) hnx.2.2⟩
 ·simp only [List.mem_cons, not_or]
  exact ⟨hny.1, hny.2.1, hg.out (Blk.lt h.y) hny.2.2⟩
theorem OxI.ok (h : OxI w xb yb s sp sq lp O N L l m) : ∀ x ∈ l, x.right ∧ x.e.ok ∧ x.e.nrm = x.e := by
 obtain ⟨M, _, h2, _⟩ := h.m
 exact h2.ok
theorem OxI.asc (h : OxI w xb yb s sp sq lp O N L l m) : AscO l := by
 obtain ⟨M, h1, h2, _⟩ := h.m
 exact h2.asc h1.asc
theorem OxI.len (h : OxI w xb yb s sp sq lp O N L l m) : l.length ≤ L := by
 obtain ⟨M, h1, h2, _, _, h5⟩ := h.m
 exact Nat.le_trans h2.len h5
end
theorem it_box (w : World) (x : It) : Blk (w.alloc (.cells #[.string (S x.c), .int .i64 x.k, .float .f64 x.e.t, .int .i64 x.e.src, .int .i64 x.e.n, .int .i64 x.e.dst, .int .i64 x.e.pay] 69)) w.heap.size 69 #[.string (S x.c), .int .i64 x.k, .float .f64 x.e.t, .int .i64 x.e.src, .int .i64 x.e.n, .int .i64 x.e.dst, .int .i64 x.e.pay] := Blk.new w _ _
set_option maxHeartbeats 4000000 in
theorem orest_any (x : It) (h : x.c.length < 9223372036854775807) (w : World) :
  Calls Tryz.prog 95 #[itV x] w fun r w' => ∃ str, r = .returned (.tuple #[.string (S str), .bool (decide x.fit)]) ∧ (x.fit → str = x.key) ∧ Below w.heap.size w w' := by
 unfold itV
 obtain ⟨W1, hW1⟩ : ∃ W1, W1 = w.alloc (.cells #[.string (S x.c), .int .i64 x.k, .float .f64 x.e.t, .int .i64 x.e.src, .int .i64 x.e.n, .int .i64 x.e.dst, .int .i64 x.e.pay] 69) := ⟨_, rfl⟩
 have hb1 : Below w.heap.size w W1 := by rw [hW1]; exact (Below.refl _ w).alloc (Nat.le_refl _) _
 have hB1 := it_box w x
 rw [← hW1] at hB1
 have m0 : W1.cell? ⟨w.heap.size, 0, none⟩ = some (.string (S x.c)) := hB1.cell 0
 have m1 : W1.cell? ⟨w.heap.size, 1, none⟩ = some (.int .i64 x.k) := hB1.cell 1
 obtain ⟨kb, hkb⟩ : ∃ kb, kb = IntKind.u8.wrap x.k := ⟨_, rfl⟩
 have hwr : IntKind.u8.wrap x.k = kb := hkb.symm
 have hkr : 0 ≤ kb ∧ kb < 256 := by rw [hkb, IntKind.wrap_u8]; omega
 have hfit : x.fit → x.c ++ oneB kb = x.key := fun hf => by
  have : kb = x.k := by rw [hkb, IntKind.wrap_u8]; have := hf.2; omega
  unfold It.key
  rw [this]
 have hcv := blk_one (l := oneB kb) (Blk.new W1 5 #[.int .u8 kb]).drew (by
  simp [bA, cB, oneB]
  omega) 1 1 rfl
 have hcat : ¬ 9223372036854775807 < x.c.length + 1 := by omega
 have hlt1 := hB1.lt
 have HMA : Hid (∀ o : Obj, (W1.alloc o).drew.cell? ⟨w.heap.size, 0, none⟩ = some (.string (S x.c)) ∧ (W1.alloc o).drew.cell? ⟨w.heap.size, 1, none⟩ = some (.int .i64 x.k)) := hid fun o => ⟨(hB1.alloc o).drew.cell 0, (hB1.alloc o).drew.cell 1⟩
 have HB := hid (fun o => (hb1.trans ((below_drewN (Below.refl W1.heap.size W1) 1).mono hb1.size)).alloc (Nat.le_of_lt hlt1) o)
 have HFI := hid hfit
 have HW1 := hid hW1
 have hcs : (¬ x.c.length = 25) ∨ (x.c.length = 25 ∧ ¬ 0 ≤ x.k) ∨ (x.c.length = 25 ∧ 0 ≤ x.k) := by omega
 clear hb1 hB1 hkb hkr hfit h hW1
 rcases hcs with h | ⟨h, h1⟩ | ⟨h, h1⟩
 case' inl =>
  have HNF : Hid (¬ x.fit) := hid fun hr => h hr.1
  rw [decide_eq_false HNF.out]
  have hi : ((x.c.length : Int) == 25) = false := by
   rw [beq_eq_false_iff_ne]
   omega
 case' inr.inl =>
  have HNF : Hid (¬ x.fit) := hid fun hr => h1 hr.2.1
  rw [decide_eq_false HNF.out]
  have hi : ((x.c.length : Int) == 25) = true := by
   rw [beq_iff_eq]
   omega
  have hd : decide (0 ≤ x.k) = false := decide_eq_false h1
  clear h1
 case' inr.inr =>
  rw [show decide x.fit = decide (x.k ≤ 255) from decide_eq_decide.2 ⟨fun hr => hr.2.2, fun hr => ⟨h, h1, hr⟩⟩]
  have hi : ((x.c.length : Int) == 25) = true := by
   rw [beq_iff_eq]
   omega
  have hd : decide (0 ≤ x.k) = true := decide_eq_true h1
  clear h1
 all_goals
  clear h
  go_enter Tryz.func95, Tryz.ntmps95
  go_wp2
  rw [← HW1.out]
 ·refine wp_region_held_drew (S := fun W => W.cell? ⟨w.heap.size, 0, none⟩ = some (.string (S x.c)) ∧ W.cell? ⟨w.heap.size, 1, none⟩ = some (.int .i64 x.k)) (by kernel_rfl) (by exact ⟨m0, m1⟩) (fun hHeld => ?_)
  refine hTk (i := 0) (oi := ?a0_0) (v := ?v0_0) (by (simp only [gEa, gEb, gEc]; try rfl)) (by kernel_rfl) ?b0_0 (Or.inl ⟨by rfl, ?c0_0⟩) hHeld ?d0_0; (case c0_0 => (intro wz hSw; (try dsimp only at hSw); go_simp; first | done | with_reducible rfl)); (case b0_0 => exact fun _ _ _ h => h); (try simp only [Act.put, sEa, sEb, sEc]); refine hTk (i := 1) (oi := ?a1_0) (v := ?v1_0) (by (simp only [gEa, gEb, gEc]; try rfl)) (by kernel_rfl) ?b1_0 (Or.inl ⟨by rfl, ?c1_0⟩) hHeld ?d1_0; (case c1_0 => (intro wz hSw; (try dsimp only at hSw); go_simp; first | done | with_reducible rfl)); (case b1_0 => exact fun _ _ _ h => h); (try simp only [Act.put, sEa, sEb, sEc]); refine hTk (i := 2) (oi := ?a2_0) (v := ?v2_0) (by (simp only [gEa, gEb, gEc]; try rfl)) (by kernel_rfl) ?b2_0 (Or.inl ⟨by rfl, ?c2_0⟩) hHeld ?d2_0; (case c2_0 => (intro wz hSw; (try dsimp only at hSw); go_simp; first | done | with_reducible rfl)); (case b2_0 => exact fun _ _ _ h => h); (try simp only [Act.put, sEa, sEb, sEc]); refine hTk (i := 3) (oi := ?a3_0) (v := ?v3_0) (by (simp only [gEa, gEb, gEc]; try rfl)) (by kernel_rfl) ?b3_0 (Or.inl ⟨by rfl, ?c3_0⟩) hHeld ?d3_0; (case c3_0 => (intro wz hSw; (try dsimp only at hSw); go_simp; first | done | with_reducible rfl)); (case b3_0 => exact fun _ _ _ h => h); (try simp only [Act.put, sEa, sEb, sEc]); refine hTk (i := 4) (oi := ?a4_0) (v := ?v4_0) (by (simp only [gEa, gEb, gEc]; try rfl)) (by kernel_rfl) ?b4_0 (Or.inl ⟨by rfl, ?c4_0⟩) hHeld ?d4_0; (case c4_0 => (intro wz hSw; (try dsimp only at hSw); go_simp; first | done | with_reducible rfl)); (case b4_0 => exact fun _ _ _ h => h); (try simp only [Act.put, sEa, sEb, sEc]); refine hTk (i := 8) (oi := ?a8_0) (v := ?v8_0) (by (simp only [gEa, gEb, gEc]; try rfl)) (by kernel_rfl) ?b8_0 (Or.inl ⟨by rfl, ?c8_0⟩) hHeld ?d8_0; (case c8_0 => (intro wz hSw; (try dsimp only at hSw); go_simp; first | done | with_reducible rfl)); (case b8_0 => exact fun _ _ _ h => h); (try simp only [Act.put, sEa, sEb, sEc]); refine hTk (i := 9) (oi := ?a9_0) (v := ?v9_0) (by (simp only [gEa, gEb, gEc]; try rfl)) (by kernel_rfl) ?b9_0 (Or.inl ⟨by rfl, ?c9_0⟩) hHeld ?d9_0; (case c9_0 => (intro wz hSw; (try dsimp only at hSw); go_simp; first | done | with_reducible rfl)); (case b9_0 => exact fun _ _ _ h => h); (try simp only [Act.put, sEa, sEb, sEc]); refine hTk (i := 10) (oi := ?a10_0) (v := ?v10_0) (by (simp only [gEa, gEb, gEc]; try rfl)) (by kernel_rfl) ?b10_0 (Or.inl ⟨by rfl, ?c10_0⟩) hHeld ?d10_0; (case c10_0 => (intro wz hSw; (try dsimp only at hSw); go_simp; first | done | with_reducible rfl)); (case b10_0 => exact fun _ _ _ h => h); (try simp only [Act.put, sEa, sEb, sEc]); refine hTk (i := 11) (oi := ?a11_0) (v := ?v11_0) (by (simp only [gEa, gEb, gEc]; try rfl)) (by kernel_rfl) ?b11_0 (Or.inl ⟨by rfl, ?c11_0⟩) hHeld ?d11_0; (case c11_0 => (intro wz hSw; (try dsimp only at hSw); go_simp; first | done | with_reducible rfl)); (case b11_0 => exact fun _ _ _ h => h); (try simp only [Act.put, sEa, sEb, sEc]); refine hTk (i := 12) (oi := ?a12_0) (v := ?v12_0) (by (simp only [gEa, gEb, gEc]; try rfl)) (by kernel_rfl) ?b12_0 (Or.inl ⟨by rfl, ?c12_0⟩) hHeld ?d12_0; (case c12_0 => (intro wz hSw; (try dsimp only at hSw); go_simp; first | done | with_reducible rfl)); (case b12_0 => exact fun _ _ _ h => h); (try simp only [Act.put, sEa, sEb, sEc]); refine hTk (i := 13) (oi := ?a13_0) (v := ?v13_0) (by (simp only [gEa, gEb, gEc]; try rfl)) (by kernel_rfl) ?b13_0 (Or.inl ⟨by kernel_rfl, ?c13_0⟩) hHeld ?d13_0; (case c13_0 => (intro wz hSw; (try dsimp only at hSw); go_simp; first | done | with_reducible rfl)); (case b13_0 => exact fun _ _ _ h => h); (try simp only [Act.put, sEa, sEb, sEc]); refine hTk (i := 14) (oi := ?a14_0) (v := ?v14_0) (by (simp only [gEa, gEb, gEc]; try rfl)) (by kernel_rfl) ?b14_0 (Or.inl ⟨by kernel_rfl, ?c14_0⟩) hHeld ?d14_0; (case c14_0 => (intro wz hSw; (try dsimp only at hSw); go_simp; first | done | with_reducible rfl)); (case b14_0 => exact fun _ _ _ h => h); (try simp only [Act.put, sEa, sEb, sEc]); refine hTk (i := 15) (oi := ?a15_0) (v := ?v15_0) (by (simp only [gEa, gEb, gEc]; try rfl)) (by kernel_rfl) ?b15_0 (Or.inl ⟨by kernel_rfl, ?c15_0⟩) hHeld ?d15_0; (case c15_0 => (intro wz hSw; (try dsimp only at hSw); go_simp; first | done | with_reducible rfl)); (case b15_0 => exact fun _ _ _ h => h); (try simp only [Act.put, sEa, sEb, sEc]); refine hTk (i := 16) (oi := ?a16_0) (v := ?v16_0) (by (simp only [gEa, gEb, gEc]; try rfl)) (by kernel_rfl) ?b16_0 (Or.inl ⟨by rfl, ?c16_0⟩) hHeld ?d16_0; (case c16_0 => (intro wz hSw; (try dsimp only at hSw); go_simp; first | done | with_reducible rfl)); (case b16_0 => exact fun _ _ _ h => h); (try simp only [Act.put, sEa, sEb, sEc]); refine hTk (i := 17) (oi := ?a17_0) (v := ?v17_0) (by (simp only [gEa, gEb, gEc]; try rfl)) (by kernel_rfl) ?b17_0 (Or.inl ⟨by rfl, ?c17_0⟩) hHeld ?d17_0; (case c17_0 => (intro wz hSw; (try dsimp only at hSw); go_simp; first | done | with_reducible rfl)); (case b17_0 => exact fun _ _ _ h => h); (try simp only [Act.put, sEa, sEb, sEc]); refine hTk (i := 18) (oi := ?a18_0) (v := ?v18_0) (by (simp only [gEa, gEb, gEc]; try rfl)) (by kernel_rfl) ?b18_0 (Or.inl ⟨by kernel_rfl, ?c18_0⟩) hHeld ?d18_0; (case c18_0 => (intro wz hSw; (try dsimp only at hSw); go_simp; first | done | with_reducible rfl)); (case b18_0 => exact fun _ _ _ h => h); (try simp only [Act.put, sEa, sEb, sEc]); refine hTk (i := 19) (oi := ?a19_0) (v := ?v19_0) (by (simp only [gEa, gEb, gEc]; try rfl)) (by kernel_rfl) ?b19_0 (Or.inl ⟨by kernel_rfl, ?c19_0⟩) hHeld ?d19_0; (case c19_0 => (intro wz hSw; (try dsimp only at hSw); go_simp; first | done | with_reducible rfl)); (case b19_0 => exact fun _ _ _ h => h); (try simp only [Act.put, sEa, sEb, sEc]); refine hTk (i := 20) (oi := ?a20_0) (v := ?v20_0) (by (simp only [gEa, gEb, gEc]; try rfl)) (by kernel_rfl) ?b20_0 (Or.inl ⟨by kernel_rfl, ?c20_0⟩) hHeld ?d20_0; (case c20_0 => (intro wz hSw; (try dsimp only at hSw); go_simp; first | done | with_reducible rfl)); (case b20_0 => exact fun _ _ _ h => h); (try simp only [Act.put, sEa, sEb, sEc]); refine hTk (i := 21) (oi := ?a21_0) (v := ?v21_0) (by (simp only [gEa, gEb, gEc]; try rfl)) (by kernel_rfl) ?b21_0 (Or.inl ⟨by rfl, ?c21_0⟩) hHeld ?d21_0; (case c21_0 => (intro wz hSw; (try dsimp only at hSw); go_simp; first | done | with_reducible rfl)); (case b21_0 => exact fun _ _ _ h => h); (try simp only [Act.put, sEa, sEb, sEc]); refine wpAnyH_ready (rs := [5]) (by kernel_rfl) (by simp) ?_; refine AllReadyH.cons (o := ?o5_0) (by (simp only [gEa, gEb, gEc]; try rfl)) (fun K hK => ?_) AllReadyH.nil; go_simp; refine hK.out _ _ (by exact HMA.out _) (fun hHeld => ?_); clear hK K; (try simp only [Act.put, sEa, sEb, sEc]); refine wpAnyH_ready (rs := [6]) (by kernel_rfl) (by simp) ?_; refine AllReadyH.cons (o := ?o6_0) (by (simp only [gEa, gEb, gEc]; try rfl)) (fun K hK => ?_) AllReadyH.nil; go_simp; refine hK.out _ _ (by exact HMA.out _) (fun hHeld => ?_); clear hK K; (try simp only [Act.put, sEa, sEb, sEc]); refine hTk (i := 7) (oi := ?a7_0) (v := ?v7_0) (by (simp only [gEa, gEb, gEc]; try rfl)) (by kernel_rfl) ?b7_0 (Or.inl ⟨by rfl, ?c7_0⟩) hHeld ?d7_0; (case c7_0 => (intro wz hSw; (try dsimp only at hSw); go_simp; first | done | with_reducible rfl)); (case b7_0 => exact fun _ _ _ h => h); (try simp only [Act.put, sEa, sEb, sEc]); refine hTk (i := 22) (oi := ?a22_0) (v := ?v22_0) (by (simp only [gEa, gEb, gEc]; try rfl)) (by kernel_rfl) ?b22_0 (Or.inl ⟨by rfl, ?c22_0⟩) hHeld ?d22_0; (case c22_0 => (intro wz hSw; (try dsimp only at hSw); go_simp; first | done | with_reducible rfl)); (case b22_0 => exact fun _ _ _ h => h); (try simp only [Act.put, sEa, sEb, sEc]); refine hTk (i := 23) (oi := ?a23_0) (v := ?v23_0) (by (simp only [gEa, gEb, gEc]; try rfl)) (by kernel_rfl) ?b23_0 (Or.inl ⟨by rfl, ?c23_0⟩) hHeld ?d23_0; (case c23_0 => (intro wz hSw; (try dsimp only at hSw); go_simp; first | done | with_reducible rfl)); (case b23_0 => exact fun _ _ _ h => h); (try simp only [Act.put, sEa, sEb, sEc])
  refine wpAnyH_done (by kernel_rfl) ?_ _
  go_wp2
  go_ret2
  exact ⟨_, rfl, HFI.out, HB.out _⟩
 ·refine wp_region_held_drew (S := fun W => W.cell? ⟨w.heap.size, 0, none⟩ = some (.string (S x.c)) ∧ W.cell? ⟨w.heap.size, 1, none⟩ = some (.int .i64 x.k)) (by kernel_rfl) (by exact ⟨m0, m1⟩) (fun hHeld => ?_)
  refine hTk (i := 0) (oi := ?a0_1) (v := ?v0_1) (by (simp only [gEa, gEb, gEc]; try rfl)) (by kernel_rfl) ?b0_1 (Or.inl ⟨by rfl, ?c0_1⟩) hHeld ?d0_1; (case c0_1 => (intro wz hSw; (try dsimp only at hSw); go_simp; first | done | with_reducible rfl)); (case b0_1 => exact fun _ _ _ h => h); (try simp only [Act.put, sEa, sEb, sEc]); refine hTk (i := 1) (oi := ?a1_1) (v := ?v1_1) (by (simp only [gEa, gEb, gEc]; try rfl)) (by kernel_rfl) ?b1_1 (Or.inl ⟨by rfl, ?c1_1⟩) hHeld ?d1_1; (case c1_1 => (intro wz hSw; (try dsimp only at hSw); go_simp; first | done | with_reducible rfl)); (case b1_1 => exact fun _ _ _ h => h); (try simp only [Act.put, sEa, sEb, sEc]); refine hTk (i := 2) (oi := ?a2_1) (v := ?v2_1) (by (simp only [gEa, gEb, gEc]; try rfl)) (by kernel_rfl) ?b2_1 (Or.inl ⟨by rfl, ?c2_1⟩) hHeld ?d2_1; (case c2_1 => (intro wz hSw; (try dsimp only at hSw); go_simp; first | done | with_reducible rfl)); (case b2_1 => exact fun _ _ _ h => h); (try simp only [Act.put, sEa, sEb, sEc]); refine hTk (i := 3) (oi := ?a3_1) (v := ?v3_1) (by (simp only [gEa, gEb, gEc]; try rfl)) (by kernel_rfl) ?b3_1 (Or.inl ⟨by rfl, ?c3_1⟩) hHeld ?d3_1; (case c3_1 => (intro wz hSw; (try dsimp only at hSw); go_simp; first | done | with_reducible rfl)); (case b3_1 => exact fun _ _ _ h => h); (try simp only [Act.put, sEa, sEb, sEc]); refine hTk (i := 4) (oi := ?a4_1) (v := ?v4_1) (by (simp only [gEa, gEb, gEc]; try rfl)) (by kernel_rfl) ?b4_1 (Or.inl ⟨by rfl, ?c4_1⟩) hHeld ?d4_1; (case c4_1 => (intro wz hSw; (try dsimp only at hSw); go_simp; first | done | with_reducible rfl)); (case b4_1 => exact fun _ _ _ h => h); (try simp only [Act.put, sEa, sEb, sEc]); refine hTk (i := 8) (oi := ?a8_1) (v := ?v8_1) (by (simp only [gEa, gEb, gEc]; try rfl)) (by kernel_rfl) ?b8_1 (Or.inl ⟨by rfl, ?c8_1⟩) hHeld ?d8_1; (case c8_1 => (intro wz hSw; (try dsimp only at hSw); go_simp; first | done | with_reducible rfl)); (case b8_1 => exact fun _ _ _ h => h); (try simp only [Act.put, sEa, sEb, sEc]); refine hTk (i := 9) (oi := ?a9_1) (v := ?v9_1) (by (simp only [gEa, gEb, gEc]; try rfl)) (by kernel_rfl) ?b9_1 (Or.inl ⟨by rfl, ?c9_1⟩) hHeld ?d9_1; (case c9_1 => (intro wz hSw; (try dsimp only at hSw); go_simp; first | done | with_reducible rfl)); (case b9_1 => exact fun _ _ _ h => h); (try simp only [Act.put, sEa, sEb, sEc]); refine hTk (i := 10) (oi := ?a10_1) (v := ?v10_1) (by (simp only [gEa, gEb, gEc]; try rfl)) (by kernel_rfl) ?b10_1 (Or.inl ⟨by rfl, ?c10_1⟩) hHeld ?d10_1; (case c10_1 => (intro wz hSw; (try dsimp only at hSw); go_simp; first | done | with_reducible rfl)); (case b10_1 => exact fun _ _ _ h => h); (try simp only [Act.put, sEa, sEb, sEc]); refine hTk (i := 11) (oi := ?a11_1) (v := ?v11_1) (by (simp only [gEa, gEb, gEc]; try rfl)) (by kernel_rfl) ?b11_1 (Or.inl ⟨by rfl, ?c11_1⟩) hHeld ?d11_1; (case c11_1 => (intro wz hSw; (try dsimp only at hSw); go_simp; first | done | with_reducible rfl)); (case b11_1 => exact fun _ _ _ h => h); (try simp only [Act.put, sEa, sEb, sEc]); refine hTk (i := 12) (oi := ?a12_1) (v := ?v12_1) (by (simp only [gEa, gEb, gEc]; try rfl)) (by kernel_rfl) ?b12_1 (Or.inl ⟨by rfl, ?c12_1⟩) hHeld ?d12_1; (case c12_1 => (intro wz hSw; (try dsimp only at hSw); go_simp; first | done | with_reducible rfl)); (case b12_1 => exact fun _ _ _ h => h); (try simp only [Act.put, sEa, sEb, sEc]); refine hTk (i := 13) (oi := ?a13_1) (v := ?v13_1) (by (simp only [gEa, gEb, gEc]; try rfl)) (by kernel_rfl) ?b13_1 (Or.inl ⟨by kernel_rfl, ?c13_1⟩) hHeld ?d13_1; (case c13_1 => (intro wz hSw; (try dsimp only at hSw); go_simp; first | done | with_reducible rfl)); (case b13_1 => exact fun _ _ _ h => h); (try simp only [Act.put, sEa, sEb, sEc]); refine hTk (i := 14) (oi := ?a14_1) (v := ?v14_1) (by (simp only [gEa, gEb, gEc]; try rfl)) (by kernel_rfl) ?b14_1 (Or.inl ⟨by kernel_rfl, ?c14_1⟩) hHeld ?d14_1; (case c14_1 => (intro wz hSw; (try dsimp only at hSw); go_simp; first | done | with_reducible rfl)); (case b14_1 => exact fun _ _ _ h => h); (try simp only [Act.put, sEa, sEb, sEc]); refine hTk (i := 15) (oi := ?a15_1) (v := ?v15_1) (by (simp only [gEa, gEb, gEc]; try rfl)) (by kernel_rfl) ?b15_1 (Or.inl ⟨by kernel_rfl, ?c15_1⟩) hHeld ?d15_1; (case c15_1 => (intro wz hSw; (try dsimp only at hSw); go_simp; first | done | with_reducible rfl)); (case b15_1 => exact fun _ _ _ h => h); (try simp only [Act.put, sEa, sEb, sEc]); refine hTk (i := 16) (oi := ?a16_1) (v := ?v16_1) (by (simp only [gEa, gEb, gEc]; try rfl)) (by kernel_rfl) ?b16_1 (Or.inl ⟨by rfl, ?c16_1⟩) hHeld ?d16_1; (case c16_1 => (intro wz hSw; (try dsimp only at hSw); go_simp; first | done | with_reducible rfl)); (case b16_1 => exact fun _ _ _ h => h); (try simp only [Act.put, sEa, sEb, sEc]); refine hTk (i := 17) (oi := ?a17_1) (v := ?v17_1) (by (simp only [gEa, gEb, gEc]; try rfl)) (by kernel_rfl) ?b17_1 (Or.inl ⟨by rfl, ?c17_1⟩) hHeld ?d17_1; (case c17_1 => (intro wz hSw; (try dsimp only at hSw); go_simp; first | done | with_reducible rfl)); (case b17_1 => exact fun _ _ _ h => h); (try simp only [Act.put, sEa, sEb, sEc]); refine hTk (i := 18) (oi := ?a18_1) (v := undef) (by (simp only [gEa, gEb, gEc]; try rfl)) (by kernel_rfl) ?b18_1 (Or.inr ⟨by kernel_rfl, rfl⟩) hHeld ?d18_1; (case b18_1 => exact fun _ _ _ h => h); (try simp only [Act.put, sEa, sEb, sEc]); refine hTk (i := 19) (oi := ?a19_1) (v := undef) (by (simp only [gEa, gEb, gEc]; try rfl)) (by kernel_rfl) ?b19_1 (Or.inr ⟨by kernel_rfl, rfl⟩) hHeld ?d19_1; (case b19_1 => exact fun _ _ _ h => h); (try simp only [Act.put, sEa, sEb, sEc]); refine hTk (i := 20) (oi := ?a20_1) (v := undef) (by (simp only [gEa, gEb, gEc]; try rfl)) (by kernel_rfl) ?b20_1 (Or.inr ⟨by kernel_rfl, rfl⟩) hHeld ?d20_1; (case b20_1 => exact fun _ _ _ h => h); (try simp only [Act.put, sEa, sEb, sEc]); refine hTk (i := 21) (oi := ?a21_1) (v := ?v21_1) (by (simp only [gEa, gEb, gEc]; try rfl)) (by kernel_rfl) ?b21_1 (Or.inl ⟨by rfl, ?c21_1⟩) hHeld ?d21_1; (case c21_1 => (intro wz hSw; (try dsimp only at hSw); go_simp; first | done | with_reducible rfl)); (case b21_1 => exact fun _ _ _ h => h); (try simp only [Act.put, sEa, sEb, sEc]); refine wpAnyH_ready (rs := [5]) (by kernel_rfl) (by simp) ?_; refine AllReadyH.cons (o := ?o5_1) (by (simp only [gEa, gEb, gEc]; try rfl)) (fun K hK => ?_) AllReadyH.nil; go_simp; refine hK.out _ _ (by exact HMA.out _) (fun hHeld => ?_); clear hK K; (try simp only [Act.put, sEa, sEb, sEc]); refine wpAnyH_ready (rs := [6]) (by kernel_rfl) (by simp) ?_; refine AllReadyH.cons (o := ?o6_1) (by (simp only [gEa, gEb, gEc]; try rfl)) (fun K hK => ?_) AllReadyH.nil; go_simp; refine hK.out _ _ (by exact HMA.out _) (fun hHeld => ?_); clear hK K; (try simp only [Act.put, sEa, sEb, sEc]); refine hTk (i := 7) (oi := ?a7_1) (v := ?v7_1) (by (simp only [gEa, gEb, gEc]; try rfl)) (by kernel_rfl) ?b7_1 (Or.inl ⟨by rfl, ?c7_1⟩) hHeld ?d7_1; (case c7_1 => (intro wz hSw; (try dsimp only at hSw); go_simp; first | done | with_reducible rfl)); (case b7_1 => exact fun _ _ _ h => h); (try simp only [Act.put, sEa, sEb, sEc]); refine hTk (i := 22) (oi := ?a22_1) (v := ?v22_1) (by (simp only [gEa, gEb, gEc]; try rfl)) (by kernel_rfl) ?b22_1 (Or.inl ⟨by rfl, ?c22_1⟩) hHeld ?d22_1; (case c22_1 => (intro wz hSw; (try dsimp only at hSw); go_simp; first | done | with_reducible rfl)); (case b22_1 => exact fun _ _ _ h => h); (try simp only [Act.put, sEa, sEb, sEc]); refine hTk (i := 23) (oi := ?a23_1) (v := ?v23_1) (by (simp only [gEa, gEb, gEc]; try rfl)) (by kernel_rfl) ?b23_1 (Or.inl ⟨by rfl, ?c23_1⟩) hHeld ?d23_1; (case c23_1 => (intro wz hSw; (try dsimp only at hSw); go_simp; first | done | with_reducible rfl)); (case b23_1 => exact fun _ _ _ h => h); (try simp only [Act.put, sEa, sEb, sEc])
  refine wpAnyH_done (by kernel_rfl) ?_ _
  go_wp2
  go_ret2
  exact ⟨_, rfl, fun hf => absurd hf HNF.out, HB.out _⟩
 ·refine wp_region_held_drew (S := fun W => W.cell? ⟨w.heap.size, 0, none⟩ = some (.string (S x.c)) ∧ W.cell? ⟨w.heap.size, 1, none⟩ = some (.int .i64 x.k)) (by kernel_rfl) (by exact ⟨m0, m1⟩) (fun hHeld => ?_)
  refine hTk (i := 0) (oi := ?a0_2) (v := ?v0_2) (by (simp only [gEa, gEb, gEc]; try rfl)) (by kernel_rfl) ?b0_2 (Or.inl ⟨by rfl, ?c0_2⟩) hHeld ?d0_2; (case c0_2 => (intro wz hSw; (try dsimp only at hSw); go_simp; first | done | with_reducible rfl)); (case b0_2 => exact fun _ _ _ h => h); (try simp only [Act.put, sEa, sEb, sEc]); refine hTk (i := 1) (oi := ?a1_2) (v := ?v1_2) (by (simp only [gEa, gEb, gEc]; try rfl)) (by kernel_rfl) ?b1_2 (Or.inl ⟨by rfl, ?c1_2⟩) hHeld ?d1_2; (case c1_2 => (intro wz hSw; (try dsimp only at hSw); go_simp; first | done | with_reducible rfl)); (case b1_2 => exact fun _ _ _ h => h); (try simp only [Act.put, sEa, sEb, sEc]); refine hTk (i := 2) (oi := ?a2_2) (v := ?v2_2) (by (simp only [gEa, gEb, gEc]; try rfl)) (by kernel_rfl) ?b2_2 (Or.inl ⟨by rfl, ?c2_2⟩) hHeld ?d2_2; (case c2_2 => (intro wz hSw; (try dsimp only at hSw); go_simp; first | done | with_reducible rfl)); (case b2_2 => exact fun _ _ _ h => h); (try simp only [Act.put, sEa, sEb, sEc]); refine hTk (i := 3) (oi := ?a3_2) (v := ?v3_2) (by (simp only [gEa, gEb, gEc]; try rfl)) (by kernel_rfl) ?b3_2 (Or.inl ⟨by rfl, ?c3_2⟩) hHeld ?d3_2; (case c3_2 => (intro wz hSw; (try dsimp only at hSw); go_simp; first | done | with_reducible rfl)); (case b3_2 => exact fun _ _ _ h => h); (try simp only [Act.put, sEa, sEb, sEc]); refine hTk (i := 4) (oi := ?a4_2) (v := ?v4_2) (by (simp only [gEa, gEb, gEc]; try rfl)) (by kernel_rfl) ?b4_2 (Or.inl ⟨by rfl, ?c4_2⟩) hHeld ?d4_2; (case c4_2 => (intro wz hSw; (try dsimp only at hSw); go_simp; first | done | with_reducible rfl)); (case b4_2 => exact fun _ _ _ h => h); (try simp only [Act.put, sEa, sEb, sEc]); refine hTk (i := 8) (oi := ?a8_2) (v := ?v8_2) (by (simp only [gEa, gEb, gEc]; try rfl)) (by kernel_rfl) ?b8_2 (Or.inl ⟨by rfl, ?c8_2⟩) hHeld ?d8_2; (case c8_2 => (intro wz hSw; (try dsimp only at hSw); go_simp; first | done | with_reducible rfl)); (case b8_2 => exact fun _ _ _ h => h); (try simp only [Act.put, sEa, sEb, sEc]); refine hTk (i := 9) (oi := ?a9_2) (v := ?v9_2) (by (simp only [gEa, gEb, gEc]; try rfl)) (by kernel_rfl) ?b9_2 (Or.inl ⟨by rfl, ?c9_2⟩) hHeld ?d9_2; (case c9_2 => (intro wz hSw; (try dsimp only at hSw); go_simp; first | done | with_reducible rfl)); (case b9_2 => exact fun _ _ _ h => h); (try simp only [Act.put, sEa, sEb, sEc]); refine hTk (i := 10) (oi := ?a10_2) (v := ?v10_2) (by (simp only [gEa, gEb, gEc]; try rfl)) (by kernel_rfl) ?b10_2 (Or.inl ⟨by rfl, ?c10_2⟩) hHeld ?d10_2; (case c10_2 => (intro wz hSw; (try dsimp only at hSw); go_simp; first | done | with_reducible rfl)); (case b10_2 => exact fun _ _ _ h => h); (try simp only [Act.put, sEa, sEb, sEc]); refine hTk (i := 11) (oi := ?a11_2) (v := ?v11_2) (by (simp only [gEa, gEb, gEc]; try rfl)) (by kernel_rfl) ?b11_2 (Or.inl ⟨by rfl, ?c11_2⟩) hHeld ?d11_2; (case c11_2 => (intro wz hSw; (try dsimp only at hSw); go_simp; first | done | with_reducible rfl)); (case b11_2 => exact fun _ _ _ h => h); (try simp only [Act.put, sEa, sEb, sEc]); refine hTk (i := 12) (oi := ?a12_2) (v := ?v12_2) (by (simp only [gEa, gEb, gEc]; try rfl)) (by kernel_rfl) ?b12_2 (Or.inl ⟨by rfl, ?c12_2⟩) hHeld ?d12_2; (case c12_2 => (intro wz hSw; (try dsimp only at hSw); go_simp; first | done | with_reducible rfl)); (case b12_2 => exact fun _ _ _ h => h); (try simp only [Act.put, sEa, sEb, sEc]); refine hTk (i := 13) (oi := ?a13_2) (v := undef) (by (simp only [gEa, gEb, gEc]; try rfl)) (by kernel_rfl) ?b13_2 (Or.inr ⟨by kernel_rfl, rfl⟩) hHeld ?d13_2; (case b13_2 => exact fun _ _ _ h => h); (try simp only [Act.put, sEa, sEb, sEc]); refine hTk (i := 14) (oi := ?a14_2) (v := undef) (by (simp only [gEa, gEb, gEc]; try rfl)) (by kernel_rfl) ?b14_2 (Or.inr ⟨by kernel_rfl, rfl⟩) hHeld ?d14_2; (case b14_2 => exact fun _ _ _ h => h); (try simp only [Act.put, sEa, sEb, sEc]); refine hTk (i := 15) (oi := ?a15_2) (v := undef) (by (simp only [gEa, gEb, gEc]; try rfl)) (by kernel_rfl) ?b15_2 (Or.inr ⟨by kernel_rfl, rfl⟩) hHeld ?d15_2; (case b15_2 => exact fun _ _ _ h => h); (try simp only [Act.put, sEa, sEb, sEc]); refine hTk (i := 16) (oi := ?a16_2) (v := ?v16_2) (by (simp only [gEa, gEb, gEc]; try rfl)) (by kernel_rfl) ?b16_2 (Or.inl ⟨by rfl, ?c16_2⟩) hHeld ?d16_2; (case c16_2 => (intro wz hSw; (try dsimp only at hSw); go_simp; first | done | with_reducible rfl)); (case b16_2 => exact fun _ _ _ h => h); (try simp only [Act.put, sEa, sEb, sEc]); refine hTk (i := 17) (oi := ?a17_2) (v := ?v17_2) (by (simp only [gEa, gEb, gEc]; try rfl)) (by kernel_rfl) ?b17_2 (Or.inl ⟨by rfl, ?c17_2⟩) hHeld ?d17_2; (case c17_2 => (intro wz hSw; (try dsimp only at hSw); go_simp; first | done | with_reducible rfl)); (case b17_2 => exact fun _ _ _ h => h); (try simp only [Act.put, sEa, sEb, sEc]); refine hTk (i := 18) (oi := ?a18_2) (v := undef) (by (simp only [gEa, gEb, gEc]; try rfl)) (by kernel_rfl) ?b18_2 (Or.inr ⟨by kernel_rfl, rfl⟩) hHeld ?d18_2; (case b18_2 => exact fun _ _ _ h => h); (try simp only [Act.put, sEa, sEb, sEc]); refine hTk (i := 19) (oi := ?a19_2) (v := undef) (by (simp only [gEa, gEb, gEc]; try rfl)) (by kernel_rfl) ?b19_2 (Or.inr ⟨by kernel_rfl, rfl⟩) hHeld ?d19_2; (case b19_2 => exact fun _ _ _ h => h); (try simp only [Act.put, sEa, sEb, sEc]); refine hTk (i := 20) (oi := ?a20_2) (v := undef) (by (simp only [gEa, gEb, gEc]; try rfl)) (by kernel_rfl) ?b20_2 (Or.inr ⟨by kernel_rfl, rfl⟩) hHeld ?d20_2; (case b20_2 => exact fun _ _ _ h => h); (try simp only [Act.put, sEa, sEb, sEc]); refine hTk (i := 21) (oi := ?a21_2) (v := ?v21_2) (by (simp only [gEa, gEb, gEc]; try rfl)) (by kernel_rfl) ?b21_2 (Or.inl ⟨by rfl, ?c21_2⟩) hHeld ?d21_2; (case c21_2 => (intro wz hSw; (try dsimp only at hSw); go_simp; first | done | with_reducible rfl)); (case b21_2 => exact fun _ _ _ h => h); (try simp only [Act.put, sEa, sEb, sEc]); refine wpAnyH_ready (rs := [5]) (by kernel_rfl) (by simp) ?_; refine AllReadyH.cons (o := ?o5_2) (by (simp only [gEa, gEb, gEc]; try rfl)) (fun K hK => ?_) AllReadyH.nil; go_simp; refine hK.out _ _ (by exact HMA.out _) (fun hHeld => ?_); clear hK K; (try simp only [Act.put, sEa, sEb, sEc]); refine wpAnyH_ready (rs := [6]) (by kernel_rfl) (by simp) ?_; refine AllReadyH.cons (o := ?o6_2) (by (simp only [gEa, gEb, gEc]; try rfl)) (fun K hK => ?_) AllReadyH.nil; go_simp; refine hK.out _ _ (by exact HMA.out _) (fun hHeld => ?_); clear hK K; (try simp only [Act.put, sEa, sEb, sEc]); refine hTk (i := 7) (oi := ?a7_2) (v := ?v7_2) (by (simp only [gEa, gEb, gEc]; try rfl)) (by kernel_rfl) ?b7_2 (Or.inl ⟨by rfl, ?c7_2⟩) hHeld ?d7_2; (case c7_2 => (intro wz hSw; (try dsimp only at hSw); go_simp; first | done | with_reducible rfl)); (case b7_2 => exact fun _ _ _ h => h); (try simp only [Act.put, sEa, sEb, sEc]); refine hTk (i := 22) (oi := ?a22_2) (v := ?v22_2) (by (simp only [gEa, gEb, gEc]; try rfl)) (by kernel_rfl) ?b22_2 (Or.inl ⟨by rfl, ?c22_2⟩) hHeld ?d22_2; (case c22_2 => (intro wz hSw; (try dsimp only at hSw); go_simp; first | done | with_reducible rfl)); (case b22_2 => exact fun _ _ _ h => h); (try simp only [Act.put, sEa, sEb, sEc]); refine hTk (i := 23) (oi := ?a23_2) (v := ?v23_2) (by (simp only [gEa, gEb, gEc]; try rfl)) (by kernel_rfl) ?b23_2 (Or.inl ⟨by rfl, ?c23_2⟩) hHeld ?d23_2; (case c23_2 => (intro wz hSw; (try dsimp only at hSw); go_simp; first | done | with_reducible rfl)); (case b23_2 => exact fun _ _ _ h => h); (try simp only [Act.put, sEa, sEb, sEc])
  refine wpAnyH_done (by kernel_rfl) ?_ _
  go_wp2
  go_ret2
  exact ⟨_, rfl, fun hf => absurd hf HNF.out, HB.out _⟩
theorem orest_fit (x : It) (h : x.fit) (w : World) :
  Calls Tryz.prog 95 #[itV x] w fun r w' => r = .returned (.tuple #[.string (S x.key), .bool true]) ∧ Below w.heap.size w w' := by
 refine (orest_any x (by have := h.1; omega) w).mono ?_
 rintro r w' ⟨str, rfl, h1, h2⟩
 rw [h1 h, decide_eq_true h]
 exact ⟨rfl, h2⟩
theorem orest_not (x : It) (hl : x.c.length < 9223372036854775807) (h : ¬ x.fit) (w : World) :
  Calls Tryz.prog 95 #[itV x] w fun r w' => ∃ str, r = .returned (.tuple #[.string (S str), .bool false]) ∧ Below w.heap.size w w' := by
 refine (orest_any x hl w).mono ?_
 rintro r w' ⟨str, rfl, h1, h2⟩
 rw [decide_eq_false h]
 exact ⟨str, rfl, h2⟩
set_option maxHeartbeats 4000000 in
theorem oput_no (q : Addr) (x : It) (hl : x.c.length < 9223372036854775807) (ho : x.e.ok) (h : ¬ x.right) (w : World) :
  Calls Tryz.prog 34 #[.pointer (some q), itV x] w fun e w' => e = .returned (.int .i64 2) ∧ Below w.heap.size w w' := by
 have HB := hid ((Below.refl _ w).alloc (Nat.le_refl _) (.cells #[.string (S x.c), .int .i64 x.k, .float .f64 x.e.t, .int .i64 x.e.src, .int .i64 x.e.n, .int .i64 x.e.dst, .int .i64 x.e.pay] 69))
 have HX := hid (it_box w x)
 have HC : Hid (∀ W, Below (w.heap.size + 1) (w.alloc (.cells #[.string (S x.c), .int .i64 x.k, .float .f64 x.e.t, .int .i64 x.e.src, .int .i64 x.e.n, .int .i64 x.e.dst, .int .i64 x.e.pay] 69)) W → W.cell? ⟨w.heap.size, 2, none⟩ = some (.float .f64 x.e.t) ∧ W.cell? ⟨w.heap.size, 3, none⟩ = some (.int .i64 x.e.src) ∧ W.cell? ⟨w.heap.size, 4, none⟩ = some (.int .i64 x.e.n) ∧ W.cell? ⟨w.heap.size, 5, none⟩ = some (.int .i64 x.e.dst) ∧ W.cell? ⟨w.heap.size, 6, none⟩ = some (.int .i64 x.e.pay)) := hid fun W hb => by
  have h1 := HX.out.below hb (Nat.lt_succ_self _)
  exact ⟨h1.cell 2, h1.cell 3, h1.cell 4, h1.cell 5, h1.cell 6⟩
 by_cases hf : x.fit
 ·have hr : ¬ x.e.right := fun hr => h ⟨hf, hr⟩
  have HR := hid (fun W => orest_fit x hf W)
  have HP := hid (fun W => putev_no x.e hr W)
  unfold itV at HR ⊢
  unfold evV at HP
  clear h hf hr hl ho
  go_enter Tryz.func34, Tryz.ntmps34
  go_wp2_with fail
  (with_reducible refine (HR.out _).mono ?_)
  rintro r W1 ⟨rfl, hb1⟩
  obtain ⟨m2, m3, m4, m5, m6⟩ := HC.out W1 (by simpa using hb1)
  have HF1 := hid (HB.out.trans (hb1.mono (by simp)))
  clear hb1
  go_wp2_with fail
  (with_reducible refine (HP.out _).mono ?_)
  rintro r W2 ⟨rfl, hb2⟩
  have HF := hid (HF1.out.trans (hb2.mono HF1.out.size))
  clear hb2 m2 m3 m4 m5 m6
  go_wp2
  go_ret
  exact ⟨rfl, HF.out⟩
 ·have HR := hid (fun W => orest_not x hl hf W)
  have HP : Hid (∀ W, Calls Tryz.prog 96 #[evV x.e] W fun r w' => ∃ str er, r = .returned (.tuple #[.string str, .int .i64 er]) ∧ Below W.heap.size W w') := hid fun W => by
   by_cases hr : x.e.right
   ·refine (putev_any x.e hr ho W).mono ?_
    rintro r w' ⟨rfl, hb⟩
    exact ⟨_, _, rfl, hb⟩
   ·refine (putev_no x.e hr W).mono ?_
    rintro r w' ⟨rfl, hb⟩
    exact ⟨_, _, rfl, hb⟩
  unfold itV at HR ⊢
  unfold evV at HP
  clear h hf hl ho
  go_enter Tryz.func34, Tryz.ntmps34
  go_wp2_with fail
  (with_reducible refine (HR.out _).mono ?_)
  rintro r W1 ⟨str, rfl, hb1⟩
  obtain ⟨m2, m3, m4, m5, m6⟩ := HC.out W1 (by simpa using hb1)
  have HF1 := hid (HB.out.trans (hb1.mono (by simp)))
  clear hb1
  go_wp2_with fail
  (with_reducible refine (HP.out _).mono ?_)
  rintro r W2 ⟨s2, er, rfl, hb2⟩
  have HF := hid (HF1.out.trans (hb2.mono HF1.out.size))
  clear hb2 m2 m3 m4 m5 m6
  go_wp2
  go_ret
  exact ⟨rfl, HF.out⟩
theorem odel_no (q : Addr) (x : It) (hl : x.c.length < 9223372036854775807) (hf : ¬ x.fit) (w : World) :
  Calls Tryz.prog 46 #[.pointer (some q), itV x] w fun e w' => e = .returned (.int .i64 2) ∧ Below w.heap.size w w' := by
 have HB := hid ((Below.refl _ w).alloc (Nat.le_refl _) (.cells #[.string (S x.c), .int .i64 x.k, .float .f64 x.e.t, .int .i64 x.e.src, .int .i64 x.e.n, .int .i64 x.e.dst, .int .i64 x.e.pay] 69))
 have HR := hid (fun W => orest_not x hl hf W)
 unfold itV at HR ⊢
 clear hf hl
 go_enter Tryz.func46, Tryz.ntmps46
 go_wp2_with fail
 (with_reducible refine (HR.out _).mono ?_)
 rintro r W1 ⟨str, rfl, hb1⟩
 have HF := hid (HB.out.trans (hb1.mono (by simp)))
 clear hb1
 go_wp2
 go_ret
 exact ⟨rfl, HF.out⟩
section
variable {w w' : World} {xb yb : Nat} {s : SL} {sp sq lp : Int} {O : List Nat} {N L : Nat} {l m : List It}
def roomO (N L : Nat) : Prop := N ≤ 100 ∨ (L ≤ 28 ∧ N ≤ 245)
set_option maxHeartbeats 8000000 in
theorem oput_any (h : OxI w xb yb s sp sq lp O N L l m) (x : It) (hr : x.right) (ho : x.e.ok) (hN : roomO N L) :
  Calls Tryz.prog 34 #[.pointer (some ⟨xb, 0, none⟩), itV x] w fun e w' => ∃ O', e = .returned (.int .i64 0) ∧ OxI w' xb yb s sp sq lp O' (N + 1) (L + 1) (setO l x.nrm) m ∧ Kp O w w' ∧ Gr O w.heap.size O' := by
 have HB := hid ((Below.refl _ w).alloc (Nat.le_refl _) (.cells #[.string (S x.c), .int .i64 x.k, .float .f64 x.e.t, .int .i64 x.e.src, .int .i64 x.e.n, .int .i64 x.e.dst, .int .i64 x.e.pay] 69))
 have HX := hid (it_box w x)
 have HC : Hid (∀ W, Below (w.heap.size + 1) (w.alloc (.cells #[.string (S x.c), .int .i64 x.k, .float .f64 x.e.t, .int .i64 x.e.src, .int .i64 x.e.n, .int .i64 x.e.dst, .int .i64 x.e.pay] 69)) W → W.cell? ⟨w.heap.size, 2, none⟩ = some (.float .f64 x.e.t) ∧ W.cell? ⟨w.heap.size, 3, none⟩ = some (.int .i64 x.e.src) ∧ W.cell? ⟨w.heap.size, 4, none⟩ = some (.int .i64 x.e.n) ∧ W.cell? ⟨w.heap.size, 5, none⟩ = some (.int .i64 x.e.dst) ∧ W.cell? ⟨w.heap.size, 6, none⟩ = some (.int .i64 x.e.pay)) := hid fun W hb => by
  have h1 := HX.out.below hb (Nat.lt_succ_self _)
  exact ⟨h1.cell 2, h1.cell 3, h1.cell 4, h1.cell 5, h1.cell 6⟩
 have HR := hid (fun W => orest_fit x hr.1 W)
 have HP := hid (fun W => putev_any x.e hr.2 ho W)
 obtain ⟨M, h1, h2, h3, h4, h5⟩ := h.m
 have hkl := It.key_len hr.1
 have HSET : Hid (∀ W, Below w.heap.size w W → Calls Tryz.prog 80 #[.pointer (some ⟨s.sb, 0, none⟩), .int .i64 sp, .int .i64 lp, .string (S x.key), .string (S (evB x.e))] W fun e w' => ∃ O', e = .returned (.int .i64 0) ∧ StI w' s O' (N + 1) (setM M (hdP sp lp ++ x.key) (evB x.e)) ∧ Kp O W w' ∧ Gr O W.heap.size O') := hid fun W hW =>
  sset_any (h1.below hW) h.okp (by omega) (by simp) (by
   unfold Roomy
   unfold roomO at hN
   omega)
 have HFIN : Hid (∀ W' O', StI W' s O' (N + 1) (setM M (hdP sp lp ++ x.key) (evB x.e)) → Kp O w W' → Gr O w.heap.size O' → OxI W' xb yb s sp sq lp O' (N + 1) (L + 1) (setO l x.nrm) m) := hid fun W' O' hs hk hg => by
  have hl := longs_set h1.asc (hdP sp lp ++ x.key) (evB x.e)
  rw [h4, evB_length] at hl
  have hll := setM_length_le h1.asc (hdP sp lp ++ x.key) (evB x.e)
  exact h.turn hk hg hs (h2.set h1.asc hr ho) (h3.set_other h1.asc (hdO_ne h.sps lp) _ _) (by simpa using hl) (by omega)
 have HI := hid h
 unfold itV at HR ⊢
 unfold evV at HP
 clear h hr ho hN h1 h2 h3 h4 h5 hkl
 go_enter Tryz.func34, Tryz.ntmps34
 go_wp2_with fail
 (with_reducible refine (HR.out _).mono ?_)
 rintro r W1 ⟨rfl, hb1⟩
 obtain ⟨m2, m3, m4, m5, m6⟩ := HC.out W1 (by simpa using hb1)
 have HF1 := hid (HB.out.trans (hb1.mono (by simp)))
 clear hb1
 go_wp2_with fail
 (with_reducible refine (HP.out _).mono ?_)
 rintro r W2 ⟨rfl, hb2⟩
 have hb02 := HF1.out.trans (hb2.mono HF1.out.size)
 have hX2 : OxX W2 xb s sp lp := (HI.out.below hb02).x
 have c0 : W2.cell? ⟨xb, 0, none⟩ = some (.pointer (some ⟨s.sb, 0, none⟩)) := Blk.cell hX2 0
 have c1 : W2.cell? ⟨xb, 1, none⟩ = some (.int .i64 sp) := Blk.cell hX2 1
 have c2 : W2.cell? ⟨xb, 2, none⟩ = some (.int .i64 lp) := Blk.cell hX2 2
 have HS2 := hid (HSET.out W2.drew (below_drewN hb02 1))
 have HX2 := hid hb02
 have HCK : Hid (∀ W', Kp O W2.drew W' → W'.cell? ⟨xb, 0, none⟩ = some (.pointer (some ⟨s.sb, 0, none⟩)) ∧ W'.cell? ⟨xb, 1, none⟩ = some (.int .i64 sp) ∧ W'.cell? ⟨xb, 2, none⟩ = some (.int .i64 lp)) := hid fun W' hk => by
  have := (Blk.drew hX2).kp hk HI.out.nxO
  exact ⟨this.cell 0, this.cell 1, this.cell 2⟩
 clear hb2 hb02 hX2 m2 m3 m4 m5 m6
 go_wp2
 go_region_held3 (fun W => W.cell? ⟨xb, 0, none⟩ = some (.pointer (some ⟨s.sb, 0, none⟩)) ∧ W.cell? ⟨xb, 1, none⟩ = some (.int .i64 sp) ∧ W.cell? ⟨xb, 2, none⟩ = some (.int .i64 lp)) (first | exact hck5 | exact ⟨c0, c1, c2⟩)
  (first
   | (go_at_call 80; refine HS2.out.mono ?_; rintro r W5 ⟨O5, rfl, hS5, hk5, hg5⟩; have hck5 := HCK.out W5 hk5))
 all_goals
  have hk05 : Kp O w W5 := (Kp.of_below HX2.out).trans ((Kp.refl O W2).drew.trans hk5)
  have hg05 := hg5.mono HX2.out.size
  have HF := hid (⟨HFIN.out W5 O5 hS5 hk05 hg05, hk05, hg05⟩ : _ ∧ _ ∧ _)
  clear hS5 hk5 hg5 hck5 hk05 hg05
  go_wp2
  go_ret
  exact ⟨O5, rfl, HF.out⟩
set_option maxHeartbeats 8000000 in
theorem odel_any (h : OxI w xb yb s sp sq lp O N L l m) (x : It) (hr : x.fit) :
  Calls Tryz.prog 46 #[.pointer (some ⟨xb, 0, none⟩), itV x] w fun e w' => ∃ er, e = .returned (.int .i64 er) ∧ ((er = 0 ∧ (∃ y ∈ l, y.key = x.key) ∧ OxI w' xb yb s sp sq lp O N (L - 1) (delO l x.key) m) ∨ (er = 9 ∧ (¬ ∃ y ∈ l, y.key = x.key) ∧ OxI w' xb yb s sp sq lp O N L (delO l x.key) m)) ∧ Kp O w w' := by
 have HB := hid ((Below.refl _ w).alloc (Nat.le_refl _) (.cells #[.string (S x.c), .int .i64 x.k, .float .f64 x.e.t, .int .i64 x.e.src, .int .i64 x.e.n, .int .i64 x.e.dst, .int .i64 x.e.pay] 69))
 have HR := hid (fun W => orest_fit x hr W)
 obtain ⟨M, h1, h2, h3, h4, h5⟩ := h.m
 have hkl := It.key_len hr
 obtain ⟨ge, hge, hcs⟩ : ∃ ge, delR (getM M (hdP sp lp ++ x.key)) = .int .i64 ge ∧ ((ge = 0 ∧ ∃ v, getM M (hdP sp lp ++ x.key) = some v) ∨ (ge = 9 ∧ getM M (hdP sp lp ++ x.key) = none)) := by
  cases e : getM M (hdP sp lp ++ x.key) with
  | none => exact ⟨_, rfl, .inr ⟨rfl, rfl⟩⟩
  | some v => exact ⟨_, rfl, .inl ⟨rfl, v, rfl⟩⟩
 have HDEL : Hid (∀ W, Below w.heap.size w W → Calls Tryz.prog 105 #[.pointer (some ⟨s.sb, 0, none⟩), .int .i64 sp, .int .i64 lp, .string (S x.key)] W fun e w' => e = .returned (.int .i64 ge) ∧ StI w' s O N (delM M (hdP sp lp ++ x.key)) ∧ Kp O W w') := hid fun W hW => by
  have := sdel_any (h1.below hW) h.okp (k := x.key) (by omega)
  rw [hge] at this
  exact this
 have HFIN : Hid (∀ W', StI W' s O N (delM M (hdP sp lp ++ x.key)) → Kp O w W' → (ge = 0 ∧ (∃ y ∈ l, y.key = x.key) ∧ OxI W' xb yb s sp sq lp O N (L - 1) (delO l x.key) m) ∨ (ge = 9 ∧ (¬ ∃ y ∈ l, y.key = x.key) ∧ OxI W' xb yb s sp sq lp O N L (delO l x.key) m)) := hid fun W' hs hk => by
  have hlo : longs (delM M (hdP sp lp ++ x.key)) = 0 := by
   have := longs_sub (delM_sub M (hdP sp lp ++ x.key)); omega
  rcases hcs with ⟨e, v, hv⟩ | ⟨e, hv⟩
  ·have hlen := delM_length h1.asc hv
   exact .inl ⟨e, (h2.has h1.asc _).1 ⟨v, hv⟩, h.turn hk (Gr.refl _ _) hs (h2.del _) (h3.del_other (hdO_ne h.sps lp) _) hlo (by omega)⟩
  ·refine .inr ⟨e, fun hx => ?_, h.turn hk (Gr.refl _ _) hs (h2.del _) (h3.del_other (hdO_ne h.sps lp) _) hlo ?_⟩
   ·obtain ⟨v, hv2⟩ := (h2.has h1.asc _).2 hx
    rw [hv] at hv2
    exact absurd hv2 (by simp)
   ·rw [delM_none hv]; exact h5
 have HI := hid h
 unfold itV at HR ⊢
 clear h hr h1 h2 h3 h4 h5 hkl hge hcs
 go_enter Tryz.func46, Tryz.ntmps46
 go_wp2_with fail
 (with_reducible refine (HR.out _).mono ?_)
 rintro r W2 ⟨rfl, hb2⟩
 have hb02 := HB.out.trans (hb2.mono (by simp))
 have hX2 : OxX W2 xb s sp lp := (HI.out.below hb02).x
 have c0 : W2.cell? ⟨xb, 0, none⟩ = some (.pointer (some ⟨s.sb, 0, none⟩)) := Blk.cell hX2 0
 have c1 : W2.cell? ⟨xb, 1, none⟩ = some (.int .i64 sp) := Blk.cell hX2 1
 have c2 : W2.cell? ⟨xb, 2, none⟩ = some (.int .i64 lp) := Blk.cell hX2 2
 have HS2 := hid (HDEL.out W2.drew (below_drewN hb02 1))
 have HX2 := hid hb02
 have HCK : Hid (∀ W', Kp O W2.drew W' → W'.cell? ⟨xb, 0, none⟩ = some (.pointer (some ⟨s.sb, 0, none⟩)) ∧ W'.cell? ⟨xb, 1, none⟩ = some (.int .i64 sp) ∧ W'.cell? ⟨xb, 2, none⟩ = some (.int .i64 lp)) := hid fun W' hk => by
  have := (Blk.drew hX2).kp hk HI.out.nxO
  exact ⟨this.cell 0, this.cell 1, this.cell 2⟩
 clear hb2 hb02 hX2
 go_wp2
 go_region_held3 (fun W => W.cell? ⟨xb, 0, none⟩ = some (.pointer (some ⟨s.sb, 0, none⟩)) ∧ W.cell? ⟨xb, 1, none⟩ = some (.int .i64 sp) ∧ W.cell? ⟨xb, 2, none⟩ = some (.int .i64 lp)) (first | exact hck5 | exact ⟨c0, c1, c2⟩)
  (first
   | (go_at_call 105; refine HS2.out.mono ?_; rintro r W5 ⟨rfl, hS5, hk5⟩; have hck5 := HCK.out W5 hk5))
 all_goals
  have hk05 : Kp O w W5 := (Kp.of_below HX2.out).trans ((Kp.refl O W2).drew.trans hk5)
  have HF := hid (⟨HFIN.out W5 hS5 hk05, hk05⟩ : _ ∧ _)
  clear hS5 hk5 hck5 hk05
  go_wp2
  go_ret
  exact ⟨ge, rfl, HF.out⟩
end
end
end Go.Proofs.YtnnghcooidjlhaaGreat
