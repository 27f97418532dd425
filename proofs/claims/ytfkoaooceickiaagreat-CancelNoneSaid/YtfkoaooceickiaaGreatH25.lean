/- Parts of the proof: Lmb Lmd. -/
import Derived.Test.YtfkoaooceickiaaGreatH04
import Derived.Test.YtfkoaooceickiaaGreatH17
import Derived.Test.YtfkoaooceickiaaGreatH18
import Derived.Test.YtfkoaooceickiaaGreatH24
set_option linter.all false
set_option maxRecDepth 100000
namespace Go.Proofs.YtfkoaooceickiaaGreat
section
open Go.RowKit Go.Lib
theorem obof (p : Addr) (lp : Int) (h : 0 ≤ lp ∧ lp < 6) (d : Bool) (w : World) : Calls Tryz.prog 88 #[.pointer (some p), .int .i64 lp, .bool d] w fun e w' => (∃ q, e = .returned (.tuple #[.pointer (some q), .int .i64 0])) ∧ Below w.heap.size w w' := by
 have h1 : ¬ lp < 0 := by omega
 have h2 : ¬ (6 : Int) ≤ lp := by omega
 clear h
 cases d
 all_goals
  go_enter Tryz.func88, Tryz.ntmps88
  go_wp2
  go_ret2
  exact ⟨⟨_, rfl⟩, (Below.refl _ w).alloc (Nat.le_refl _) _⟩
theorem flof (p : Addr) (w : World) : Calls Tryz.prog 89 #[.pointer (some p)] w fun e w' => (∃ q, e = .returned (.tuple #[.pointer (some q), .int .i64 0])) ∧ Below w.heap.size w w' := by
 go_enter Tryz.func89, Tryz.ntmps89
 go_wp2
 go_ret2
 exact ⟨⟨_, rfl⟩, (Below.refl _ w).alloc (Nat.le_refl _) _⟩
theorem caof_nil (x : MdV) (n : Int) (w : World) : Calls Tryz.prog 24 #[.pointer none, .agg (mdC x).toArray, .int .i64 n] w fun e w' => e = .returned (.tuple #[.pointer none, .int .i64 1]) ∧ Below w.heap.size w w' := by
 have H := hid (fun w1 => lpof_nil x n w1)
 unfold mdC at H ⊢
 go_enter Tryz.func24, Tryz.ntmps24
 go_wp2_with (go_at_call 13; with_reducible refine (H.out _).mono ?_; rintro e W2 ⟨rfl, hb⟩)
 try go_ret2
 exact ⟨rfl, ((Below.refl _ w).alloc (Nat.le_refl _) _).trans (hb.mono (by simp))⟩
theorem cdel_nil (l : Bool) (w : World) : Calls Tryz.prog 21 #[.pointer none, .agg #[.float .f64 0, .int .i64 0, .int .i64 0, .int .i64 0, .int .i64 0, .bool false], .bool l] w fun e w' => e = .returned (.tuple #[.bool false, .int .i64 1]) ∧ Below w.heap.size w w' := by
 go_enter Tryz.func21, Tryz.ntmps21
 go_wp2
 try go_ret2
 exact ⟨rfl, (Below.refl _ w).alloc (Nat.le_refl _) _⟩
theorem cwork_nil (w : World) : Calls Tryz.prog 22 #[.pointer none] w fun e w' => e = .returned (.tuple #[.agg #[.float .f64 0, .int .i64 0, .int .i64 0, .int .i64 0, .int .i64 0, .string ⟨#[]⟩, .slice none 0 0, .int .i64 0], .int .i64 1]) ∧ Below w.heap.size w w' := by
 go_enter Tryz.func22, Tryz.ntmps22
 go_wp2
 go_returns
 exact ⟨rfl, (Below.refl _ w).alloc (Nat.le_refl _) _⟩
theorem cleast_nil (w : World) : Calls Tryz.prog 23 #[.pointer none] w fun e w' => e = .returned (.tuple #[.float .f64 0, .bool false, .int .i64 1]) ∧ Below w.heap.size w w' := by
 go_enter Tryz.func23, Tryz.ntmps23
 go_wp2
 go_ret3
 exact ⟨rfl, Below.refl _ w⟩
theorem clp_nil (w : World) : Calls Tryz.prog 25 #[.pointer none] w fun e w' => e = .returned (.pointer none) ∧ Below w.heap.size w w' := by
 go_enter Tryz.func25, Tryz.ntmps25
 go_wp2
 go_ret
 exact ⟨rfl, Below.refl _ w⟩
theorem ckept_nil (w : World) : Calls Tryz.prog 26 #[.pointer none] w fun e w' => e = .returned (.pointer none) ∧ Below w.heap.size w w' := by
 go_enter Tryz.func26, Tryz.ntmps26
 go_wp2
 go_ret
 exact ⟨rfl, Below.refl _ w⟩
theorem cdoubt_nil (w : World) : Calls Tryz.prog 27 #[.pointer none] w fun e w' => e = .returned (.pointer none) ∧ Below w.heap.size w w' := by
 go_enter Tryz.func27, Tryz.ntmps27
 go_wp2
 go_ret
 exact ⟨rfl, Below.refl _ w⟩
set_option maxHeartbeats 8000000 in
theorem caof_any {W : World} {x : MdV} (h : MdAt W x) (hd : x.dn ≤ 1000) (hp : x.pn ≤ 1000) (hl : x.ln ≤ 1000) (hi : x.im ≤ 1000) (hq : ∀ q ∈ x.ps, q.n ≤ 1000) (hr : ∀ q ∈ x.ls, q.n ≤ 1000) (p : Addr) (n : Int) :
  Calls Tryz.prog 24 #[.pointer (some p), .agg (mdC x).toArray, .int .i64 n] W (LpOfP W x n) := by
 have hml : x.m.lp.length = x.ln := by unfold MdV.m; rw [List.length_map, ← h.ln]
 have HL := hid (fun W1 (hb : Below W.heap.size W W1) => lpof_any (h.below hb) hd hp hl hi hq hr p n)
 unfold LpOfP at HL
 obtain ⟨r0, hr0⟩ : ∃ r, r = lpE x.m n := ⟨_, rfl⟩
 have HR : Hid (∀ q W', (r0 = 0 → ∃ a, q = .pointer (some a)) → (r0 ≠ 0 → q = .pointer none) → Below W.heap.size W W' → LpOfP W x n (.returned (.tuple #[q, .int .i64 r0])) W') := hid fun q W' h1 h2 h3 => by rw [hr0] at h1 h2 ⊢; exact ⟨⟨q, rfl, h1, h2⟩, h3⟩
 generalize hP : LpOfP W x n = PP at HR ⊢
 rw [← hr0] at HL
 have hr3 : r0 = 15 ∨ r0 = 2 ∨ (r0 = 0 ∧ 0 ≤ n ∧ n < 6) := by
  rw [hr0]; unfold lpE
  by_cases hc : checkB x.m = true
  ·rw [if_pos hc]
   have := check_counts hc
   by_cases hn : n < 0 ∨ (x.m.lp.length : Int) ≤ n
   ·rw [if_pos hn]; exact .inr (.inl rfl)
   ·rw [if_neg hn]; exact .inr (.inr ⟨rfl, by omega⟩)
  ·rw [if_neg hc]; exact .inl rfl
 have hbw : Hid (∀ o, Below W.heap.size W (W.alloc o)) := hid fun o => (Below.refl _ W).alloc (Nat.le_refl _) _
 clear hP hml h hr0 hd hp hl hi hq hr
 rcases hr3 with rfl | rfl | ⟨rfl, h6⟩
 ·have HL3 := hid (fun W1 (hb : Below W.heap.size W W1) => (HL.out W1 hb).mono fun e w' he => (show ((∃ q : Nat, e = .returned (.tuple #[.pointer none, .int .i64 15])) ∧ Below W1.heap.size W1 w') from by
   obtain ⟨⟨q, rfl, _, h2⟩, hb⟩ := he
   rw [h2 (by decide)]
   exact ⟨⟨0, rfl⟩, hb⟩))
  clear HL
  unfold mdC at HL3 ⊢
  go_enter Tryz.func24, Tryz.ntmps24
  go_wp2_with (go_at_call 13; with_reducible refine (HL3.out _ (hbw.out _)).mono ?_; rintro e W2 ⟨⟨q, rfl⟩, hb2⟩)
  try go_ret2
  exact HR.out (.pointer none) _ (fun h => absurd h (by decide)) (fun _ => rfl) ((hbw.out _).trans (hb2.mono (by simp)))
 ·have HL3 := hid (fun W1 (hb : Below W.heap.size W W1) => (HL.out W1 hb).mono fun e w' he => (show ((∃ q : Nat, e = .returned (.tuple #[.pointer none, .int .i64 2])) ∧ Below W1.heap.size W1 w') from by
   obtain ⟨⟨q, rfl, _, h2⟩, hb⟩ := he
   rw [h2 (by decide)]
   exact ⟨⟨0, rfl⟩, hb⟩))
  clear HL
  unfold mdC at HL3 ⊢
  go_enter Tryz.func24, Tryz.ntmps24
  go_wp2_with (go_at_call 13; with_reducible refine (HL3.out _ (hbw.out _)).mono ?_; rintro e W2 ⟨⟨q, rfl⟩, hb2⟩)
  try go_ret2
  exact HR.out (.pointer none) _ (fun h => absurd h (by decide)) (fun _ => rfl) ((hbw.out _).trans (hb2.mono (by simp)))
 ·have HL3 := hid (fun W1 (hb : Below W.heap.size W W1) => (HL.out W1 hb).mono fun e w' he => (show ((∃ q : Addr, e = .returned (.tuple #[.pointer (some q), .int .i64 0])) ∧ Below W1.heap.size W1 w') from by
   obtain ⟨⟨q, rfl, h1, _⟩, hb⟩ := he
   obtain ⟨a, rfl⟩ := h1 rfl
   exact ⟨⟨a, rfl⟩, hb⟩))
  clear HL
  have h6' := hid h6
  clear h6
  unfold mdC at HL3 ⊢
  go_enter Tryz.func24, Tryz.ntmps24
  go_wp2_with (first
   | (go_at_call 13; with_reducible refine (HL3.out _ (hbw.out _)).mono ?_; rintro e W2 ⟨⟨q, rfl⟩, hb2⟩; have HB := hid ((hbw.out _).trans (hb2.mono (by simp))); have hs2 := HB.out.size; clear hb2)
   | (go_at_call 88; with_reducible refine (obof p n h6'.out false _).mono ?_; rintro e W4 ⟨⟨qi, rfl⟩, hb4⟩; have B4 := hid ((Blk.new W2 _ _).below hb4 (by simp)); have z1 := B4.out.frozen 1; have d1 := B4.out.cell 1; simp at d1; replace HB := hid (HB.out.trans (((Below.refl _ W2).alloc (Nat.le_refl _) _).mono HB.out.size |>.trans (hb4.mono (by simp; have := HB.out.size; omega)))); clear hb4)
   | (go_at_call 88; with_reducible refine (obof p n h6'.out true _).mono ?_; rintro e W5 ⟨⟨qd, rfl⟩, hb5⟩; have B5 := hid ((B4.out.set_ 1 (.pointer (some qi))).below hb5 (by have := B4.out.lt; simpa using this)); have z2 := B5.out.frozen 2; have d2 := B5.out.cell 2; simp at d2; replace HB := hid ((HB.out.setCell (p := ⟨W2.heap.size, 1, none⟩) (by exact hs2) (.pointer (some qi))).trans (hb5.mono (by simpa using HB.out.size))); clear hb5)
   | (go_at_call 89; with_reducible refine (flof p _).mono ?_; rintro e W6 ⟨⟨qf, rfl⟩, hb6⟩; have B6 := hid ((B5.out.set_ 2 (.pointer (some qd))).below hb6 (by have := B5.out.lt; simpa using this)); have z3 := B6.out.frozen 3; have d3 := B6.out.cell 3; simp at d3; replace HB := hid ((HB.out.setCell (p := ⟨W2.heap.size, 2, none⟩) (by exact hs2) (.pointer (some qd))).trans (hb6.mono (by simpa using HB.out.size))); clear hb6))
  try go_ret2
  exact HR.out (.pointer (some ⟨W2.heap.size, 0, none⟩)) _ (fun _ => ⟨_, rfl⟩) (fun h => absurd rfl h) (HB.out.setCell (by exact hs2) _)
end
section
open Go.RowKit Go.Lib
theorem begun21_ptr (w : World) : Calls Tryz.prog 14 #[] w fun e w' => (∃ b, e = .returned (.pointer (some ⟨b, 0, none⟩))) ∧ Below w.heap.size w w' := by
 refine (Kv.closed_run Kv.lpdtop rfl rfl (by decide +kernel) (args' := []) (fun ρ => rfl) w).mono fun e w' h => ?_
 obtain ⟨⟨ρ', v', rfl, ⟨b, κ, _, k⟩, _⟩, hb⟩ := h
 exact ⟨⟨b, by rw [k]⟩, hb⟩
theorem awake27_any (w : World) : Calls Tryz.prog 20 #[] w fun e w' => e = .returned (.bool true) ∧ Below w.heap.size w w' :=
 Kv.plain_run Kv.matop rfl rfl (by decide +kernel) (args' := []) (fun ρ => rfl) (by rfl) w
end
end Go.Proofs.YtfkoaooceickiaaGreat
