/- Parts of the proof: Lpb Lpk Lpc. -/
import Derived.BigQuiet
import Derived.Test.YtfkoaooceickiaaGreatH02
import Derived.Test.YtfkoaooceickiaaGreatH04
import Derived.Test.YtfkoaooceickiaaGreatH17
import Derived.Test.YtfkoaooceickiaaGreatH20
import Derived.Test.YtfkoaooceickiaaGreatH24
import Derived.Test.YtfkoaooceickiaaGreatH33
set_option linter.all false
set_option maxRecDepth 100000
namespace Go.Proofs.YtfkoaooceickiaaGreat
section
open Go.RowKit Go.Lib
theorem eql_nil_ptr {P : Program} {tp te : TypeId} (hp : P.underlying tp = some (.pointer te)) (p : Addr) (w : World) : (binOp .eql tp (.pointer none) (.pointer (some p))).run P w = .ok (.bool false) w := by
 have h : ∀ d : Nat, (Op.equalIn (d + 1) tp (.pointer none) (.pointer (some p))).run P w = .ok false w := fun d => by
  simp [Op.equalIn, run_underlying hp]
 simp only [binOp]
 simp [Op.equal, Op.maxDepth, h 9999]
theorem windex_no {w : World} {b o : Nat} (c : Nat) {p q : Addr} (h0 : w.cell? ⟨b, o, none⟩ = some (.pointer (some p))) (h1 : w.cell? ⟨b, o + 1, none⟩ = some (.pointer (some q))) :
  Calls Tryz.prog 201 #[.slice (some ⟨b, o, none⟩) 2 c, .pointer none] w fun e w' => e = .returned (.int .i64 (-1)) ∧ w' = w := by
 go_enter Tryz.func201, Tryz.ntmps201
 go_wp2
 refine wp_loop_rounds 3 ?_
 rw [rounds_succ]
 go_wp2
 try (rw [eql_nil_ptr Tryz.underlying63]; go_wp2)
 rw [rounds_succ]
 go_wp2
 try (rw [eql_nil_ptr Tryz.underlying63]; go_wp2)
 rw [rounds_succ]
 go_wp2
 try (rw [eql_nil_ptr Tryz.underlying63]; go_wp2)
 go_ret
 exact ⟨rfl, rfl⟩
theorem windex_nil {w : World} {b o : Nat} (c : Nat) {p : Addr} (h0 : w.cell? ⟨b, o, none⟩ = some (.pointer (some p))) (h1 : w.cell? ⟨b, o + 1, none⟩ = some (.pointer none)) :
  Calls Tryz.prog 201 #[.slice (some ⟨b, o, none⟩) 2 c, .pointer none] w fun e w' => e = .returned (.int .i64 1) ∧ w' = w := by
 go_enter Tryz.func201, Tryz.ntmps201
 go_wp2
 refine wp_loop_rounds 2 ?_
 rw [rounds_succ]
 go_wp2
 try (rw [eql_nil_ptr Tryz.underlying63]; go_wp2)
 rw [rounds_succ]
 go_wp2
 try (rw [eql_nil_ptr Tryz.underlying63]; go_wp2)
 go_ret
 exact ⟨rfl, rfl⟩
theorem wcont_no {w : World} {b o : Nat} (c : Nat) {p q : Addr} (h0 : w.cell? ⟨b, o, none⟩ = some (.pointer (some p))) (h1 : w.cell? ⟨b, o + 1, none⟩ = some (.pointer (some q))) :
  Calls Tryz.prog 98 #[.slice (some ⟨b, o, none⟩) 2 c, .pointer none] w fun e w' => e = .returned (.bool false) ∧ w' = w := by
 have H := hid (windex_no c h0 h1)
 go_enter Tryz.func98, Tryz.ntmps98
 go_wp2_with (go_at_call 201; with_reducible refine H.out.mono ?_; rintro e W2 ⟨rfl, rfl⟩)
 go_ret
 exact ⟨rfl, rfl⟩
theorem wcont_nil {w : World} {b o : Nat} (c : Nat) {p : Addr} (h0 : w.cell? ⟨b, o, none⟩ = some (.pointer (some p))) (h1 : w.cell? ⟨b, o + 1, none⟩ = some (.pointer none)) :
  Calls Tryz.prog 98 #[.slice (some ⟨b, o, none⟩) 2 c, .pointer none] w fun e w' => e = .returned (.bool true) ∧ w' = w := by
 have H := hid (windex_nil c h0 h1)
 go_enter Tryz.func98, Tryz.ntmps98
 go_wp2_with (go_at_call 201; with_reducible refine H.out.mono ?_; rintro e W2 ⟨rfl, rfl⟩)
 go_ret
 exact ⟨rfl, rfl⟩
theorem fwrite_nil (x : MdV) (t : Nat) (a : Bool) (v : Value) (w : World) :
  Calls Tryz.prog 34 #[.pointer none, .agg (mdC x).toArray, .float .f64 t, .bool a, v] w fun e w' => e = .returned (.tuple #[.int .i64 0, .int .i64 1]) ∧ Below w.heap.size w w' := by
 unfold mdC
 go_enter Tryz.func34, Tryz.ntmps34
 go_wp2
 go_ret2
 exact ⟨rfl, ((((Below.refl _ w).alloc (Nat.le_refl _) _).alloc (by simp) _).alloc (by simp; omega) _)⟩
theorem fwrite_none (x : MdV) (s : Addr) (t : Nat) (a : Bool) {w : World} {b o : Nat} (c : Nat) {p : Addr} (h0 : w.cell? ⟨b, o, none⟩ = some (.pointer (some p))) (h1 : w.cell? ⟨b, o + 1, none⟩ = some (.pointer none)) (hb : b < w.heap.size) :
  Calls Tryz.prog 34 #[.pointer (some s), .agg (mdC x).toArray, .float .f64 t, .bool a, .slice (some ⟨b, o, none⟩) 2 c] w fun e w' => e = .returned (.tuple #[.int .i64 0, .int .i64 1]) ∧ Below w.heap.size w w' := by
 have H : Hid (∀ W', Below w.heap.size w W' → Calls Tryz.prog 98 #[.slice (some ⟨b, o, none⟩) 2 c, .pointer none] W' fun e w' => e = .returned (.bool true) ∧ w' = W') := hid fun W' hw => wcont_nil c ((hw.cell (p := ⟨b, o, none⟩) hb).trans h0) ((hw.cell (p := ⟨b, o + 1, none⟩) hb).trans h1)
 have HB : Hid (∀ o1 o2 o3, Below w.heap.size w (((w.alloc o1).alloc o2).alloc o3)) := hid fun _ _ _ => ((((Below.refl _ w).alloc (Nat.le_refl _) _).alloc (by simp) _).alloc (by simp; omega) _)
 clear h0 h1 hb
 unfold mdC
 go_enter Tryz.func34, Tryz.ntmps34
 go_wp2_with (go_at_call 98; with_reducible refine (H.out _ (HB.out _ _ _)).mono ?_; rintro e W2 ⟨rfl, rfl⟩)
 go_ret2
 exact ⟨rfl, HB.out _ _ _⟩
theorem fwrite_nan (x : MdV) (s : Addr) {t : Nat} (hn : fnan t = true) {w : World} {b o : Nat} (c : Nat) {p q : Addr} (h0 : w.cell? ⟨b, o, none⟩ = some (.pointer (some p))) (h1 : w.cell? ⟨b, o + 1, none⟩ = some (.pointer (some q))) (hb : b < w.heap.size) :
  Calls Tryz.prog 34 #[.pointer (some s), .agg (mdC x).toArray, .float .f64 t, .bool false, .slice (some ⟨b, o, none⟩) 2 c] w fun e w' => e = .returned (.tuple #[.int .i64 0, .int .i64 7]) ∧ Below w.heap.size w w' := by
 have H : Hid (∀ W', Below w.heap.size w W' → Calls Tryz.prog 98 #[.slice (some ⟨b, o, none⟩) 2 c, .pointer none] W' fun e w' => e = .returned (.bool false) ∧ w' = W') := hid fun W' hw => wcont_no c ((hw.cell (p := ⟨b, o, none⟩) hb).trans h0) ((hw.cell (p := ⟨b, o + 1, none⟩) hb).trans h1)
 have HB : Hid (∀ o1 o2 o3, Below w.heap.size w (((w.alloc o1).alloc o2).alloc o3)) := hid fun _ _ _ => ((((Below.refl _ w).alloc (Nat.le_refl _) _).alloc (by simp) _).alloc (by simp; omega) _)
 have HN : Hid (∀ W', Calls Tryz.prog 99 #[.float .f64 t] W' fun e w' => e = .returned (.bool true) ∧ w' = W') := hid fun W' => (isnan_any t W').mono fun e w' he => by rw [hn] at he; exact ⟨he.1, he.2.symm⟩
 clear h0 h1 hb hn
 unfold mdC
 go_enter Tryz.func34, Tryz.ntmps34
 go_wp2_with (first
  | (go_at_call 98; with_reducible refine (H.out _ (HB.out _ _ _)).mono ?_; rintro e W2 ⟨rfl, rfl⟩)
  | (go_at_call 99; with_reducible refine (HN.out _).mono ?_; rintro e W2 ⟨rfl, rfl⟩))
 go_ret2
 exact ⟨rfl, HB.out _ _ _⟩
theorem fhist_nil (a b : Int) (w : World) :
  Calls Tryz.prog 36 #[.pointer none, .int .i64 a, .int .i64 b] w fun e w' => e = .returned (.tuple #[.slice none 0 0, .int .i64 1]) ∧ Below w.heap.size w w' := by
 go_enter Tryz.func36, Tryz.ntmps36
 go_wp2
 go_ret2
 exact ⟨rfl, Below.refl _ w⟩
end
section
set_option maxRecDepth 1000000
noncomputable section
namespace Kv
def pce0 : Ent := ⟨29, [], 4, .d, 0, mak102, 4, (.n (.n (.n (.n .d (.l (.row 4 2 mak1))) mak103) mak104) .d), 8⟩
theorem pcb0 : segB Tryz.prog Sb [] pce0 = true := by decide +kernel
theorem pcs0 : EntOK Tryz.prog pce0 := seg_ok P_mixed P_noNum Sb_ok EL.nil pcb0
def pde0 : Ent := ⟨35, [], 4, .d, 0, .fl 9221120237041090561, 4, .d, 0⟩
theorem pdb0 : segB Tryz.prog Sb [] pde0 = true := by decide +kernel
theorem pds0 : EntOK Tryz.prog pde0 := seg_ok P_mixed P_noNum Sb_ok EL.nil pdb0
def pfe0 : Ent := ⟨37, [.nilp], 4, .d, 0, .tup [.int 3 0, .int 3 1], 4, .d, 3⟩
theorem pfb0 : segB Tryz.prog Sb [] pfe0 = true := by decide +kernel
theorem pfs0 : EntOK Tryz.prog pfe0 := seg_ok P_mixed P_noNum Sb_ok EL.nil pfb0
end Kv
end
end
section
open Go.RowKit Go.Lib
theorem nan_run (w : World) : Calls Tryz.prog 35 #[] w fun e w' => e = .returned (.float .f64 9221120237041090561) ∧ Below w.heap.size w w' :=
 Kv.plain_run Kv.pds0 rfl rfl (by decide +kernel) (args' := []) (fun ρ => rfl) (by rfl) w
theorem flen_nil (w : World) : Calls Tryz.prog 37 #[.pointer none] w fun e w' => e = .returned (.tuple #[.int .i64 0, .int .i64 1]) ∧ Below w.heap.size w w' :=
 Kv.plain_run Kv.pfs0 rfl rfl (by decide +kernel) (args' := [.pointer none]) (fun ρ => ⟨_, _, rfl, rfl, rfl⟩) (by rfl) w
theorem awake29_any (w : World) : Calls Tryz.prog 33 #[] w fun e w' => e = .returned (.bool true) ∧ Below w.heap.size w w' :=
 Kv.plain_run Kv.patop rfl rfl (by decide +kernel) (args' := []) (fun ρ => rfl) (by rfl) w
theorem echo_run (w : World) : Calls Tryz.prog 29 #[] w fun e w' => (∃ ρ v, e = .returned v ∧ Kv.VR ρ Kv.mak102 v ∧ Kv.HR ρ Kv.mae1.h w' ∧ ∀ i b κ, ρ i = some (b, κ) → Kv.mae1.h.get i ≠ .dead → w.heap.size ≤ b) ∧ Below w.heap.size w w' := by
 obtain ⟨fn, c, e1, e2, e3⟩ := Kv.has_body 29 (by decide +kernel)
 have hr : Kv.HR (fun _ => none) Kv.pce0.h w := Kv.hr_none rfl (Kv.wf_d _ _ (Nat.zero_le _)) (fun i => Kv.get_d _ _ i)
 refine (Kv.ent_calls Kv.pcs0 e1 e2 e3 (args' := []) rfl hr).mono fun r W' h => ?_
 obtain ⟨ρ', v', rfl, x, k⟩ := h
 refine ⟨⟨ρ', v', rfl, k, x.hr, fun i b κ hi hd => ?_⟩, x.below fun i b κ q => by cases q⟩
 rcases Nat.lt_or_ge b w.heap.size with h | h
 ·obtain ⟨j, κ', h1, _⟩ := x.own i b κ hi hd h
  cases h1
 ·exact h
structure NetI (W : World) (nb wb c : Nat) (s p q : Addr) (x : MdV) : Prop where
 c0 : W.cell? ⟨nb, 0, none⟩ = some (.pointer (some s))
 c1 : W.cell? ⟨nb, 1, none⟩ = some (.int .i64 x.seed)
 c2 : W.cell? ⟨nb, 2, none⟩ = some (.float .f64 x.en)
 c3 : W.cell? ⟨nb, 3, none⟩ = some (.slice x.dp x.dn x.dc)
 c4 : W.cell? ⟨nb, 4, none⟩ = some (.slice x.pp x.pn x.pc)
 c5 : W.cell? ⟨nb, 5, none⟩ = some (.slice x.lp x.ln x.lc)
 c6 : W.cell? ⟨nb, 6, none⟩ = some (.slice x.ip x.im x.ic)
 c7 : W.cell? ⟨nb, 7, none⟩ = some (.slice (some ⟨wb, 0, none⟩) 2 c)
 d0 : W.cell? ⟨wb, 0, none⟩ = some (.pointer (some p))
 d1 : W.cell? ⟨wb, 1, none⟩ = some (.pointer (some q))
 lt : nb < W.heap.size
 lw : wb < W.heap.size
theorem NetI.below {W W' : World} {nb wb c : Nat} {s p q : Addr} {x : MdV} (h : NetI W nb wb c s p q x) (hb : Below W.heap.size W W') : NetI W' nb wb c s p q x := by
 have a : ∀ i, W'.cell? ⟨nb, i, none⟩ = W.cell? ⟨nb, i, none⟩ := fun i => hb.cell (p := ⟨nb, i, none⟩) h.lt
 have b : ∀ i, W'.cell? ⟨wb, i, none⟩ = W.cell? ⟨wb, i, none⟩ := fun i => hb.cell (p := ⟨wb, i, none⟩) h.lw
 exact ⟨(a 0).trans h.c0, (a 1).trans h.c1, (a 2).trans h.c2, (a 3).trans h.c3, (a 4).trans h.c4, (a 5).trans h.c5, (a 6).trans h.c6, (a 7).trans h.c7, (b 0).trans h.d0, (b 1).trans h.d1, Nat.lt_of_lt_of_le h.lt hb.size, Nat.lt_of_lt_of_le h.lw hb.size⟩
theorem row_cells {ρ : Kv.Ren} {h : Kv.HP} {W : World} {i b κ u : Nat} {t : Kv.RT Kv.AV} {n : Nat} (hr : Kv.HR ρ h W) (hi : ρ i = some (b, κ)) (hg : h.get i = .row u n t) (hn : 0 < n) :
  ∃ cs, Kv.VRs ρ (Kv.cellsL (t.get 0)) cs ∧ cs.length = u ∧ b < W.heap.size ∧ ∀ j, j < u → W.cell? ⟨b, j, none⟩ = cs[j]? := by
 obtain ⟨_, o, ho, hbr⟩ := hr.at_ i b κ hi
 rw [hg] at hbr
 obtain ⟨c, ty, fr, rfl, k1, k2, k3, k4, k5, k6⟩ := hbr
 have k := k6 0 hn
 have k2' : fr = (0, 0) := k2
 subst k2'
 refine ⟨_, k.vs, k.len, lt_of_block ho, fun j hj => ?_⟩
 rw [cell_of_row W b j c ty (0, 0) ho]
 simp [hj]
theorem row_cells2 {ρ : Kv.Ren} {h : Kv.HP} {W : World} {i b κ i0 i1 : Nat} (hr : Kv.HR ρ h W) (hi : ρ i = some (b, κ)) (hg : h.get i = .row 1 2 (.n 1 (.l (.ptr i0 0)) (.l (.ptr i1 0)))) :
  ∃ p q : Addr, W.cell? ⟨b, 0, none⟩ = some (.pointer (some p)) ∧ W.cell? ⟨b, 1, none⟩ = some (.pointer (some q)) ∧ b < W.heap.size := by
 obtain ⟨_, o, ho, hbr⟩ := hr.at_ i b κ hi
 rw [hg] at hbr
 obtain ⟨c, ty, fr, rfl, k1, k2, k3, k4, k5, k6⟩ := hbr
 have ka := (k6 0 (by decide)).vs
 have kb := (k6 1 (by decide)).vs
 have k2' : fr = (0, 0) := k2
 subst k2'
 obtain ⟨_, _, ea, ⟨b0, _, _, rfl⟩, _⟩ := ka
 obtain ⟨_, _, eb, ⟨b1, _, _, rfl⟩, _⟩ := kb
 have fa := congrArg (fun l => l[0]?) ea
 have fb := congrArg (fun l => l[0]?) eb
 refine ⟨⟨b0, 0, none⟩, ⟨b1, 0, none⟩, ?_, ?_, lt_of_block ho⟩
 ·rw [cell_of_row W b 0 c ty (0, 0) ho]
  simpa using fa
 ·rw [cell_of_row W b 1 c ty (0, 0) ho]
  simpa using fb
theorem begun_run {B : Nat} {ρ : Kv.Ren} {v : Value} {w : World} (hv : Kv.VR ρ Kv.mak102 v) (hr : Kv.HR ρ Kv.mae1.h w) (hB : ∀ i b κ, ρ i = some (b, κ) → Kv.mae1.h.get i ≠ .dead → B ≤ b) (hw : B ≤ w.heap.size) :
  Calls Tryz.prog 28 #[v] w fun e w' => (∃ nb wb c s p q x, e = .returned (.pointer (some ⟨nb, 0, none⟩)) ∧ NetI w' nb wb c s p q x) ∧ Below B w w' := by
 obtain ⟨fn, c, e1, e2, e3⟩ := Kv.has_body 28 (by decide +kernel)
 refine (Kv.ent_calls Kv.mas1 e1 e2 e3 (args' := [v]) ⟨_, _, rfl, hv, rfl⟩ hr).mono fun r W' h => ?_
 obtain ⟨ρ', v', rfl, x, k⟩ := h
 refine ⟨?_, ⟨x.os, x.tape, x.out, x.size, fun k hk => x.frame k (Nat.lt_of_lt_of_le hk hw) fun i κ hi => ?_⟩⟩
 ·obtain ⟨nb, κ, hi, rfl⟩ : ∃ b κ, ρ' 293 = some (b, κ) ∧ v' = .pointer (some ⟨b, 0, none⟩) := k
  have g1 : Kv.mae1.h'.get 293 = .row 11 1 (.l (.agg [.ptr 261 0, .int 3 0, .fl 4626322717216342016, .sl 3 0 1 1, .sl 4 0 2 2, .sl 6 0 2 2, .sl 7 0 2 2, .sf 1498 0 2 1, .ptr 262 0, .ptr 264 0, .bl false])) := by rfl
  have g2 : Kv.mae1.h'.get 1498 = .row 1 2 (.n 1 (.l (.ptr 350 0)) (.l (.ptr 756 0))) := by rfl
  obtain ⟨cs, hv1, hl1, hlt1, hc1⟩ := row_cells x.hr hi g1 (by decide)
  obtain ⟨_, _, rfl, ⟨b0, _, _, rfl⟩, _, _, rfl, ⟨rfl, _⟩, _, _, rfl, rfl, _, _, rfl, ⟨b3, κ3, _, rfl, _⟩, _, _, rfl, ⟨b4, κ4, _, rfl, _⟩, _, _, rfl, ⟨b5, κ5, _, rfl, _⟩, _, _, rfl, ⟨b6, κ6, _, rfl, _⟩, _, _, rfl, ⟨wb, κ7, c7, hi7, rfl, _⟩, _⟩ := hv1
  have hw2 := row_cells2 x.hr hi7 g2
  obtain ⟨p, q, d0, d1, hlw⟩ := hw2
  refine ⟨nb, wb, c7, ⟨b0, 0, none⟩, p, q, ⟨0, 4626322717216342016, some ⟨b3, 0, none⟩, 1, 1, [], some ⟨b4, 0, none⟩, 2, 2, [], some ⟨b5, 0, none⟩, 2, 2, [], some ⟨b6, 0, none⟩, 2, 2, []⟩, rfl, ?_⟩
  exact ⟨hc1 0 (by decide), hc1 1 (by decide), hc1 2 (by decide), hc1 3 (by decide), hc1 4 (by decide), hc1 5 (by decide), hc1 6 (by decide), hc1 7 (by decide), d0, d1, hlt1, hlw⟩
 ·exact Classical.byContradiction fun hd => absurd (hB i k κ hi hd) (by omega)
end
end Go.Proofs.YtfkoaooceickiaaGreat
