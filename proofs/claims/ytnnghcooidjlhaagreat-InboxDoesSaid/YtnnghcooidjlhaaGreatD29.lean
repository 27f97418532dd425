/- Parts of the proof: Mn Mo Mp Mq. -/
import Derived.Deep.RegionHeld3
import Derived.Test.YtnnghcooidjlhaaGreatD28
set_option linter.all false
set_option maxRecDepth 100000
namespace Go.Proofs.YtnnghcooidjlhaaGreat
section
open Go.RowKit Go.Lib
theorem andNot_top (b x : Nat) (hb : b < 18446744073709551616) (h : 9223372036854775808 ≤ b) (hx : b = x + 9223372036854775808) : bits .andNot .u64 (b : Int) 9223372036854775808 = (x : Int) := by
 have h1 := u64_andNot b 9223372036854775808 (by omega) (by omega) (by decide) (by decide)
 rw [show ((9223372036854775808 : Int)).toNat = 9223372036854775808 from rfl, Int.toNat_natCast] at h1
 rw [h1]
 have h2 : b &&& 9223372036854775807 = b % 2 ^ 63 := by
  rw [← Nat.and_two_pow_sub_one_eq_mod]
 rw [show 18446744073709551615 - 9223372036854775808 = 9223372036854775807 from rfl, h2]
 have : b % 2 ^ 63 = x := by omega
 rw [this]
set_option maxHeartbeats 4000000 in
theorem stampread_any (x : Nat) (a c : Int) (h : fnan x = false) (hx : x < 18446744073709551616) (ha : -9223372036854775808 ≤ a ∧ a < 9223372036854775808) (hc : -9223372036854775808 ≤ c ∧ c < 9223372036854775808) (w : World) :
  Calls Tryz.prog 225 #[.string (S (timeB x ++ encI a ++ encI c)), .int .i64 0] w fun e w' => e = .returned (.tuple #[.agg #[.float .f64 (tn x), .int .i64 a, .int .i64 c], .int .i64 24, .int .i64 0]) ∧ Below w.heap.size w w' := by
 obtain ⟨s, hs⟩ : ∃ s, s = timeB x ++ encI a ++ encI c := ⟨_, rfl⟩
 have hsl : s.length = 24 := by rw [hs]; simp
 rw [← hs]
 have HU := hid (fun W => readU_any s 0 W (by omega) (by omega))
 have HA := hid (fun W => readI_any s 8 W (by omega) (by omega))
 have HC := hid (fun W => readI_any s 16 W (by omega) (by omega))
 have e0 : unbe ((s.drop 0).take 8) = tkey x := by
  rw [List.drop_zero, hs, List.append_assoc, List.take_left' (timeB_length _), unbe_timeB hx]
 have e1 : decI ((s.drop 8).take 8) = a := by
  rw [hs, mid_eq (by simp) (by simp), decI_encI ha.1 ha.2]
 have e2 : decI ((s.drop 16).take 8) = c := by
  have := mid_eq (a := timeB x ++ encI a) (b := encI c) (c := []) (n := 16) (m := 8) (by simp) (by simp)
  rw [List.append_nil] at this
  rw [hs, this, decI_encI hc.1 hc.2]
 rw [e0, show ((0 : Nat) : Int) = 0 from rfl, show ((0 + 8 : Nat) : Int) = 8 from rfl] at HU
 rw [e1, show ((8 : Nat) : Int) = 8 from rfl, show ((8 + 8 : Nat) : Int) = 16 from rfl] at HA
 rw [e2, show ((16 : Nat) : Int) = 16 from rfl, show ((16 + 8 : Nat) : Int) = 24 from rfl] at HC
 have hlt := tkey_lt hx
 have hun := unT_tk hx
 have hnan : fnan (tn x) = false := by rw [fnan_tn]; exact h
 have hne := tn_ne x
 obtain ⟨b, hb⟩ : ∃ b, b = tkey x := ⟨_, rfl⟩
 obtain ⟨y, hy⟩ : ∃ y, y = tn x := ⟨_, rfl⟩
 rw [← hb] at HU hlt hun
 rw [← hy] at hun hnan hne ⊢
 unfold unT at hun
 have hnei : ((y : Int) == 9223372036854775808) = false := by
  rw [beq_eq_false_iff_ne]; omega
 have hsz : (w.alloc (.cells #[.float .f64 0, .int .i64 0, .int .i64 0] 65)).heap.size = w.heap.size + 1 := by simp
 clear h hx ha hc hs hsl e0 e1 e2 hne hb hy
 by_cases hc : 9223372036854775808 ≤ b
 ·have hcb : decide (9223372036854775808 ≤ (b : Int)) = true := decide_eq_true (by omega)
  rw [if_neg (by omega)] at hun
  have HOR := hid (andNot_top b y hlt hc (by omega))
  clear hc hlt hun
  go_enter Tryz.func225, Tryz.ntmps225
  go_wp2_with fail
  (with_reducible refine (HU.out _).mono ?_)
  rintro e w1 ⟨rfl, rfl⟩
  go_wp2_with fail
  (with_reducible refine (HA.out _).mono ?_)
  rintro e w1 ⟨rfl, rfl⟩
  go_wp2_with fail
  (with_reducible refine (HC.out _).mono ?_)
  rintro e w1 ⟨rfl, rfl⟩
  go_wp2_with fail
  rw [HOR.out, Int.toNat_natCast]
  (with_reducible refine (isnan_any _ _).mono ?_)
  rintro e w1 ⟨rfl, rfl⟩
  rw [hnan]
  go_wp2
  have hr := Blk.new w 65 #[.float .f64 y, .int .i64 a, .int .i64 c]
  have z0 := hr.cell 0
  have z1 := hr.cell 1
  have z2 := hr.cell 2
  simp only [List.getElem?_toArray, List.getElem?_cons_zero, List.getElem?_cons_succ] at z0 z1 z2
  refine bodyPost_ret (v := .tuple #[.agg #[.float .f64 y, .int .i64 a, .int .i64 c], .int .i64 24, .int .i64 0]) (by simp [results, Tryz.results225, go_sem, z0, z1, z2]) rfl ⟨rfl, (Below.refl _ w).alloc (Nat.le_refl _) _⟩
 ·have hcb : decide (9223372036854775808 ≤ (b : Int)) = false := decide_eq_false (by omega)
  rw [if_pos (by omega)] at hun
  have HOR := hid (xor_max b y hlt (by omega))
  clear hc hlt hun
  go_enter Tryz.func225, Tryz.ntmps225
  go_wp2_with fail
  (with_reducible refine (HU.out _).mono ?_)
  rintro e w1 ⟨rfl, rfl⟩
  go_wp2_with fail
  (with_reducible refine (HA.out _).mono ?_)
  rintro e w1 ⟨rfl, rfl⟩
  go_wp2_with fail
  (with_reducible refine (HC.out _).mono ?_)
  rintro e w1 ⟨rfl, rfl⟩
  go_wp2_with fail
  rw [HOR.out, Int.toNat_natCast]
  (with_reducible refine (isnan_any _ _).mono ?_)
  rintro e w1 ⟨rfl, rfl⟩
  rw [hnan]
  go_wp2
  have hr := Blk.new w 65 #[.float .f64 y, .int .i64 a, .int .i64 c]
  have z0 := hr.cell 0
  have z1 := hr.cell 1
  have z2 := hr.cell 2
  simp only [List.getElem?_toArray, List.getElem?_cons_zero, List.getElem?_cons_succ] at z0 z1 z2
  refine bodyPost_ret (v := .tuple #[.agg #[.float .f64 y, .int .i64 a, .int .i64 c], .int .i64 24, .int .i64 0]) (by simp [results, Tryz.results225, go_sem, z0, z1, z2]) rfl ⟨rfl, (Below.refl _ w).alloc (Nat.le_refl _) _⟩
def RdI (w : World) (g : Nat) (s : Bs) (i : Nat) : Prop := Blk w g 246 #[.string (S s), .int .i64 i, .bool false]
section
variable {w : World} {g : Nat} {s : Bs} {i : Nat}
theorem RdI.cells (h : RdI w g s i) : w.cell? ⟨g, 0, none⟩ = some (.string (S s)) ∧ w.cell? ⟨g, 1, none⟩ = some (.int .i64 i) ∧ w.cell? ⟨g, 2, none⟩ = some (.bool false) := by
 unfold RdI at h
 exact ⟨h.cell 0, h.cell 1, h.cell 2⟩
theorem RdI.step (h : RdI w g s i) (j : Nat) : RdI (w.setCell ⟨g, 1, none⟩ (.int .i64 j)) g s j := by
 unfold RdI at h ⊢
 simpa using h.set_ 1 (.int .i64 j)
set_option maxHeartbeats 4000000 in
theorem rbyte_any (h : RdI w g s i) (hi : i < s.length) (hl : s.length ≤ 1000) :
  Calls Tryz.prog 134 #[.pointer (some ⟨g, 0, none⟩)] w fun e w' => e = .returned (.int .i64 ((s.getD i 0).toNat : Int)) ∧ RdI w' g s (i + 1) ∧ Kp [g] w w' := by
 have HCL : Hid (∀ W, BelC w W → W.cell? ⟨g, 0, none⟩ = some (.string (S s)) ∧ W.cell? ⟨g, 1, none⟩ = some (.int .i64 i)) := hid fun W hW => by
  have h1 : RdI W g s i := hW.blk h
  exact ⟨h1.cells.1, h1.cells.2.1⟩
 have HX := hid h
 have hii : (i : Int) < (s.length : Int) := by omega
 have hw1 : IntKind.i64.wrap ((i : Int) + 1) = (i : Int) + 1 := by rw [IntKind.wrap_i64]; omega
 have hw2 : IntKind.i64.wrap ((i : Int) + 1 - 1) = (i : Int) := by rw [IntKind.wrap_i64]; omega
 have hw3 : IntKind.i64.wrap (i : Int) = (i : Int) := by rw [IntKind.wrap_i64]; omega
 have hcv : IntKind.i64.wrap ((s.getD i 0).toNat : Int) = ((s.getD i 0).toNat : Int) := by
  have := (s.getD i 0).toNat_lt
  rw [IntKind.wrap_i64]; omega
 have HV : Hid (IntKind.i64.wrap ((s[i]'hi).toNat : Int) = ((s.getD i 0).toNat : Int)) := hid (by
  have e : s[i]'hi = s.getD i 0 := by simp [List.getD, hi]
  rw [e]
  exact hcv)
 have hdec : decide ((s.length : Int) ≤ (i : Int)) = false := decide_eq_false (by omega)
 have h0 : (0 : Int) ≤ (i : Int) := by omega
 have hlt := Blk.lt h
 clear h hl
 go_enter Tryz.func134, Tryz.ntmps134
 go_wp2
 refine qC_region (by kernel_rfl) (by kernel_rfl) (BelC w) (BelC.drew w) ?_
 repeat (first | (refine qC_none rfl (fun K hK => ?_); apply Exists.intro; refine ⟨fun w0 hw0 => ?_, ?_⟩; (focus (obtain ⟨q0, q1⟩ := HCL.out w0 hw0; go_simp; first | exact rfl | exact ⟨rfl, rfl⟩ | (fail))); go_simp; refine hK _ ?_; clear hK K) | (refine qC_yes _ _ _ rfl rfl (by rfl) (fun K hK => ?_); apply Exists.intro; refine ⟨fun w0 hw0 => ?_, ?_⟩; (focus (obtain ⟨q0, q1⟩ := HCL.out w0 hw0; go_simp; first | exact rfl | exact ⟨rfl, rfl⟩ | (fail))); go_simp; refine hK _ ?_; clear hK K) | (refine qC_no _ _ _ rfl rfl (by rfl) (fun K hK => ?_); go_simp; refine hK _ ?_; clear hK K) | (refine qC_undef _ _ _ rfl rfl (by rfl) (fun K hK => ?_); go_simp; refine hK _ ?_; clear hK K))
 refine qC_nil ?_
 intro w1 hw1'
 have h1 : RdI w1 g s i := hw1'.blk HX.out
 have hk1 : Kp [g] w w1 := Kp.of_below hw1'.out
 obtain ⟨c0, c1, c2⟩ := h1.cells
 have f1 := Blk.frozen h1 1
 have hlt1 := Blk.lt h1
 have H1 := hid (⟨h1, hk1⟩ : _ ∧ _)
 clear hw1' h1 hk1
 go_wp2
 obtain ⟨W2, hW2⟩ : ∃ W2, W2 = w1.setCell ⟨g, 1, none⟩ (.int .i64 ((i + 1 : Nat) : Int)) := ⟨_, rfl⟩
 have h2 : RdI W2 g s (i + 1) := by rw [hW2]; exact H1.out.1.step (i + 1)
 have hk2 : Kp [g] w W2 := by rw [hW2]; exact H1.out.2.setCell (.inl (by simp)) _
 have HW2 := hid hW2
 have ec : ((i + 1 : Nat) : Int) = (i : Int) + 1 := by omega
 rw [ec] at hW2
 rw [← hW2]
 have HCL2 : Hid (∀ W, BelC W2 W → W.cell? ⟨g, 0, none⟩ = some (.string (S s)) ∧ W.cell? ⟨g, 1, none⟩ = some (.int .i64 ((i : Int) + 1))) := hid fun W hW => by
  have h1 : RdI W g s (i + 1) := hW.blk h2
  rw [← ec]
  exact ⟨h1.cells.1, h1.cells.2.1⟩
 have H2 := hid (⟨h2, hk2⟩ : _ ∧ _)
 clear hW2 h2 hk2 ec c0 c1 c2 f1
 refine qC_region (by kernel_rfl) (by kernel_rfl) (BelC W2) (BelC.drew W2) ?_
 repeat (first | (refine qC_none rfl (fun K hK => ?_); apply Exists.intro; refine ⟨fun w0 hw0 => ?_, ?_⟩; (focus (obtain ⟨q0, q1⟩ := HCL2.out w0 hw0; go_simp; first | exact rfl | exact ⟨rfl, rfl⟩ | (fail))); go_simp; refine hK _ ?_; clear hK K) | (refine qC_yes _ _ _ rfl rfl (by rfl) (fun K hK => ?_); apply Exists.intro; refine ⟨fun w0 hw0 => ?_, ?_⟩; (focus (obtain ⟨q0, q1⟩ := HCL2.out w0 hw0; go_simp; first | exact rfl | exact ⟨rfl, rfl⟩ | (fail))); go_simp; refine hK _ ?_; clear hK K) | (refine qC_no _ _ _ rfl rfl (by rfl) (fun K hK => ?_); go_simp; refine hK _ ?_; clear hK K) | (refine qC_undef _ _ _ rfl rfl (by rfl) (fun K hK => ?_); go_simp; refine hK _ ?_; clear hK K))
 refine qC_nil ?_
 intro w3 hw3
 have H3 : Hid (RdI w3 g s (i + 1) ∧ Kp [g] w w3) := hid ⟨hw3.blk H2.out.1, H2.out.2.trans (Kp.of_below hw3.out)⟩
 clear hw3
 go_wp2
 go_ret
 exact ⟨congrArg (fun x => Ending.returned (.int .i64 x)) HV.out, H3.out⟩
set_option maxHeartbeats 4000000 in
theorem rint_any (h : RdI w g s i) (hi : i + 8 ≤ s.length) (hl : s.length ≤ 1000) :
  Calls Tryz.prog 135 #[.pointer (some ⟨g, 0, none⟩)] w fun e w' => e = .returned (.int .i64 (decI ((s.drop i).take 8))) ∧ RdI w' g s (i + 8) ∧ Kp [g] w w' := by
 have HCL : Hid (∀ W, BelC w W → W.cell? ⟨g, 0, none⟩ = some (.string (S s)) ∧ W.cell? ⟨g, 1, none⟩ = some (.int .i64 i)) := hid fun W hW => by
  have h1 : RdI W g s i := hW.blk h
  exact ⟨h1.cells.1, h1.cells.2.1⟩
 have HX := hid h
 have HC := hid (BelC.call_same (W1 := w) (fun W => readI_any s i W (by omega) hi))
 have hlt := Blk.lt h
 clear h hl hi
 go_enter Tryz.func135, Tryz.ntmps135
 go_wp2
 refine qC_region (by kernel_rfl) (by kernel_rfl) (BelC w) (BelC.drew w) ?_
 repeat (first | (refine qC_none rfl (fun K hK => ?_); apply Exists.intro; refine ⟨fun w0 hw0 => ?_, ?_⟩; (focus (obtain ⟨q0, q1⟩ := HCL.out w0 hw0; go_simp; first | exact rfl | exact ⟨rfl, rfl⟩ | (exact HC.out w0 hw0))); go_simp; refine hK _ ?_; clear hK K) | (refine qC_yes _ _ _ rfl rfl (by rfl) (fun K hK => ?_); apply Exists.intro; refine ⟨fun w0 hw0 => ?_, ?_⟩; (focus (obtain ⟨q0, q1⟩ := HCL.out w0 hw0; go_simp; first | exact rfl | exact ⟨rfl, rfl⟩ | (exact HC.out w0 hw0))); go_simp; refine hK _ ?_; clear hK K) | (refine qC_no _ _ _ rfl rfl (by rfl) (fun K hK => ?_); go_simp; refine hK _ ?_; clear hK K) | (refine qC_undef _ _ _ rfl rfl (by rfl) (fun K hK => ?_); go_simp; refine hK _ ?_; clear hK K))
 refine qC_nil ?_
 intro w1 hw1'
 have h1 : RdI w1 g s i := hw1'.blk HX.out
 have hk1 : Kp [g] w w1 := Kp.of_below hw1'.out
 obtain ⟨c0, c1, c2⟩ := h1.cells
 have f1 := Blk.frozen h1 1
 have hlt1 := Blk.lt h1
 have H1 : Hid (RdI (w1.setCell ⟨g, 1, none⟩ (.int .i64 ((i + 8 : Nat) : Int))) g s (i + 8) ∧ Kp [g] w (w1.setCell ⟨g, 1, none⟩ (.int .i64 ((i + 8 : Nat) : Int)))) := hid ⟨h1.step (i + 8), hk1.setCell (.inl (by simp)) _⟩
 have ec : ((i + 8 : Nat) : Int) = (i : Int) + 8 := by omega
 rw [ec] at H1
 clear hw1' h1 hk1 ec
 go_wp2
 go_ret
 exact ⟨rfl, H1.out⟩
end
end
section
open Go.RowKit Go.Lib
theorem below_undr {w w' : World} (h : Below w.drew.heap.size w.drew w') : Below w.heap.size w w' := ⟨h.os, h.tape, h.output, h.size, h.block⟩
theorem BelC.call2 {P : Program} {f : FuncId} {vs : Array Value} {v : Value} (hc : ∀ W, Calls P f vs W fun e w' => e = .returned v ∧ Below W.heap.size W w') (W1 W : World) (h : BelC W1 W) : Calls P f vs W fun e w' => e = .returned v ∧ BelC W1 w' ∧ Below W.heap.size W w' := by
 refine (hc W).mono ?_
 rintro e w' ⟨rfl, hb⟩
 exact ⟨rfl, h.trans (BelC.of hb), hb⟩
def NewB (W1 : World) (w : World) (g : Nat) (t : TypeId) (cs : Array Value) : Prop := Blk w g t cs ∧ W1.heap.size ≤ g
theorem NewB.of_alloc {W1 X w : World} {t : TypeId} {cs : Array Value} (hb : Below (X.alloc (.cells cs t)).heap.size (X.alloc (.cells cs t)) w) (h : BelC W1 X) : NewB W1 w X.heap.size t cs :=
 ⟨(Blk.new X t cs).below hb (Blk.new X t cs).lt, h.out.size⟩
theorem NewB.on {W1 X w : World} {g : Nat} {t : TypeId} {cs : Array Value} (h : NewB W1 X g t cs) (hb : Below X.heap.size X w) : NewB W1 w g t cs := ⟨h.1.below hb h.1.lt, h.2⟩
theorem NewB.c3 {W1 w : World} {g : Nat} {t : TypeId} {a b c : Value} (h : NewB W1 w g t #[a, b, c]) : w.cell? ⟨g, 0, none⟩ = some a ∧ w.cell? ⟨g, 1, none⟩ = some b ∧ w.cell? ⟨g, 2, none⟩ = some c ∧ w.frozen? ⟨g, 0, none⟩ = false ∧ w.frozen? ⟨g, 1, none⟩ = false ∧ w.frozen? ⟨g, 2, none⟩ = false ∧ g < w.heap.size ∧ W1.heap.size ≤ g :=
 ⟨h.1.cell 0, h.1.cell 1, h.1.cell 2, h.1.frozen 0, h.1.frozen 1, h.1.frozen 2, h.1.lt, h.2⟩
theorem fin_A {W1 w : World} {t : TypeId} (cs : Array Value) (h : BelC W1 w) : ∃ W5, W5 = w.alloc (.cells cs t) ∧ BelC W1 W5 ∧ Blk W5 w.heap.size t cs ∧ W1.heap.size ≤ w.heap.size := ⟨_, rfl, h.alloc _, Blk.new _ _ _, h.out.size⟩
theorem fin_B {W1 w : World} {g : Nat} {t : TypeId} {a b c : Value} (x y z : Value) (hz : NewB W1 w g t #[a, b, c]) (h : BelC W1 w) : ∃ W5, W5 = ((w.setCell ⟨g, 0, none⟩ x).setCell ⟨g, 1, none⟩ y).setCell ⟨g, 2, none⟩ z ∧ BelC W1 W5 ∧ Blk W5 g t #[x, y, z] ∧ W1.heap.size ≤ g := by
 refine ⟨_, rfl, BelC.set_new (BelC.set_new (BelC.set_new h _ hz.2 _) _ hz.2 _) _ hz.2 _, ?_, hz.2⟩
 simpa using ((hz.1.set_ 0 x).set_ 1 y).set_ 2 z
theorem BelC.drew_al {W1 : World} (o : Obj) : BelC W1 (W1.alloc o) := (BelC.refl W1).alloc o
theorem BelC.al_drew {W1 : World} (o : Obj) : BelC W1 ((W1.alloc o).drew) := ((BelC.refl W1).alloc o).drew_of
theorem BelC.drew_al2 {W1 : World} (o : Obj) : BelC W1 (W1.drew.alloc o) := (BelC.drew W1).alloc o
section
variable {w : World} {g : Nat} {s : Bs} {i : Nat}
set_option maxHeartbeats 8000000 in
theorem rtimeR_any (h : RdI w g s i) (hi : i + 8 ≤ s.length) (hl : s.length ≤ 1000) {x : Nat} (hT : (s.drop i).take 8 = timeB x) (hx : fnan x = false) (hx2 : x < 18446744073709551616) :
  Calls Tryz.prog 191 #[.pointer (some ⟨g, 0, none⟩)] w fun e w' => e = .returned (.float .f64 (tn x)) ∧ RdI w' g s (i + 8) ∧ Kp [g] w w' := by
 have HCL : Hid (∀ W, BelC w W → W.cell? ⟨g, 0, none⟩ = some (.string (S s)) ∧ W.cell? ⟨g, 1, none⟩ = some (.int .i64 i)) := hid fun W hW => by
  have h1 : RdI W g s i := hW.blk h
  exact ⟨h1.cells.1, h1.cells.2.1⟩
 have HX := hid h
 have hw1 : IntKind.i64.wrap ((s.length : Int) - (i : Int)) = (s.length : Int) - (i : Int) := by rw [IntKind.wrap_i64]; omega
 have hw2 : IntKind.i64.wrap ((i : Int) + 8) = (i : Int) + 8 := by rw [IntKind.wrap_i64]; omega
 have hdec : decide ((s.length : Int) - (i : Int) < 8) = false := decide_eq_false (by omega)
 have hr1 : (0 : Int) ≤ (i : Int) := by omega
 have hr2 : (i : Int) + 8 ≤ (s.length : Int) := by omega
 have hr3 : (i : Int) ≤ (i : Int) + 8 := by omega
 have htk : (s.drop i).take (((i : Int) + 8).toNat - i) = timeB x := by
  rw [← hT]; congr 1; omega
 have HI := hid (BelC.call2 (fun W => packI_any 0 W (by omega) (by omega)))
 have HRD := hid (BelC.call2 (fun W => stampread_any x 0 0 hx hx2 (by omega) (by omega) W))
 have hlt := Blk.lt h
 clear h hl hi hT hx hx2
 go_enter Tryz.func191, Tryz.ntmps191
 go_wp2
 refine qC_region (by kernel_rfl) (by kernel_rfl) (BelC w) (BelC.drew w) ?_
 repeat (first | (refine qC_none rfl (fun K hK => ?_); apply Exists.intro; refine ⟨fun w0 hw0 => ?_, ?_⟩; (focus (obtain ⟨q0, q1⟩ := HCL.out w0 hw0; go_simp; first | exact rfl | exact ⟨rfl, rfl⟩ | (fail))); go_simp; refine hK _ ?_; clear hK K) | (refine qC_yes _ _ _ rfl rfl (by rfl) (fun K hK => ?_); apply Exists.intro; refine ⟨fun w0 hw0 => ?_, ?_⟩; (focus (obtain ⟨q0, q1⟩ := HCL.out w0 hw0; go_simp; first | exact rfl | exact ⟨rfl, rfl⟩ | (fail))); go_simp; refine hK _ ?_; clear hK K) | (refine qC_no _ _ _ rfl rfl (by rfl) (fun K hK => ?_); go_simp; refine hK _ ?_; clear hK K) | (refine qC_undef _ _ _ rfl rfl (by rfl) (fun K hK => ?_); go_simp; refine hK _ ?_; clear hK K))
 refine qC_nil ?_
 intro w1 hw1'
 have HW1 := hid hw1'
 have HSK : Hid (∀ W, BelC w1 W → W.cell? ⟨g, 0, none⟩ = some (.string (S s)) ∧ W.cell? ⟨g, 1, none⟩ = some (.int .i64 i)) := hid fun W hW => HCL.out W (hw1'.trans hW)
 clear hw1'
 go_wp2
 go_region_held3 (fun W => W.cell? ⟨g, 0, none⟩ = some (.string (S s)) ∧ W.cell? ⟨g, 1, none⟩ = some (.int .i64 i)) (first | exact HSK.out _ (BelC.set_new (BelC.set_new (BelC.set_new (by assumption) _ zq _) _ zq _) _ zq _) | exact HSK.out _ (by first | assumption | exact BelC.refl _ | exact BelC.drew _ | exact BelC.alloc (by assumption) _ | exact BelC.drew_al _ | exact BelC.al_drew _ | exact BelC.drew_al2 _))
  (first
   | (go_at_call 109; refine (HI.out w1 _ (by first | assumption | exact BelC.refl _ | exact BelC.drew _ | exact BelC.alloc (by assumption) _ | exact BelC.drew_al _ | exact BelC.al_drew _ | exact BelC.drew_al2 _)).mono ?_; rintro e wN ⟨rfl, hBN, hbN⟩; have hz := NewB.of_alloc (W1 := w1) (by first | with_reducible exact hbN | with_reducible exact below_undr hbN) (by first | assumption | exact BelC.refl _ | exact BelC.drew _); obtain ⟨z0, z1, z2, zf0, zf1, zf2, zl, zq⟩ := hz.c3)
   | (go_at_call 109; refine (HI.out w1 _ (by first | assumption | exact BelC.refl _ | exact BelC.drew _ | exact BelC.alloc (by assumption) _ | exact BelC.drew_al _ | exact BelC.al_drew _ | exact BelC.drew_al2 _)).mono ?_; rintro e wN ⟨rfl, hBN, hbN⟩; have hz' := NewB.on hz hbN; have hz := hz'; obtain ⟨z0, z1, z2, zf0, zf1, zf2, zl, zq⟩ := hz.c3)
   | (go_at_call 109; refine (HI.out w1 _ (by first | assumption | exact BelC.refl _ | exact BelC.drew _ | exact BelC.alloc (by assumption) _ | exact BelC.drew_al _ | exact BelC.al_drew _ | exact BelC.drew_al2 _)).mono ?_; rintro e wN ⟨rfl, hBN, hbN⟩; skip)
   | (go_at_call 225; refine (HRD.out w1 _ (by first | assumption | exact BelC.refl _ | exact BelC.drew _ | exact BelC.alloc (by assumption) _ | exact BelC.drew_al _ | exact BelC.al_drew _ | exact BelC.drew_al2 _)).mono ?_; rintro e wN ⟨rfl, hBN, hbN⟩; have hz := NewB.of_alloc (W1 := w1) (by first | with_reducible exact hbN | with_reducible exact below_undr hbN) (by first | assumption | exact BelC.refl _ | exact BelC.drew _); obtain ⟨z0, z1, z2, zf0, zf1, zf2, zl, zq⟩ := hz.c3)
   | (go_at_call 225; refine (HRD.out w1 _ (by first | assumption | exact BelC.refl _ | exact BelC.drew _ | exact BelC.alloc (by assumption) _ | exact BelC.drew_al _ | exact BelC.al_drew _ | exact BelC.drew_al2 _)).mono ?_; rintro e wN ⟨rfl, hBN, hbN⟩; have hz' := NewB.on hz hbN; have hz := hz'; obtain ⟨z0, z1, z2, zf0, zf1, zf2, zl, zq⟩ := hz.c3)
   | (go_at_call 225; refine (HRD.out w1 _ (by first | assumption | exact BelC.refl _ | exact BelC.drew _ | exact BelC.alloc (by assumption) _ | exact BelC.drew_al _ | exact BelC.al_drew _ | exact BelC.drew_al2 _)).mono ?_; rintro e wN ⟨rfl, hBN, hbN⟩; skip))
 all_goals
  first
   | (obtain ⟨W5, hW5, hb5, hz5, hq5⟩ := fin_B (.float .f64 (tn x)) (.int .i64 0) (.int .i64 0) hz hBN; rw [← hW5]; clear hW5)
   | (obtain ⟨W5, hW5, hb5, hz5, hq5⟩ := fin_A (t := 65) #[.float .f64 (tn x), .int .i64 0, .int .i64 0] hBN; rw [← hW5]; clear hW5)
  have hb6 : BelC w W5 := HW1.out.trans hb5
  have h6 : RdI W5 g s i := hb6.blk HX.out
  obtain ⟨c0, c1, c2⟩ := h6.cells
  have f1 := Blk.frozen h6 1
  have hlt6 := Blk.lt h6
  have hgq : g < w1.heap.size := Nat.lt_of_lt_of_le hlt HW1.out.out.size
  have y0 := hz5.cell 0
  simp only [List.getElem?_toArray, List.getElem?_cons_zero] at y0
  have hlz := hz5.lt
  have H1 : Hid (RdI (W5.setCell ⟨g, 1, none⟩ (.int .i64 ((i + 8 : Nat) : Int))) g s (i + 8) ∧ Kp [g] w (W5.setCell ⟨g, 1, none⟩ (.int .i64 ((i + 8 : Nat) : Int)))) := hid ⟨h6.step (i + 8), (Kp.of_below hb6.out).setCell (.inl (by simp)) _⟩
  have ec : ((i + 8 : Nat) : Int) = (i : Int) + 8 := by omega
  rw [ec] at H1
  clear ec hb6 h6 hb5 hz5 hBN hbN
  go_wp2
  go_ret
  exact ⟨rfl, H1.out⟩
end
end
section
open Go.RowKit Go.Lib
section
variable {w : World} {g : Nat} {s : Bs}
set_option maxHeartbeats 8000000 in
theorem rend_any (h : RdI w g s s.length) (hl : s.length ≤ 1000) (ok : Bool) :
  Calls Tryz.prog 136 #[.pointer (some ⟨g, 0, none⟩), .bool ok] w fun e w' => e = .returned (.int .i64 (if ok = true then 0 else 6)) ∧ Below w.heap.size w w' := by
 have HCL : Hid (∀ W, BelC w W → W.cell? ⟨g, 0, none⟩ = some (.string (S s)) ∧ W.cell? ⟨g, 1, none⟩ = some (.int .i64 s.length)) := hid fun W hW => by
  have h1 : RdI W g s s.length := hW.blk h
  exact ⟨h1.cells.1, h1.cells.2.1⟩
 obtain ⟨c0, c1, c2⟩ := h.cells
 have hdec : decide ((s.length : Int) < (s.length : Int)) = false := decide_eq_false (by omega)
 clear h hl
 cases ok with
 | true =>
  go_enter Tryz.func136, Tryz.ntmps136
  go_wp2
  refine qC_region (by kernel_rfl) (by kernel_rfl) (BelC w) (BelC.drew w) ?_
  repeat (first | (refine qC_none rfl (fun K hK => ?_); apply Exists.intro; refine ⟨fun w0 hw0 => ?_, ?_⟩; (focus (obtain ⟨q0, q1⟩ := HCL.out w0 hw0; go_simp; first | exact rfl | exact ⟨rfl, rfl⟩ | (fail))); go_simp; refine hK _ ?_; clear hK K) | (refine qC_yes _ _ _ rfl rfl (by rfl) (fun K hK => ?_); apply Exists.intro; refine ⟨fun w0 hw0 => ?_, ?_⟩; (focus (obtain ⟨q0, q1⟩ := HCL.out w0 hw0; go_simp; first | exact rfl | exact ⟨rfl, rfl⟩ | (fail))); go_simp; refine hK _ ?_; clear hK K) | (refine qC_no _ _ _ rfl rfl (by rfl) (fun K hK => ?_); go_simp; refine hK _ ?_; clear hK K) | (refine qC_undef _ _ _ rfl rfl (by rfl) (fun K hK => ?_); go_simp; refine hK _ ?_; clear hK K))
  refine qC_nil ?_
  intro w1 hw1
  have HB := hid hw1.out
  clear hw1
  go_wp2
  go_ret
  exact ⟨rfl, HB.out⟩
 | false =>
  go_enter Tryz.func136, Tryz.ntmps136
  go_wp2
  refine qC_region (by kernel_rfl) (by kernel_rfl) (BelC w) (BelC.drew w) ?_
  repeat (first | (refine qC_none rfl (fun K hK => ?_); apply Exists.intro; refine ⟨fun w0 hw0 => ?_, ?_⟩; (focus (obtain ⟨q0, q1⟩ := HCL.out w0 hw0; go_simp; first | exact rfl | exact ⟨rfl, rfl⟩ | (fail))); go_simp; refine hK _ ?_; clear hK K) | (refine qC_yes _ _ _ rfl rfl (by rfl) (fun K hK => ?_); apply Exists.intro; refine ⟨fun w0 hw0 => ?_, ?_⟩; (focus (obtain ⟨q0, q1⟩ := HCL.out w0 hw0; go_simp; first | exact rfl | exact ⟨rfl, rfl⟩ | (fail))); go_simp; refine hK _ ?_; clear hK K) | (refine qC_no _ _ _ rfl rfl (by rfl) (fun K hK => ?_); go_simp; refine hK _ ?_; clear hK K) | (refine qC_undef _ _ _ rfl rfl (by rfl) (fun K hK => ?_); go_simp; refine hK _ ?_; clear hK K))
  refine qC_nil ?_
  intro w1 hw1
  have HB := hid hw1.out
  clear hw1
  go_wp2
  go_ret
  exact ⟨rfl, HB.out⟩
structure DstI (df : Nat) (bd caps : Array Value) (g : Nat) (s : Bs) (i j : Nat) (d : Int) (K : World → Prop) : Prop where
 en : ∀ vs W, Sem.run Tryz.prog (callFunc df vs) W = .ok (.enter df vs) W
 go : ∀ W, RdI W g s i → K W → Calls Tryz.prog df (bd ++ caps) W fun e w' => e = .returned (.int .i64 d) ∧ RdI w' g s j ∧ Kp [g] W w'
 keep : ∀ W W', K W → Kp [g] W W' → K W'
structure EvW (w W : World) (g : Nat) (s : Bs) (i : Nat) (cs : List Value) : Prop where
 rd : RdI W g s i
 ev : Blk W (w.heap.size + 1) 67 cs.toArray
 res : Blk W w.heap.size 67 #[.float .f64 0, .int .i64 0, .int .i64 0, .int .i64 0, .int .i64 0]
 kp : Kp [g] w W
 lt : g < w.heap.size
theorem EvW.call {w W W' : World} {g : Nat} {s : Bs} {i i' : Nat} {cs : List Value} (h : EvW w W g s i cs) (hr : RdI W' g s i') (hk : Kp [g] W W') : EvW w W' g s i' cs := by
 have := h.lt
 exact ⟨hr, h.ev.kp hk (by simp; omega), h.res.kp hk (by simp; omega), h.kp.trans hk, h.lt⟩
theorem EvW.put {w W : World} {g : Nat} {s : Bs} {i : Nat} {cs : List Value} (h : EvW w W g s i cs) (k : Nat) (u : Value) : EvW w (W.setCell ⟨w.heap.size + 1, k, none⟩ u) g s i (cs.set k u) := by
 have hlt := h.lt
 refine ⟨?_, by simpa using h.ev.set_ k u, h.res.far (by simp) u, h.kp.setCell (.inr (Nat.le_succ _)) u, h.lt⟩
 exact Blk.far h.rd (by show g ≠ w.heap.size + 1; omega) u
theorem EvW.c5 {w W : World} {g : Nat} {s : Bs} {i : Nat} {a b c d e : Value} (h : EvW w W g s i [a, b, c, d, e]) : W.cell? ⟨w.heap.size + 1, 0, none⟩ = some a ∧ W.cell? ⟨w.heap.size + 1, 1, none⟩ = some b ∧ W.cell? ⟨w.heap.size + 1, 2, none⟩ = some c ∧ W.cell? ⟨w.heap.size + 1, 3, none⟩ = some d ∧ W.cell? ⟨w.heap.size + 1, 4, none⟩ = some e ∧ w.heap.size + 1 < W.heap.size ∧ (∀ k, W.frozen? ⟨w.heap.size + 1, k, none⟩ = false) :=
 ⟨h.ev.cell 0, h.ev.cell 1, h.ev.cell 2, h.ev.cell 3, h.ev.cell 4, h.ev.lt, fun k => h.ev.frozen k⟩
set_option maxHeartbeats 16000000 in
theorem revent_any {df : Nat} {bd caps : Array Value} {i j : Nat} {d : Int} {K : World → Prop} (h : RdI w g s i) (hK : K w) (hD : DstI df bd caps g s (i + 17) j d K) (hj : j + 8 ≤ s.length) (hij : i + 17 ≤ j) (hl : s.length ≤ 1000) {e : Ev} (hr : e.right) (ho : e.ok)
  (h1 : (s.drop i).take 8 = timeB e.t) (h2 : (s.getD (i + 8) 0) = UInt8.ofNat (e.src + 1).toNat) (h3 : (s.drop (i + 9)).take 8 = encI e.n) (h4 : (s.drop j).take 8 = encI e.pay) :
  Calls Tryz.prog 157 #[.pointer (some ⟨g, 0, none⟩), .func (.func df) bd caps] w fun r w' => r = .returned (evV { e.nrm with dst := d }) ∧ RdI w' g s (j + 8) ∧ Kp [g] w w' := by
 have HT := hid (fun W (hW : RdI W g s i) => rtimeR_any hW (by omega) hl h1 hr.1 ho.1)
 have HB := hid (fun W (hW : RdI W g s (i + 8)) => rbyte_any hW (by omega) hl)
 rw [h2] at HB
 have hsb : ((UInt8.ofNat (e.src + 1).toNat).toNat : Int) = e.src + 1 := by have := hr.2.1; have := hr.2.2.1; simp; omega
 rw [hsb] at HB
 have HN := hid (fun W (hW : RdI W g s (i + 9)) => rint_any hW (by omega) hl)
 rw [h3, decI_encI ho.2.2.1.1 ho.2.2.1.2] at HN
 have HP := hid (fun W (hW : RdI W g s j) => rint_any hW (by omega) hl)
 rw [h4, decI_encI ho.2.2.2.2.1 ho.2.2.2.2.2] at HP
 have hen := hD.en
 have hw1 : IntKind.i64.wrap (e.src + 1 - 1) = e.src := by have := hr.2.1; have := hr.2.2.1; rw [IntKind.wrap_i64]; omega
 have hw2 : IntKind.i64.wrap e.src = e.src := by have := hr.2.1; have := hr.2.2.1; rw [IntKind.wrap_i64]; omega
 have HX := hid (⟨h, hK, hD⟩ : _ ∧ _ ∧ _)
 have hgl := Blk.lt h
 unfold evV
 clear h hK hD hr ho h1 h2 h3 h4 hsb hj hij hl
 obtain ⟨W2, hW2⟩ : ∃ W2, W2 = (w.alloc (.cells #[.float .f64 0, .int .i64 0, .int .i64 0, .int .i64 0, .int .i64 0] 67)).alloc (.cells #[.float .f64 0, .int .i64 0, .int .i64 0, .int .i64 0, .int .i64 0] 67) := ⟨_, rfl⟩
 have hb2 : Below w.heap.size w W2 := by rw [hW2]; exact ((Below.refl _ w).alloc (Nat.le_refl _) _).alloc (by simp) _
 have hE2 : EvW w W2 g s i [.float .f64 0, .int .i64 0, .int .i64 0, .int .i64 0, .int .i64 0] := by
  refine ⟨Blk.below HX.out.1 hb2 hgl, ?_, ?_, Kp.of_below hb2, hgl⟩
  ·rw [hW2]
   have := Blk.new (w.alloc (.cells #[.float .f64 0, .int .i64 0, .int .i64 0, .int .i64 0, .int .i64 0] 67)) 67 #[.float .f64 0, .int .i64 0, .int .i64 0, .int .i64 0, .int .i64 0]
   simpa using this
  ·rw [hW2]
   exact (Blk.new w 67 #[.float .f64 0, .int .i64 0, .int .i64 0, .int .i64 0, .int .i64 0]).alloc _
 have HT2 := hid (HT.out W2 hE2.rd)
 rw [hW2] at HT2
 have HE2 := hid hE2
 have HWW := hid hW2
 clear hb2 hE2 hW2
 go_enter Tryz.func157, Tryz.ntmps157
 go_wp2_with fail
 (with_reducible refine HT2.out.mono ?_)
 rintro r W3 ⟨rfl, hr3, hk3⟩
 rw [← HWW.out] at hk3
 have hE3 := HE2.out.call hr3 hk3
 obtain ⟨x0, x1, x2, x3, x4, xl, xf⟩ := hE3.c5
 have xf0 := xf 0
 have HE3 := hid hE3
 have HB3 := hid (HB.out _ (hE3.put 0 (.float .f64 (tn e.t))).rd)
 clear hr3 hk3 hE3 xf
 go_wp2_with fail
 (with_reducible refine HB3.out.mono ?_)
 rintro r W4 ⟨rfl, hr4, hk4⟩
 have hE4 := (HE3.out.put 0 (.float .f64 (tn e.t))).call hr4 hk4
 simp only [List.set_cons_zero, List.set_cons_succ] at hE4
 obtain ⟨y0, y1, y2, y3, y4, yl, yf⟩ := hE4.c5
 have yf1 := yf 1
 have HE4 := hid hE4
 have HN4 := hid (HN.out _ (hE4.put 1 (.int .i64 e.src)).rd)
 clear hr4 hk4 hE4 yf x0 x1 x2 x3 x4 xl xf0 HB3 HT2
 go_wp2_with fail
 (with_reducible refine HN4.out.mono ?_)
 rintro r W5 ⟨rfl, hr5, hk5⟩
 have hE5 := (HE4.out.put 1 (.int .i64 e.src)).call hr5 hk5
 simp only [List.set_cons_zero, List.set_cons_succ] at hE5
 obtain ⟨x0, x1, x2, x3, x4, xl, xf⟩ := hE5.c5
 have xf2 := xf 2
 have HE5 := hid hE5
 have hE5' := hE5.put 2 (.int .i64 e.n)
 have HD5 := hid (HX.out.2.2.go _ hE5'.rd (HX.out.2.2.keep _ _ HX.out.2.1 hE5'.kp))
 clear hr5 hk5 hE5 hE5' xf y0 y1 y2 y3 y4 yl yf1 HN4
 go_wp2_with fail
 (with_reducible refine HD5.out.mono ?_)
 rintro r W6 ⟨rfl, hr6, hk6⟩
 have hE6 := (HE5.out.put 2 (.int .i64 e.n)).call hr6 hk6
 simp only [List.set_cons_zero, List.set_cons_succ] at hE6
 obtain ⟨y0, y1, y2, y3, y4, yl, yf⟩ := hE6.c5
 have yf3 := yf 3
 have HE6 := hid hE6
 have HP6 := hid (HP.out _ (hE6.put 3 (.int .i64 d)).rd)
 clear hr6 hk6 hE6 yf x0 x1 x2 x3 x4 xl xf2 HD5
 go_wp2_with fail
 (with_reducible refine HP6.out.mono ?_)
 rintro r W7 ⟨rfl, hr7, hk7⟩
 have hE7 := (HE6.out.put 3 (.int .i64 d)).call hr7 hk7
 simp only [List.set_cons_zero, List.set_cons_succ] at hE7
 obtain ⟨x0, x1, x2, x3, x4, xl, xf⟩ := hE7.c5
 have xf4 := xf 4
 have z0 : W7.cell? ⟨w.heap.size, 0, none⟩ = some (.float .f64 0) := hE7.res.cell 0
 have z1 : W7.cell? ⟨w.heap.size, 1, none⟩ = some (.int .i64 0) := hE7.res.cell 1
 have z2 : W7.cell? ⟨w.heap.size, 2, none⟩ = some (.int .i64 0) := hE7.res.cell 2
 have z3 : W7.cell? ⟨w.heap.size, 3, none⟩ = some (.int .i64 0) := hE7.res.cell 3
 have z4 : W7.cell? ⟨w.heap.size, 4, none⟩ = some (.int .i64 0) := hE7.res.cell 4
 have zf0 := hE7.res.frozen 0
 have zf1 := hE7.res.frozen 1
 have zf2 := hE7.res.frozen 2
 have zf3 := hE7.res.frozen 3
 have zf4 := hE7.res.frozen 4
 have zl := hE7.res.lt
 have HE7 := hid hE7
 clear hr7 hk7 hE7 xf y0 y1 y2 y3 y4 yl yf3 HP6
 go_wp2
 have hr8 := ((((((HE7.out.put 4 (.int .i64 e.pay)).res.set_ 0 (.float .f64 (tn e.t))).set_ 1 (.int .i64 e.src)).set_ 2 (.int .i64 e.n)).set_ 3 (.int .i64 d)).set_ 4 (.int .i64 e.pay))
 have v0 := hr8.cell 0
 have v1 := hr8.cell 1
 have v2 := hr8.cell 2
 have v3 := hr8.cell 3
 have v4 := hr8.cell 4
 simp only [List.setIfInBounds_toArray, List.set_cons_zero, List.set_cons_succ, List.getElem?_toArray, List.getElem?_cons_zero, List.getElem?_cons_succ] at v0 v1 v2 v3 v4
 refine bodyPost_ret (v := .agg #[.float .f64 (tn e.t), .int .i64 e.src, .int .i64 e.n, .int .i64 d, .int .i64 e.pay]) (by simp [results, Tryz.results157, go_sem, v0, v1, v2, v3, v4]) rfl ?_
 have h8 := HE7.out.put 4 (.int .i64 e.pay)
 have hgne : g ≠ w.heap.size := Nat.ne_of_lt hgl
 refine ⟨rfl, ?_, ?_⟩
 ·exact Blk.far (Blk.far (Blk.far (Blk.far (Blk.far h8.rd hgne _) hgne _) hgne _) hgne _) hgne _
 ·exact ((((h8.kp.setCell (.inr (Nat.le_refl _)) _).setCell (.inr (Nat.le_refl _)) _).setCell (.inr (Nat.le_refl _)) _).setCell (.inr (Nat.le_refl _)) _).setCell (.inr (Nat.le_refl _)) _
end
end
section
open Go.RowKit Go.Lib
set_option maxHeartbeats 1000000 in
theorem of1_any (db : Nat) (d : Int) (W : World) (h : W.cell? ⟨db, 0, none⟩ = some (.int .i64 d)) : Calls Tryz.prog 158 (#[] ++ #[.pointer (some ⟨db, 0, none⟩)]) W fun e w' => e = .returned (.int .i64 d) ∧ W = w' := by
 go_enter Tryz.func158, Tryz.ntmps158
 go_wp2
 go_ret
 exact ⟨rfl, rfl⟩
theorem dst_of {g : Nat} {s : Bs} {i db : Nat} {d : Int} (hne : db ≠ g) : DstI 158 #[] #[.pointer (some ⟨db, 0, none⟩)] g s i i d (fun W => W.cell? ⟨db, 0, none⟩ = some (.int .i64 d)) where
 en := fun vs W => Tryz.call158 vs W
 go := fun W h hK => by
  refine (of1_any db d W hK).mono ?_
  rintro e w' ⟨rfl, rfl⟩
  exact ⟨rfl, h, Kp.refl _ _⟩
 keep := fun W W' hK hk => (hk.cell (p := ⟨db, 0, none⟩) (block_lt_of_cell hK) (by simpa using hne)).trans hK
theorem keyB_getD (e : Ev) : (keyB e).getD 8 0 = UInt8.ofNat (e.src + 1).toNat := by unfold keyB; simp [List.getD, List.getElem?_append, oneB]
theorem keyB_time (e : Ev) : (keyB e).take 8 = timeB e.t := by unfold keyB; simp [List.take_append]
theorem keyB_n (e : Ev) : ((keyB e).drop 9).take 8 = encI e.n := mid_eq (by simp) (by simp)
theorem keyB_pay (e : Ev) : ((keyB e).drop 17).take 8 = encI e.pay := by
 have := mid_eq (a := timeB e.t ++ oneB (e.src + 1) ++ encI e.n) (b := encI e.pay) (c := []) (n := 17) (m := 8) (by simp) (by simp)
 rwa [List.append_nil] at this
set_option maxHeartbeats 8000000 in
theorem recof_any (e : Ev) (hr : e.right) (ho : e.ok) (d : Int) (hd : 0 ≤ d ∧ d < 6) (w : World) :
  Calls Tryz.prog 113 #[.string (S (keyB e)), .int .i64 d] w fun r w' => r = .returned (.tuple #[evV { e.nrm with dst := d }, .int .i64 0]) ∧ Below w.heap.size w w' := by
 obtain ⟨s, hs⟩ : ∃ s, s = keyB e := ⟨_, rfl⟩
 have hsl : s.length = 25 := by rw [hs]; simp
 have hq : ({ e.nrm with dst := d } : Ev).right := by
  have := Ev.nrm_right hr
  exact ⟨this.1, this.2.1, this.2.2.1, this.2.2.2.1, this.2.2.2.2.1, hd.1, hd.2⟩
 obtain ⟨y, hy⟩ : ∃ y : Ev, y = { e.nrm with dst := d } := ⟨_, rfl⟩
 rw [← hy] at hq ⊢
 have HR := hid (fun W => rightv_any y W)
 rw [decide_eq_true hq] at HR
 have hg : w.heap.size + 1 + 1 ≠ w.heap.size := by omega
 have HEV := hid (fun W (hW : RdI W (w.heap.size + 1 + 1) s 0) (hK : W.cell? ⟨w.heap.size, 0, none⟩ = some (.int .i64 d)) => revent_any (j := 17) hW hK (dst_of (i := 0 + 17) hg.symm) (by omega) (by omega) (by omega) hr ho (by rw [hs, List.drop_zero]; exact keyB_time e) (by rw [hs]; exact keyB_getD e) (by rw [hs]; exact keyB_n e) (by rw [hs]; exact keyB_pay e))
 rw [← hy] at HEV
 have HEND := hid (fun W (hW : RdI W (w.heap.size + 1 + 1) s s.length) => rend_any hW (by omega) true)
 rw [if_pos rfl] at HEND
 obtain ⟨W2, hW2⟩ : ∃ W2, W2 = ((w.alloc (.cells #[.int .i64 d] 3)).alloc (.cells #[.float .f64 0, .int .i64 0, .int .i64 0, .int .i64 0, .int .i64 0] 67)).alloc (.cells #[.string (S s), .int .i64 0, .bool false] 246) := ⟨_, rfl⟩
 have hb2 : Below w.heap.size w W2 := by rw [hW2]; exact (((Below.refl _ w).alloc (Nat.le_refl _) _).alloc (by simp) _).alloc (by simp; omega) _
 have hR2 : RdI W2 (w.heap.size + 1 + 1) s 0 := by
  rw [hW2]
  have := Blk.new ((w.alloc (.cells #[.int .i64 d] 3)).alloc (.cells #[.float .f64 0, .int .i64 0, .int .i64 0, .int .i64 0, .int .i64 0] 67)) 246 #[.string (S s), .int .i64 0, .bool false]
  unfold RdI
  simpa using this
 have hK2 : W2.cell? ⟨w.heap.size, 0, none⟩ = some (.int .i64 d) := by
  rw [hW2]
  exact (((Blk.new w 3 #[.int .i64 d]).alloc _).alloc _).cell 0
 have hB2 : Blk W2 (w.heap.size + 1) 67 #[.float .f64 0, .int .i64 0, .int .i64 0, .int .i64 0, .int .i64 0] := by
  rw [hW2]
  have := (Blk.new (w.alloc (.cells #[.int .i64 d] 3)) 67 #[.float .f64 0, .int .i64 0, .int .i64 0, .int .i64 0, .int .i64 0]).alloc (.cells #[.string (S s), .int .i64 0, .bool false] 246)
  simpa using this
 have HE2 := hid (HEV.out W2 hR2 hK2)
 rw [hW2] at HE2
 have HWW := hid hW2
 have HX := hid (⟨hb2, hB2⟩ : _ ∧ _)
 have HSL := hid hsl
 rw [← hs]
 clear hr ho hd hs hsl hq hy hg hb2 hR2 hK2 hB2 hW2 HEV
 unfold evV at HE2 HR ⊢
 go_enter Tryz.func113, Tryz.ntmps113
 go_wp2_with fail
 (with_reducible refine HE2.out.mono ?_)
 rintro r W3 ⟨rfl, hr3, hk3⟩
 rw [← HWW.out] at hk3
 have hB3 := HX.out.2.kp hk3 (by simp)
 have hb03 : Below w.heap.size w W3 := HX.out.1.trans (hk3.to_below HX.out.1.size (fun x hx => by simp at hx; omega))
 have hr3' : RdI W3 (w.heap.size + 1 + 1) s s.length := by rw [HSL.out]; exact hr3
 have H3 := hid (⟨hr3', hb03, hB3⟩ : _ ∧ _ ∧ _)
 have hl3 := Blk.lt hr3
 clear hr3 hk3 hB3 hb03 hr3'
 go_wp2_with fail
 (with_reducible refine (HR.out _).mono ?_)
 rintro r W5 ⟨rfl, hb5⟩
 obtain ⟨hr3, hb03, hB3⟩ := H3.out
 have hY := (Blk.new W3 67 #[.float .f64 y.t, .int .i64 y.src, .int .i64 y.n, .int .i64 y.dst, .int .i64 y.pay]).below hb5 (Blk.new _ _ _).lt
 have hb35 : Below W3.heap.size W3 W5 := ((Below.refl _ W3).alloc (Nat.le_refl _) _).trans (hb5.mono (by simp))
 have hr5 : RdI W5 (w.heap.size + 1 + 1) s s.length := Blk.below hr3 hb35 hl3
 have hB5 := hB3.below hb35 hB3.lt
 have HE5 := hid (HEND.out W5 hr5)
 have H5 := hid (⟨hb03.trans (hb35.mono hb03.size), hY, hB5⟩ : _ ∧ _ ∧ _)
 clear hr3 hb03 hB3 hY hb35 hr5 hB5 hb5
 go_wp2_with fail
 (with_reducible refine HE5.out.mono ?_)
 rintro r W6 ⟨rfl, hb6⟩
 obtain ⟨hb05, hY5, hB5⟩ := H5.out
 have hY6 := hY5.below hb6 hY5.lt
 have hB6 := hB5.below hb6 hB5.lt
 have hb06 := hb05.trans (hb6.mono hb05.size)
 have y0 : W6.cell? ⟨W3.heap.size, 0, none⟩ = some (.float .f64 y.t) := hY6.cell 0
 have y1 : W6.cell? ⟨W3.heap.size, 1, none⟩ = some (.int .i64 y.src) := hY6.cell 1
 have y2 : W6.cell? ⟨W3.heap.size, 2, none⟩ = some (.int .i64 y.n) := hY6.cell 2
 have y3 : W6.cell? ⟨W3.heap.size, 3, none⟩ = some (.int .i64 y.dst) := hY6.cell 3
 have y4 : W6.cell? ⟨W3.heap.size, 4, none⟩ = some (.int .i64 y.pay) := hY6.cell 4
 have b0 : W6.cell? ⟨w.heap.size + 1, 0, none⟩ = some (.float .f64 0) := hB6.cell 0
 have b1 : W6.cell? ⟨w.heap.size + 1, 1, none⟩ = some (.int .i64 0) := hB6.cell 1
 have b2 : W6.cell? ⟨w.heap.size + 1, 2, none⟩ = some (.int .i64 0) := hB6.cell 2
 have b3 : W6.cell? ⟨w.heap.size + 1, 3, none⟩ = some (.int .i64 0) := hB6.cell 3
 have b4 : W6.cell? ⟨w.heap.size + 1, 4, none⟩ = some (.int .i64 0) := hB6.cell 4
 have bf0 := hB6.frozen 0
 have bf1 := hB6.frozen 1
 have bf2 := hB6.frozen 2
 have bf3 := hB6.frozen 3
 have bf4 := hB6.frozen 4
 have bl := hB6.lt
 have yl := hY6.lt
 have H6 := hid (⟨hb06, hB6⟩ : _ ∧ _)
 clear hb05 hY5 hB5 hY6 hB6 hb06 hb6
 go_wp2
 have hr8 := (((((H6.out.2.set_ 0 (.float .f64 y.t)).set_ 1 (.int .i64 y.src)).set_ 2 (.int .i64 y.n)).set_ 3 (.int .i64 y.dst)).set_ 4 (.int .i64 y.pay))
 have v0 := hr8.cell 0
 have v1 := hr8.cell 1
 have v2 := hr8.cell 2
 have v3 := hr8.cell 3
 have v4 := hr8.cell 4
 simp only [List.setIfInBounds_toArray, List.set_cons_zero, List.set_cons_succ, List.getElem?_toArray, List.getElem?_cons_zero, List.getElem?_cons_succ] at v0 v1 v2 v3 v4
 refine bodyPost_ret (v := .tuple #[.agg #[.float .f64 y.t, .int .i64 y.src, .int .i64 y.n, .int .i64 y.dst, .int .i64 y.pay], .int .i64 0]) (by simp [results, Tryz.results113, go_sem, v0, v1, v2, v3, v4]) rfl ?_
 exact ⟨rfl, ((((H6.out.1.setCell (Nat.le_succ _) _).setCell (Nat.le_succ _) _).setCell (Nat.le_succ _) _).setCell (Nat.le_succ _) _).setCell (Nat.le_succ _) _⟩
end
end Go.Proofs.YtnnghcooidjlhaaGreat
