/- Parts of the proof: Lnb Eg Ex. -/
import Derived.Test.YtfkoaooceickiaaGreatH03
import Derived.Test.YtfkoaooceickiaaGreatH17
import Derived.Test.YtfkoaooceickiaaGreatH18
import Derived.Test.YtfkoaooceickiaaGreatH19
set_option linter.all false
set_option maxRecDepth 100000
namespace Go.Proofs.YtfkoaooceickiaaGreat
section
open Go.RowKit Go.Lib
theorem lplace_nil (w : World) : Calls Tryz.prog 10 #[.pointer none] w fun e w' => e = .returned (.tuple #[.agg #[.string ⟨#[]⟩, .int .i64 0, .slice none 0 0, .int .i64 0, .int .i64 0], .int .i64 1]) ∧ Below w.heap.size w w' :=
 Kv.plain_run Kv.lpatop rfl rfl (by decide +kernel) (args' := [.pointer none]) (fun ρ => ⟨_, _, rfl, rfl, rfl⟩) (by rfl) w
theorem lnext_nil (w : World) : Calls Tryz.prog 11 #[.pointer none] w fun e w' => e = .returned (.tuple #[.agg #[.float .f64 0, .int .i64 0, .int .i64 0, .int .i64 0, .int .i64 0], .bool false, .int .i64 1]) ∧ Below w.heap.size w w' :=
 Kv.plain_run Kv.lpbtop rfl rfl (by decide +kernel) (args' := [.pointer none]) (fun ρ => ⟨_, _, rfl, rfl, rfl⟩) (by rfl) w
theorem lstep_nil (w : World) : Calls Tryz.prog 12 #[.pointer none] w fun e w' => e = .returned (.tuple #[.agg #[.float .f64 0, .int .i64 0, .int .i64 0, .int .i64 0, .int .i64 0, .string ⟨#[]⟩, .slice none 0 0, .int .i64 0], .int .i64 1]) ∧ Below w.heap.size w w' :=
 Kv.plain_run Kv.lpctop rfl rfl (by decide +kernel) (args' := [.pointer none]) (fun ρ => ⟨_, _, rfl, rfl, rfl⟩) (by rfl) w
theorem begun_ptr (w : World) : Calls Tryz.prog 14 #[] w fun e w' => (∃ b, e = .returned (.pointer (some ⟨b, 0, none⟩))) ∧ Below w.heap.size w w' := by
 refine (Kv.closed_run Kv.lpdtop rfl rfl (by decide +kernel) (args' := []) (fun ρ => rfl) w).mono fun e w' h => ?_
 obtain ⟨⟨ρ', v', rfl, ⟨b, κ, _, k⟩, _⟩, hb⟩ := h
 exact ⟨⟨b, by rw [k]⟩, hb⟩
theorem awake26_any (w : World) : Calls Tryz.prog 9 #[] w fun e w' => e = .returned (.bool true) ∧ Below w.heap.size w w' :=
 Kv.plain_run Kv.latop rfl rfl (by decide +kernel) (args' := []) (fun ρ => rfl) (by rfl) w
theorem lbegin_nil (w : World) : Calls Tryz.prog 16 #[.pointer none] w fun e w' => e = .returned (.int .i64 1) ∧ Below w.heap.size w w' := by
 go_enter Tryz.func16, Tryz.ntmps16
 go_wp2
 go_ret
 exact ⟨rfl, Below.refl _ w⟩
theorem lback_nil (k : ByteArray) (w : World) : Calls Tryz.prog 17 #[.pointer none, .string k] w fun e w' => e = .returned (.int .i64 1) ∧ Below w.heap.size w w' := by
 go_enter Tryz.func17, Tryz.ntmps17
 go_wp2_with (go_at_call 10; refine (lplace_nil _).mono ?_; rintro e w' ⟨rfl, hb⟩)
 go_ret
 exact ⟨rfl, hb.alloc hb.size _⟩
theorem linbox_nil (w : World) : Calls Tryz.prog 18 #[.pointer none] w fun e w' => e = .returned (.pointer none) ∧ Below w.heap.size w w' := by
 go_enter Tryz.func18, Tryz.ntmps18
 go_wp2
 go_ret
 exact ⟨rfl, Below.refl _ w⟩
theorem lsnaps_nil (w : World) : Calls Tryz.prog 19 #[.pointer none] w fun e w' => e = .returned (.pointer none) ∧ Below w.heap.size w w' := by
 go_enter Tryz.func19, Tryz.ntmps19
 go_wp2
 go_ret
 exact ⟨rfl, Below.refl _ w⟩
end
section
open Go.RowKit Go.Lib
theorem op_cls (op : Int) : op = 0 ∨ op = 1 ∨ (op = 2 ∨ op = 11 ∨ op = 13 ∨ op = 14) ∨ (op = 3 ∨ op = 4 ∨ op = 5 ∨ op = 6 ∨ op = 7 ∨ op = 8 ∨ op = 12) ∨ op = 9 ∨ op = 10 ∨ (¬ op = 0 ∧ ¬ op = 1 ∧ ¬ op = 2 ∧ ¬ op = 3 ∧ ¬ op = 4 ∧ ¬ op = 5 ∧ ¬ op = 6 ∧ ¬ op = 7 ∧ ¬ op = 8 ∧ ¬ op = 9 ∧ ¬ op = 10 ∧ ¬ op = 11 ∧ ¬ op = 12 ∧ ¬ op = 13 ∧ ¬ op = 14) := by omega
set_option maxHeartbeats 64000000 in
theorem ins05_any (x : In) (len : Int) (w : World) :
  Calls Tryz.prog 176 #[.agg #[.int .i64 x.op, .int .i64 x.a, .int .i64 x.b, .int .i64 x.c], .int .i64 len] w fun r w' => r = .returned (.bool (insB x len)) ∧ Below w.heap.size w w' := by
 obtain ⟨op, a, b, c⟩ := x
 have HB := hid ((Below.refl _ w).alloc (Nat.le_refl _) (.cells #[.int .i64 op, .int .i64 a, .int .i64 b, .int .i64 c] 192))
 have HA := hid (fun W => reg_any a W)
 have HBB := hid (fun W => reg_any b W)
 have HC := hid (fun W => reg_any c W)
 show Calls _ _ #[.agg #[.int .i64 op, .int .i64 a, .int .i64 b, .int .i64 c], .int .i64 len] w _
 rcases op_cls op with rfl | rfl | h | h | rfl | rfl | ⟨h0, h1, h2, h3, h4, h5, h6, h7, h8, h9, h10, h11, h12, h13, h14⟩
 ·rw [show insB ⟨0, a, b, c⟩ len = true by simp [insB]]
  go_enter Tryz.func176, Tryz.ntmps176
  go_wp2
  go_ret
  exact ⟨rfl, HB.out⟩
 ·rw [show insB ⟨1, a, b, c⟩ len = rgB a by simp [insB]]
  go_enter Tryz.func176, Tryz.ntmps176
  go_wp2_with ((with_reducible refine (HA.out _).mono ?_); rintro r w' ⟨rfl, rfl⟩)
  go_ret
  exact ⟨rfl, HB.out⟩
 ·rw [show insB ⟨op, a, b, c⟩ len = (rgB a && rgB b) by rcases h with rfl | rfl | rfl | rfl <;> simp [insB]]
  rcases h with rfl | rfl | rfl | rfl
  all_goals
   cases ha : rgB a
   all_goals
    rw [ha] at HA
    clear ha
    go_enter Tryz.func176, Tryz.ntmps176
    go_wp2_with (first | ((with_reducible refine (HA.out _).mono ?_); rintro r w' ⟨rfl, rfl⟩) | ((with_reducible refine (HBB.out _).mono ?_); rintro r w' ⟨rfl, rfl⟩))
    go_ret
    exact ⟨rfl, HB.out⟩
 ·rw [show insB ⟨op, a, b, c⟩ len = (rgB a && (rgB b && rgB c)) by rcases h with rfl | rfl | rfl | rfl | rfl | rfl | rfl <;> simp [insB]]
  rcases h with rfl | rfl | rfl | rfl | rfl | rfl | rfl
  all_goals
   cases ha : rgB a
   all_goals cases hb : rgB b
   all_goals
    rw [ha] at HA
    rw [hb] at HBB
    clear ha hb
    go_enter Tryz.func176, Tryz.ntmps176
    go_wp2_with (first | ((with_reducible refine (HA.out _).mono ?_); rintro r w' ⟨rfl, rfl⟩) | ((with_reducible refine (HBB.out _).mono ?_); rintro r w' ⟨rfl, rfl⟩) | ((with_reducible refine (HC.out _).mono ?_); rintro r w' ⟨rfl, rfl⟩))
    go_ret
    exact ⟨rfl, HB.out⟩
 ·rw [show insB ⟨9, a, b, c⟩ len = plB a len by simp [insB]]
  unfold plB
  by_cases h1 : 0 ≤ a
  ·by_cases h2 : a ≤ len
   ·rw [decide_eq_true h1, decide_eq_true h2]
    go_enter Tryz.func176, Tryz.ntmps176
    go_wp2
    go_ret
    exact ⟨rfl, HB.out⟩
   ·rw [decide_eq_true h1, decide_eq_false h2]
    go_enter Tryz.func176, Tryz.ntmps176
    go_wp2
    go_ret
    exact ⟨rfl, HB.out⟩
  ·rw [decide_eq_false h1]
   go_enter Tryz.func176, Tryz.ntmps176
   go_wp2
   go_ret
   exact ⟨rfl, HB.out⟩
 ·rw [show insB ⟨10, a, b, c⟩ len = (rgB a && plB b len) by simp [insB]]
  unfold plB
  have hcs : (0 ≤ b ∧ b ≤ len ∧ (decide (0 ≤ b) && decide (b ≤ len)) = true) ∨ (0 ≤ b ∧ ¬ b ≤ len ∧ (decide (0 ≤ b) && decide (b ≤ len)) = false) ∨ (¬ 0 ≤ b ∧ (decide (0 ≤ b) && decide (b ≤ len)) = false) := by
   by_cases h1 : 0 ≤ b
   ·by_cases h2 : b ≤ len
    ·exact .inl ⟨h1, h2, by simp [h1, h2]⟩
    ·exact .inr (.inl ⟨h1, h2, by simp [h2]⟩)
   ·exact .inr (.inr ⟨h1, by simp [h1]⟩)
  cases ha : rgB a
  all_goals
   rw [ha] at HA
   clear ha
   rcases hcs with ⟨h1, h2, e⟩ | ⟨h1, h2, e⟩ | ⟨h1, e⟩
   all_goals
    rw [e]
    clear e
    go_enter Tryz.func176, Tryz.ntmps176
    go_wp2_with ((with_reducible refine (HA.out _).mono ?_); rintro r w' ⟨rfl, rfl⟩)
    go_ret
    exact ⟨by first | rfl | (simp; omega), HB.out⟩
 ·rw [show insB ⟨op, a, b, c⟩ len = false by
   unfold insB
   rw [if_neg h0, if_neg h1, if_neg (by simp only; omega), if_neg (by simp only; omega), if_neg h9, if_neg h10]]
  go_enter Tryz.func176, Tryz.ntmps176
  go_wp2
  go_ret
  exact ⟨rfl, HB.out⟩
end
section
open Go.RowKit Go.Lib
section
variable {W : World} {x : MdV} {q : Option Addr} {n c : Nat} {l : List In}
set_option maxHeartbeats 16000000 in
theorem program05_any (hv : Vw 4 inC W (.slice q n c) l) (hn : n = l.length) (hnb : n ≤ 1000) :
  Calls Tryz.prog 73 #[.slice q n c] W fun r w' => r = .returned (.bool (progB l)) ∧ Below W.heap.size W w' := by
 obtain ⟨r0, hr0⟩ : ∃ r, r = progB l := ⟨_, rfl⟩
 rw [← hr0]
 have HR := hid hr0
 have HV := hid (⟨hv, hn⟩ : _ ∧ _)
 clear hr0 hv hn
 go_enter Tryz.func73, Tryz.ntmps73
 go_wp2
 go_loopg [3] (n + 1) (fun gg s3 wr => ∃ j : Nat, j ≤ n ∧ n + 1 - j ≤ gg ∧ s3 = .int .i64 j ∧ Hid ((l.take j).all (fun x => insB x l.length) = true) ∧ Hid (Below W.heap.size W wr))
 case atStart => exact ⟨0, by omega, by omega, rfl, hid (by simp), hid (Below.refl _ _)⟩
 case round =>
  obtain ⟨j, hj, hgg, rfl, HJ, HBW⟩ := hrel
  by_cases hjn : j < n
  ·obtain ⟨x, hx⟩ : ∃ x, l[j]? = some x := ⟨_, List.getElem?_eq_getElem (by rw [← HV.out.2]; exact hjn)⟩
   obtain ⟨b, o, rfl, hxc⟩ := insAt HV.out.1 hx
   obtain ⟨x0, x1, x2, x3⟩ := hxc wr HBW.out
   have hji : (j : Int) < (n : Int) := by omega
   have hnz : (n : Int) ≤ 1000 := by omega
   have HP := hid (ins05_any x n wr)
   have HX := hid hx
   have HJN := hid hjn
   clear hx hxc
   go_wp2_with fail
   (with_reducible refine HP.out.mono ?_)
   rintro r w1 ⟨rfl, hb1⟩
   obtain ⟨go, hgo⟩ : ∃ go, go = insB x n := ⟨_, rfl⟩
   rw [← hgo]
   have HG := hid (⟨hgo, HBW.out.trans (hb1.mono HBW.out.size)⟩ : _ ∧ _)
   clear hgo hb1 x0 x1 x2 x3
   cases go with
   | true =>
    have HJ2 : Hid ((l.take (j + 1)).all (fun x => insB x l.length) = true) := hid (by rw [all_take_next _ HX.out, HJ.out, ← HV.out.2, ← HG.out.1]; rfl)
    go_wp2
    go_roundg (n + 1 - (j + 1))
    case measure => omega
    case rel => exact ⟨j + 1, by have := HJN.out; omega, by omega, by go_num, HJ2, hid HG.out.2⟩
   | false =>
    have HZ : Hid (r0 = false) := hid (by rw [HR.out]; unfold progB; rw [all_take_no HX.out (by rw [← HV.out.2, ← HG.out.1]), Bool.false_and])
    go_wp2
    go_ret
    rw [HZ.out]
    exact ⟨rfl, HG.out.2⟩
  ·have hji : ¬ (j : Int) < (n : Int) := by omega
   have HZ : Hid (r0 = (decide ((1 : Int) ≤ n) && decide ((n : Int) ≤ 48))) := hid (by
    have h1 := HJ.out
    rw [List.take_of_length_le (by rw [← HV.out.2]; omega)] at h1
    rw [HR.out]
    unfold progB
    rw [h1, Bool.true_and, ← HV.out.2, ← Bool.decide_and, ← Bool.decide_and]
    exact decide_eq_decide.2 (by omega))
   by_cases h1 : (1 : Int) ≤ n
   ·have HZ2 : Hid (r0 = decide ((n : Int) ≤ 48)) := hid (by rw [HZ.out, decide_eq_true h1, Bool.true_and])
    go_wp2
    go_ret
    rw [HZ2.out]
    exact ⟨rfl, HBW.out⟩
   ·have h2 : decide ((1 : Int) ≤ n) = false := decide_eq_false h1
    have HZ2 : Hid (r0 = false) := hid (by rw [HZ.out, h2, Bool.false_and])
    go_wp2
    go_ret
    rw [HZ2.out]
    exact ⟨rfl, HBW.out⟩
theorem first_bad (a p d i : Nat) (hn : ¬ ((1 : Int) ≤ a ∧ (a : Int) ≤ 6 ∧ (1 : Int) ≤ p ∧ (p : Int) ≤ 4 ∧ (1 : Int) ≤ d ∧ (d : Int) ≤ 8 ∧ (i : Int) ≤ 16)) :
  ((a : Int) < 1) ∨ (¬ (a : Int) < 1 ∧ 6 < (a : Int)) ∨ (¬ (a : Int) < 1 ∧ ¬ 6 < (a : Int) ∧ (p : Int) < 1) ∨ (¬ (a : Int) < 1 ∧ ¬ 6 < (a : Int) ∧ ¬ (p : Int) < 1 ∧ 4 < (p : Int)) ∨
  (¬ (a : Int) < 1 ∧ ¬ 6 < (a : Int) ∧ ¬ (p : Int) < 1 ∧ ¬ 4 < (p : Int) ∧ (d : Int) < 1) ∨ (¬ (a : Int) < 1 ∧ ¬ 6 < (a : Int) ∧ ¬ (p : Int) < 1 ∧ ¬ 4 < (p : Int) ∧ ¬ (d : Int) < 1 ∧ 8 < (d : Int)) ∨
  (¬ (a : Int) < 1 ∧ ¬ 6 < (a : Int) ∧ ¬ (p : Int) < 1 ∧ ¬ 4 < (p : Int) ∧ ¬ (d : Int) < 1 ∧ ¬ 8 < (d : Int) ∧ 16 < (i : Int)) := by omega
set_option maxHeartbeats 32000000 in
theorem check05_any (h : MdAt W x) (hd : x.dn ≤ 1000) (hp : x.pn ≤ 1000) (hl : x.ln ≤ 1000) (hi : x.im ≤ 1000) (hq : ∀ q ∈ x.ps, q.n ≤ 1000) :
  Calls Tryz.prog 15 #[.agg (mdC x).toArray] W fun r w' => r = .returned (.int .i64 (if checkB x.m = true then 0 else 15)) ∧ Below W.heap.size W w' := by
 obtain ⟨W1, hW1⟩ : ∃ W1, W1 = W.alloc (.cells (mdC x).toArray 28) := ⟨_, rfl⟩
 have hb1 : Below W.heap.size W W1 := by rw [hW1]; exact (Below.refl _ W).alloc (Nat.le_refl _) _
 have hB1 := MdB.new h
 rw [← hW1] at hB1
 obtain ⟨e0, he0⟩ : ∃ e : Int, e = if checkB x.m = true then 0 else 15 := ⟨_, rfl⟩
 rw [← he0]
 rw [check_eq h] at he0
 obtain ⟨dp, hdp⟩ : ∃ p, p = x.dp := ⟨_, rfl⟩
 obtain ⟨pp, hpp⟩ : ∃ p, p = x.pp := ⟨_, rfl⟩
 obtain ⟨lp, hlp⟩ : ∃ p, p = x.lp := ⟨_, rfl⟩
 obtain ⟨ip, hip⟩ : ∃ p, p = x.ip := ⟨_, rfl⟩
 have HC : Hid (∀ W', Below W1.heap.size W1 W' → (W'.cell? ⟨W.heap.size, 0, none⟩ = some (.int .i64 x.seed) ∧ W'.cell? ⟨W.heap.size, 1, none⟩ = some (.float .f64 x.en) ∧ W'.cell? ⟨W.heap.size, 2, none⟩ = some (.slice dp x.dn x.dc) ∧ W'.cell? ⟨W.heap.size, 3, none⟩ = some (.slice pp x.pn x.pc) ∧ W'.cell? ⟨W.heap.size, 4, none⟩ = some (.slice lp x.ln x.lc) ∧ W'.cell? ⟨W.heap.size, 5, none⟩ = some (.slice ip x.im x.ic)) ∧ MdAt W' x ∧ Below W.heap.size W W') := hid fun W' hW => by
  have := hB1.below hW
  rw [hdp, hpp, hlp, hip]
  exact ⟨this.c, this.2, hb1.trans (hW.mono hb1.size)⟩
 have HE := hid he0
 have HH := hid (⟨h, hq⟩ : _ ∧ _)
 have HW1 := hid hW1
 have HD := hid hdp
 have HP := hid hpp
 have HL := hid hlp
 have HI := hid hip
 unfold mdC at HW1 ⊢
 rw [← hdp, ← hpp, ← hlp, ← hip] at HW1 ⊢
 obtain ⟨⟨c0, c1, c2, c3, c4, c5⟩, _, _⟩ := HC.out W1 (Below.refl _ _)
 have HB0 := hid hb1
 clear h hq hW1 hb1 hB1 he0 hdp hpp hlp hip
 have goal15 : Hid (cntB x = false ∨ fnan x.en = true → e0 = 15) := hid fun h => by
  rw [HE.out]
  rcases h with h | h
  ·rw [h]; simp
  ·rw [h]; simp
 by_cases hcn : (1 : Int) ≤ x.ln ∧ (x.ln : Int) ≤ 6 ∧ (1 : Int) ≤ x.pn ∧ (x.pn : Int) ≤ 4 ∧ (1 : Int) ≤ x.dn ∧ (x.dn : Int) ≤ 8 ∧ (x.im : Int) ≤ 16
 ·have hcB : cntB x = true := by
   unfold cntB
   simp only [Bool.and_eq_true, decide_eq_true_eq]
   exact ⟨⟨hcn.1, hcn.2.1⟩, ⟨hcn.2.2.1, hcn.2.2.2.1⟩, ⟨hcn.2.2.2.2.1, hcn.2.2.2.2.2.1⟩, hcn.2.2.2.2.2.2⟩
  have i1 : ¬ (x.ln : Int) < 1 := by omega
  have i2 : ¬ 6 < (x.ln : Int) := by omega
  have i3 : ¬ (x.pn : Int) < 1 := by omega
  have i4 : ¬ 4 < (x.pn : Int) := by omega
  have i5 : ¬ (x.dn : Int) < 1 := by omega
  have i6 : ¬ 8 < (x.dn : Int) := by omega
  have i7 : ¬ 16 < (x.im : Int) := by omega
  have HCB := hid hcB
  clear hcB hcn
  by_cases hnan : fnan x.en = true
  ·have HZ : Hid (e0 = 15) := hid (goal15.out (.inr hnan))
   clear HE
   go_enter Tryz.func15, Tryz.ntmps15
   go_upto_region 1 with fail
   rw [← HW1.out]
   go_wp2
   go_ret
   rw [HZ.out]
   exact ⟨rfl, HB0.out⟩
  ·have hnan2 : fnan x.en = false := by simpa using hnan
   have HE1 : Hid (e0 = if (x.dl.all dlB && (x.ps.all (fun q => progB q.l) && (x.ls.all (lpR x.pn) && x.is.all (iniR x.ln)))) = true then 0 else 15) := hid (by rw [HE.out, HCB.out, hnan2]; rfl)
   clear HE goal15 hnan
   go_enter Tryz.func15, Tryz.ntmps15
   go_upto_region 1 with fail
   rw [← HW1.out]
   go_wp2
   go_loopg [3] x.dn (fun gg s3 wr => ∃ (j : Nat), j ≤ x.dn ∧ x.dn - j ≤ gg ∧ s3 = .int .i64 j ∧ Hid ((x.dl.take j).all dlB = true) ∧ W1 = wr)
   case atStart => exact ⟨0, by omega, by omega, rfl, hid (by simp), rfl⟩
   case round =>
    obtain ⟨j, hj, hgg, rfl, HJ, hwr⟩ := hrel
    subst hwr
    by_cases hjn : j < x.dn
    ·obtain ⟨d, hd'⟩ : ∃ d, x.dl[j]? = some d := ⟨_, List.getElem?_eq_getElem (by rw [← HH.out.1.dn]; exact hjn)⟩
     obtain ⟨g, o, e1, m0⟩ := (HC.out W1 (Below.refl _ _)).2.1.dly hd'
     obtain rfl : dp = some ⟨g, o, none⟩ := HD.out.trans e1
     have hji : (j : Int) < (x.dn : Int) := by omega
     have hjz : (x.dn : Int) ≤ 1000 := by omega
     have HJN := hid hjn
     have HX := hid hd'
     clear hd' e1
     by_cases hz : fgt d 0 = true
     ·have HX2 : Hid ((x.dl.take (j + 1)).all dlB = true) := hid (by rw [all_take_next _ HX.out, HJ.out]; exact hz)
      go_wp2
      go_roundg (x.dn - (j + 1))
      case measure => omega
      case rel => exact ⟨j + 1, by have := HJN.out; omega, by omega, by go_num, HX2, rfl⟩
     ·have hz2 : fgt d 0 = false := by simpa using hz
      have HZ : Hid (e0 = 15) := hid (by rw [HE1.out, all_take_no HX.out hz2]; rfl)
      clear hz HE1
      go_wp2
      go_ret
      rw [HZ.out]
      exact ⟨rfl, HB0.out⟩
    ·have hji : ¬ (j : Int) < (x.dn : Int) := by omega
     have HE2 : Hid (e0 = if (x.ps.all (fun q => progB q.l) && (x.ls.all (lpR x.pn) && x.is.all (iniR x.ln))) = true then 0 else 15) := hid (by
      have := HJ.out
      rw [List.take_of_length_le (by rw [← HH.out.1.dn]; omega)] at this
      rw [HE1.out, this, Bool.true_and])
     clear HE1 HJ
     go_wp2
     go_loopg [4] x.pn (fun gg s4 wr => ∃ (j : Nat), j ≤ x.pn ∧ x.pn - j ≤ gg ∧ s4 = .int .i64 j ∧ Hid (((x.ps.take j).all fun q => progB q.l) = true) ∧ Hid (Below W1.heap.size W1 wr))
     case atStart => exact ⟨0, by omega, by omega, rfl, hid (by simp), hid (Below.refl _ _)⟩
     case round =>
      obtain ⟨j, hj, hgg, rfl, HJ, HBr⟩ := hrel
      obtain ⟨⟨k0, k1, k2, k3, k4, k5⟩, hmr, _⟩ := HC.out wr HBr.out
      by_cases hjn : j < x.pn
      ·obtain ⟨q, hq'⟩ : ∃ q, x.ps[j]? = some q := ⟨_, List.getElem?_eq_getElem (by rw [← HH.out.1.pn]; exact hjn)⟩
       obtain ⟨g, o, e1, m0⟩ := hmr.prg hq'
       obtain rfl : pp = some ⟨g, o, none⟩ := HP.out.trans e1
       have hqm := List.mem_of_getElem? hq'
       obtain ⟨go, hgo⟩ : ∃ b, b = progB q.l := ⟨_, rfl⟩
       have HPR := hid (program05_any (hmr.pi q hqm).2 (hmr.pi q hqm).1 (HH.out.2 q hqm))
       rw [← hgo] at HPR
       have hji : (j : Int) < (x.pn : Int) := by omega
       have hjz : (x.pn : Int) ≤ 1000 := by omega
       have HJN := hid hjn
       have HX := hid (⟨hq', hgo⟩ : _ ∧ _)
       clear hq' e1 hqm hgo hmr
       go_wp2_with fail
       (with_reducible refine HPR.out.mono ?_)
       rintro r w2 ⟨rfl, hb2⟩
       have HB2 := hid (HBr.out.trans (hb2.mono HBr.out.size))
       clear hb2
       cases go with
       | true =>
        have HX2 : Hid (((x.ps.take (j + 1)).all fun q => progB q.l) = true) := hid (by rw [all_take_next (fun q : Prg => progB q.l) HX.out.1, HJ.out, ← HX.out.2]; rfl)
        go_wp2
        go_roundg (x.pn - (j + 1))
        case measure => omega
        case rel => exact ⟨j + 1, by have := HJN.out; omega, by omega, by go_num, HX2, HB2⟩
       | false =>
        have HZ : Hid (e0 = 15) := hid (by rw [HE2.out, all_take_no (f := fun q : Prg => progB q.l) HX.out.1 HX.out.2.symm]; rfl)
        clear HE2
        go_wp2
        go_ret
        rw [HZ.out]
        exact ⟨rfl, (HC.out _ HB2.out).2.2⟩
      ·have hji : ¬ (j : Int) < (x.pn : Int) := by omega
       have HE3 : Hid (e0 = if (x.ls.all (lpR x.pn) && x.is.all (iniR x.ln)) = true then 0 else 15) := hid (by
        have := HJ.out
        rw [List.take_of_length_le (by rw [← HH.out.1.pn]; omega)] at this
        rw [HE2.out, this, Bool.true_and])
       obtain ⟨w2, rfl⟩ : ∃ w2, w2 = wr := ⟨_, rfl⟩
       clear HE2 HJ c0 c1 c2 c3 c4 c5 hmr
       go_wp2
       go_loopg [5] x.ln (fun gg s5 wr => ∃ (j : Nat), j ≤ x.ln ∧ x.ln - j ≤ gg ∧ s5 = .int .i64 j ∧ Hid ((x.ls.take j).all (lpR x.pn) = true) ∧ Hid (Below W1.heap.size W1 wr))
       case atStart => exact ⟨0, by omega, by omega, rfl, hid (by simp), HBr⟩
       case round =>
        obtain ⟨j, hj, hgg, rfl, HJ, HBr⟩ := hrel
        obtain ⟨⟨r0, r1, r2, r3, r4, r5⟩, hmr, _⟩ := HC.out wr HBr.out
        by_cases hjn : j < x.ln
        ·obtain ⟨q, hq'⟩ : ∃ q, x.ls[j]? = some q := ⟨_, List.getElem?_eq_getElem (by rw [← HH.out.1.ln]; exact hjn)⟩
         obtain ⟨g, o, e1, m0, m1⟩ := hmr.lpr hq'
         obtain rfl : lp = some ⟨g, o, none⟩ := HL.out.trans e1
         have hji : (j : Int) < (x.ln : Int) := by omega
         have hj0 : (0 : Int) ≤ (j : Int) := by omega
         have hjz : (x.ln : Int) ≤ 1000 := by omega
         have HJN := hid hjn
         have HCW : Hid (∀ w', BelC wr w' → (w'.cell? ⟨W.heap.size, 3, none⟩ = some (.slice pp x.pn x.pc) ∧ w'.cell? ⟨W.heap.size, 4, none⟩ = some (.slice (some ⟨g, o, none⟩) x.ln x.lc)) ∧ w'.cell? ⟨g, o + j * 2, none⟩ = some (.int .i64 q.k) ∧ w'.cell? ⟨g, o + j * 2 + 1, none⟩ = some (.slice q.p q.n q.c)) := hid fun w' hw => by
          obtain ⟨⟨_, _, _, z3, z4, _⟩, hm, _⟩ := HC.out w' (HBr.out.trans (hw.out.mono HBr.out.size))
          obtain ⟨g', o', e', y0, y1⟩ := hm.lpr hq'
          rw [e1] at e'
          injection e' with e'
          injection e' with e2 e3 _
          subst e2 e3
          exact ⟨⟨z3, z4⟩, y0, y1⟩
         have HX := hid hq'
         clear hq' e1 hmr
         by_cases hz : (0 : Int) ≤ q.k ∧ q.k ≤ (x.pn : Int) - 1 ∧ (q.n : Int) ≤ 8
         ·have t1 : ¬ q.k < 0 := by omega
          have t2 : ¬ (x.pn : Int) ≤ q.k := by omega
          have t3 : ¬ 8 < (q.n : Int) := by omega
          have t4 : decide (q.k < 0) = false := decide_eq_false t1
          have t5 : decide ((x.pn : Int) ≤ q.k) = false := decide_eq_false t2
          have t6 : decide (8 < (q.n : Int)) = false := decide_eq_false t3
          have HX2 : Hid ((x.ls.take (j + 1)).all (lpR x.pn) = true) := hid (by
           rw [all_take_next _ HX.out, HJ.out]
           unfold lpR
           simp only [Bool.true_and, Bool.and_eq_true, decide_eq_true_eq]
           exact ⟨⟨hz.1, hz.2.1⟩, hz.2.2⟩)
          clear hz
          go_wp2
          refine qC_region (by kernel_rfl) (by kernel_rfl) (BelC wr) (BelC.drew wr) ?_
          repeat (first | (refine qC_none rfl (fun K hK => ?_); apply Exists.intro; refine ⟨fun w0 hw0 => ?_, ?_⟩; (focus (obtain ⟨⟨y0, y1⟩, y2, y3⟩ := HCW.out w0 hw0; go_simp; first | exact rfl | exact ⟨rfl, rfl⟩ | (fail))); go_simp; refine hK _ ?_; clear hK K) | (refine qC_yes _ _ _ rfl rfl (by rfl) (fun K hK => ?_); apply Exists.intro; refine ⟨fun w0 hw0 => ?_, ?_⟩; (focus (obtain ⟨⟨y0, y1⟩, y2, y3⟩ := HCW.out w0 hw0; go_simp; first | exact rfl | exact ⟨rfl, rfl⟩ | (fail))); go_simp; refine hK _ ?_; clear hK K) | (refine qC_no _ _ _ rfl rfl (by rfl) (fun K hK => ?_); go_simp; refine hK _ ?_; clear hK K) | (refine qC_undef _ _ _ rfl rfl (by rfl) (fun K hK => ?_); go_simp; refine hK _ ?_; clear hK K))
          refine qC_nil ?_
          intro w3 hw3
          have HB3 : Hid (Below W1.heap.size W1 w3) := hid (HBr.out.trans (hw3.out.mono HBr.out.size))
          clear hw3
          go_wp2
          go_roundg (x.ln - (j + 1))
          case measure => omega
          case rel => exact ⟨j + 1, by have := HJN.out; omega, by omega, by go_num, HX2, HB3⟩
         ·have HZ : Hid (e0 = 15) := hid (by
           rw [HE3.out, all_take_no HX.out (by
            unfold lpR
            rw [← Bool.decide_and]
            exact decide_eq_false (by omega))]
           rfl)
          have hcs : q.k < 0 ∨ (¬ q.k < 0 ∧ (x.pn : Int) ≤ q.k) ∨ (¬ q.k < 0 ∧ ¬ (x.pn : Int) ≤ q.k ∧ 8 < (q.n : Int)) := by omega
          clear hz HE3
          rcases hcs with t1 | ⟨t1, t2⟩ | ⟨t1, t2, t3⟩
          ·go_wp2
           refine qC_region (by kernel_rfl) (by kernel_rfl) (BelC wr) (BelC.drew wr) ?_
           repeat (first | (refine qC_none rfl (fun K hK => ?_); apply Exists.intro; refine ⟨fun w0 hw0 => ?_, ?_⟩; (focus (obtain ⟨⟨y0, y1⟩, y2, y3⟩ := HCW.out w0 hw0; go_simp; first | exact rfl | exact ⟨rfl, rfl⟩ | (fail))); go_simp; refine hK _ ?_; clear hK K) | (refine qC_yes _ _ _ rfl rfl (by rfl) (fun K hK => ?_); apply Exists.intro; refine ⟨fun w0 hw0 => ?_, ?_⟩; (focus (obtain ⟨⟨y0, y1⟩, y2, y3⟩ := HCW.out w0 hw0; go_simp; first | exact rfl | exact ⟨rfl, rfl⟩ | (fail))); go_simp; refine hK _ ?_; clear hK K) | (refine qC_no _ _ _ rfl rfl (by rfl) (fun K hK => ?_); go_simp; refine hK _ ?_; clear hK K) | (refine qC_undef _ _ _ rfl rfl (by rfl) (fun K hK => ?_); go_simp; refine hK _ ?_; clear hK K))
           refine qC_nil ?_
           intro w3 hw3
           have HB3 : Hid (Below W.heap.size W w3) := hid (HC.out w3 (HBr.out.trans (hw3.out.mono HBr.out.size))).2.2
           clear hw3
           go_wp2
           go_ret
           rw [HZ.out]
           exact ⟨rfl, HB3.out⟩
          ·have t4 : decide (q.k < 0) = false := decide_eq_false t1
           go_wp2
           refine qC_region (by kernel_rfl) (by kernel_rfl) (BelC wr) (BelC.drew wr) ?_
           repeat (first | (refine qC_none rfl (fun K hK => ?_); apply Exists.intro; refine ⟨fun w0 hw0 => ?_, ?_⟩; (focus (obtain ⟨⟨y0, y1⟩, y2, y3⟩ := HCW.out w0 hw0; go_simp; first | exact rfl | exact ⟨rfl, rfl⟩ | (fail))); go_simp; refine hK _ ?_; clear hK K) | (refine qC_yes _ _ _ rfl rfl (by rfl) (fun K hK => ?_); apply Exists.intro; refine ⟨fun w0 hw0 => ?_, ?_⟩; (focus (obtain ⟨⟨y0, y1⟩, y2, y3⟩ := HCW.out w0 hw0; go_simp; first | exact rfl | exact ⟨rfl, rfl⟩ | (fail))); go_simp; refine hK _ ?_; clear hK K) | (refine qC_no _ _ _ rfl rfl (by rfl) (fun K hK => ?_); go_simp; refine hK _ ?_; clear hK K) | (refine qC_undef _ _ _ rfl rfl (by rfl) (fun K hK => ?_); go_simp; refine hK _ ?_; clear hK K))
           refine qC_nil ?_
           intro w3 hw3
           have HB3 : Hid (Below W.heap.size W w3) := hid (HC.out w3 (HBr.out.trans (hw3.out.mono HBr.out.size))).2.2
           clear hw3
           go_wp2
           go_ret
           rw [HZ.out]
           exact ⟨rfl, HB3.out⟩
          ·have t4 : decide (q.k < 0) = false := decide_eq_false t1
           have t5 : decide ((x.pn : Int) ≤ q.k) = false := decide_eq_false t2
           go_wp2
           refine qC_region (by kernel_rfl) (by kernel_rfl) (BelC wr) (BelC.drew wr) ?_
           repeat (first | (refine qC_none rfl (fun K hK => ?_); apply Exists.intro; refine ⟨fun w0 hw0 => ?_, ?_⟩; (focus (obtain ⟨⟨y0, y1⟩, y2, y3⟩ := HCW.out w0 hw0; go_simp; first | exact rfl | exact ⟨rfl, rfl⟩ | (fail))); go_simp; refine hK _ ?_; clear hK K) | (refine qC_yes _ _ _ rfl rfl (by rfl) (fun K hK => ?_); apply Exists.intro; refine ⟨fun w0 hw0 => ?_, ?_⟩; (focus (obtain ⟨⟨y0, y1⟩, y2, y3⟩ := HCW.out w0 hw0; go_simp; first | exact rfl | exact ⟨rfl, rfl⟩ | (fail))); go_simp; refine hK _ ?_; clear hK K) | (refine qC_no _ _ _ rfl rfl (by rfl) (fun K hK => ?_); go_simp; refine hK _ ?_; clear hK K) | (refine qC_undef _ _ _ rfl rfl (by rfl) (fun K hK => ?_); go_simp; refine hK _ ?_; clear hK K))
           refine qC_nil ?_
           intro w3 hw3
           have HB3 : Hid (Below W.heap.size W w3) := hid (HC.out w3 (HBr.out.trans (hw3.out.mono HBr.out.size))).2.2
           clear hw3
           go_wp2
           go_ret
           rw [HZ.out]
           exact ⟨rfl, HB3.out⟩
        ·have hji : ¬ (j : Int) < (x.ln : Int) := by omega
         have HE4 : Hid (e0 = if (x.is.all (iniR x.ln)) = true then 0 else 15) := hid (by
          have := HJ.out
          rw [List.take_of_length_le (by rw [← HH.out.1.ln]; omega)] at this
          rw [HE3.out, this, Bool.true_and])
         obtain ⟨w3, rfl⟩ : ∃ w2, w2 = wr := ⟨_, rfl⟩
         clear HE3 HJ k0 k1 k2 k3 k4 k5 hmr
         go_wp2
         go_loopg [6] x.im (fun gg s6 wr => ∃ (j : Nat), j ≤ x.im ∧ x.im - j ≤ gg ∧ s6 = .int .i64 j ∧ Hid ((x.is.take j).all (iniR x.ln) = true) ∧ Hid (Below W1.heap.size W1 wr))
         case atStart => exact ⟨0, by omega, by omega, rfl, hid (by simp), HBr⟩
         case round =>
          obtain ⟨j, hj, hgg, rfl, HJ, HBr⟩ := hrel
          obtain ⟨⟨s0, s1, s2, s3, s4, s5⟩, hmr, _⟩ := HC.out wr HBr.out
          by_cases hjn : j < x.im
          ·obtain ⟨y, hy'⟩ : ∃ q, x.is[j]? = some q := ⟨_, List.getElem?_eq_getElem (by rw [← HH.out.1.im]; exact hjn)⟩
           obtain ⟨g, o, e1, m0, m1, m2⟩ := hmr.ini hy'
           obtain rfl : ip = some ⟨g, o, none⟩ := HI.out.trans e1
           obtain ⟨wo, hwo⟩ : ∃ wo, wo = wr.alloc (.cells #[.float .f64 y.t, .int .i64 y.dst, .int .i64 y.pay] 152) := ⟨_, rfl⟩
           have hbo : Below W1.heap.size W1 wo := by rw [hwo]; exact HBr.out.alloc HBr.out.size _
           have hBo : Blk wo wr.heap.size 152 #[.float .f64 y.t, .int .i64 y.dst, .int .i64 y.pay] := by rw [hwo]; exact Blk.new wr _ _
           have hji : (j : Int) < (x.im : Int) := by omega
           have hjz : (x.im : Int) ≤ 1000 := by omega
           have HJN := hid hjn
           have HX := hid hy'
           have HBO := hid (⟨hwo, hbo, hBo⟩ : _ ∧ _ ∧ _)
           clear hy' e1 hwo hmr
           go_upto_region 22 with fail
           rw [← HBO.out.1]
           obtain ⟨⟨z0, z1, z2, z3, z4, z5⟩, _, _⟩ := HC.out wo HBO.out.2.1
           have q0 : wo.cell? ⟨wr.heap.size, 0, none⟩ = some (.float .f64 y.t) := HBO.out.2.2.cell 0
           have q1 : wo.cell? ⟨wr.heap.size, 1, none⟩ = some (.int .i64 y.dst) := HBO.out.2.2.cell 1
           clear hbo hBo
           by_cases hz : fnan y.t = false ∧ (0 : Int) ≤ y.dst ∧ y.dst ≤ (x.ln : Int) - 1
           ·have HX2 : Hid ((x.is.take (j + 1)).all (iniR x.ln) = true) := hid (by
             rw [all_take_next _ HX.out, HJ.out]
             unfold iniR
             rw [hz.1]
             simp only [Bool.true_and, Bool.not_false, decide_eq_true_eq]
             exact hz.2)
            obtain ⟨t1, t2, t3⟩ := hz
            have t4 : ¬ y.dst < 0 := by omega
            have t5 : ¬ (x.ln : Int) ≤ y.dst := by omega
            go_wp2
            go_roundg (x.im - (j + 1))
            case measure => omega
            case rel => exact ⟨j + 1, by have := HJN.out; omega, by omega, by go_num, HX2, hid HBO.out.2.1⟩
           ·have HZ : Hid (e0 = 15) := hid (by
             rw [HE4.out, all_take_no HX.out (by
              unfold iniR
              rw [Bool.and_eq_false_iff]
              by_cases h : fnan y.t = true
              ·left; rw [h]; rfl
              ·right; exact decide_eq_false (fun h2 => hz ⟨by simpa using h, h2⟩))]
             rfl)
            have hcs : fnan y.t = true ∨ (fnan y.t = false ∧ y.dst < 0) ∨ (fnan y.t = false ∧ ¬ y.dst < 0 ∧ (x.ln : Int) ≤ y.dst) := by
             by_cases h : fnan y.t = true
             ·exact .inl h
             ·have h' : fnan y.t = false := by simpa using h
              have : ¬ ((0 : Int) ≤ y.dst ∧ y.dst ≤ (x.ln : Int) - 1) := fun h2 => hz ⟨h', h2⟩
              by_cases h3 : y.dst < 0
              ·exact .inr (.inl ⟨h', h3⟩)
              ·exact .inr (.inr ⟨h', h3, by omega⟩)
            have HF := hid (HC.out wo HBO.out.2.1).2.2
            clear hz HE4
            rcases hcs with t1 | ⟨t1, t2⟩ | ⟨t1, t2, t3⟩
            all_goals
             go_wp2
             go_ret
             rw [HZ.out]
             exact ⟨rfl, HF.out⟩
          ·have hji : ¬ (j : Int) < (x.im : Int) := by omega
           have HZ : Hid (e0 = 0) := hid (by
            have := HJ.out
            rw [List.take_of_length_le (by rw [← HH.out.1.im]; omega)] at this
            rw [HE4.out, this]
            rfl)
           have HF := hid (HC.out wr HBr.out).2.2
           clear HE4 HJ hmr
           go_wp2
           go_ret
           rw [HZ.out]
           exact ⟨rfl, HF.out⟩
 ·have HZ : Hid (e0 = 15) := hid (goal15.out (.inl (by
   unfold cntB
   rw [← Bool.decide_and, ← Bool.decide_and, ← Bool.decide_and]
   exact decide_eq_false (fun h => hcn ⟨h.1.1, h.1.2, h.2.1.1, h.2.1.2, h.2.2.1.1, h.2.2.1.2, h.2.2.2⟩))))
  have hcs := first_bad x.ln x.pn x.dn x.im hcn
  clear hcn HE goal15
  rcases hcs with t1 | ⟨t1, t2⟩ | ⟨t1, t2, t3⟩ | ⟨t1, t2, t3, t4⟩ | ⟨t1, t2, t3, t4, t5⟩ | ⟨t1, t2, t3, t4, t5, t6⟩ | ⟨t1, t2, t3, t4, t5, t6, t7⟩
  all_goals
   go_enter Tryz.func15, Tryz.ntmps15
   go_upto_region 1 with fail
   rw [← HW1.out]
   go_wp2
   go_ret
   rw [HZ.out]
   exact ⟨rfl, HB0.out⟩
end
end
end Go.Proofs.YtfkoaooceickiaaGreat
