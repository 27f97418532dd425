/- Parts of the proof: Ee Ef Eq Ev Ew Ed El Xa Xb Ya Ei Gt Rd En Es. -/
import Derived.Deep.Cut
import Derived.Deep.CutRange
import Derived.Deep.CutBlock
import Derived.Laws.RangeString
import Derived.LoopTactic
import Derived.Test.YtfkoaooceickiaaGreatProg
import Derived.WalkSpells
import Derived.WalkLawsBesides
import Derived.OpenShut
import Derived.Laws.Bits64
import Derived.Deep.RegionHeld3
import Derived.StillTailTactics
import Derived.Deep.RegionHeld
import Derived.StillTail
import Derived.Laws.MakeOwn
import Derived.Lib.Hide
import Derived.Lib.SliceRun
import Derived.RegionTactic
import Derived.Deep.QuietTactic
import Derived.BigQuiet
import Derived.Laws.BytesArg
import Derived.Deep.AppendLies
import Derived.Deep.RegionLaw
import Derived.Laws.OwnMore
import Derived.Test.YtfkoaooceickiaaGreatH01
import Derived.Test.YtfkoaooceickiaaGreatH02
set_option linter.all false
set_option maxRecDepth 100000
namespace Go.Proofs.YtfkoaooceickiaaGreat
section
open Go.RowKit Go.Lib
def MdB (W : World) (g : Nat) (x : MdV) : Prop := Blk W g 28 (mdC x).toArray ∧ MdAt W x
theorem MdB.below {W W' : World} {g : Nat} {x : MdV} (h : MdB W g x) (hb : Below W.heap.size W W') : MdB W' g x := ⟨h.1.below hb h.1.lt, h.2.below hb⟩
theorem MdB.new {W : World} {x : MdV} (h : MdAt W x) : MdB (W.alloc (.cells (mdC x).toArray 28)) W.heap.size x := ⟨Blk.new W _ _, h.below ((Below.refl _ W).alloc (Nat.le_refl _) _)⟩
theorem MdB.c {W : World} {g : Nat} {x : MdV} (h : MdB W g x) : W.cell? ⟨g, 0, none⟩ = some (.int .i64 x.seed) ∧ W.cell? ⟨g, 1, none⟩ = some (.float .f64 x.en) ∧ W.cell? ⟨g, 2, none⟩ = some (.slice x.dp x.dn x.dc) ∧ W.cell? ⟨g, 3, none⟩ = some (.slice x.pp x.pn x.pc) ∧ W.cell? ⟨g, 4, none⟩ = some (.slice x.lp x.ln x.lc) ∧ W.cell? ⟨g, 5, none⟩ = some (.slice x.ip x.im x.ic) := ⟨h.1.cell 0, h.1.cell 1, h.1.cell 2, h.1.cell 3, h.1.cell 4, h.1.cell 5⟩
theorem MdAt.prg {W : World} {x : MdV} (h : MdAt W x) {j : Nat} {q : Prg} (hq : x.ps[j]? = some q) : ∃ b o, x.pp = some ⟨b, o, none⟩ ∧ W.cell? ⟨b, o + j, none⟩ = some (.slice q.p q.n q.c) := by
 obtain ⟨b, o, c', e, _, hb, k⟩ := h.p.ex (by intro e; rw [e] at hq; simp at hq)
 injection e with e1 _ _
 refine ⟨b, o, e1, ?_⟩
 have := k j q hq 0 _ rfl
 rwa [Nat.mul_one, Nat.add_zero] at this
theorem MdAt.lpr {W : World} {x : MdV} (h : MdAt W x) {j : Nat} {q : LpR} (hq : x.ls[j]? = some q) : ∃ b o, x.lp = some ⟨b, o, none⟩ ∧ W.cell? ⟨b, o + j * 2, none⟩ = some (.int .i64 q.k) ∧ W.cell? ⟨b, o + j * 2 + 1, none⟩ = some (.slice q.p q.n q.c) := by
 obtain ⟨b, o, c', e, _, hb, k⟩ := h.l.ex (by intro e; rw [e] at hq; simp at hq)
 injection e with e1 _ _
 exact ⟨b, o, e1, k j q hq 0 _ rfl, k j q hq 1 _ rfl⟩
theorem MdAt.dly {W : World} {x : MdV} (h : MdAt W x) {j : Nat} {d : Nat} (hq : x.dl[j]? = some d) : ∃ b o, x.dp = some ⟨b, o, none⟩ ∧ W.cell? ⟨b, o + j, none⟩ = some (.float .f64 d) := by
 obtain ⟨b, o, c', e, _, hb, k⟩ := h.d.ex (by intro e; rw [e] at hq; simp at hq)
 injection e with e1 _ _
 refine ⟨b, o, e1, ?_⟩
 have := k j d hq 0 _ rfl
 rwa [Nat.mul_one, Nat.add_zero] at this
theorem MdAt.ini {W : World} {x : MdV} (h : MdAt W x) {j : Nat} {y : Ini} (hq : x.is[j]? = some y) : ∃ b o, x.ip = some ⟨b, o, none⟩ ∧ W.cell? ⟨b, o + j * 3, none⟩ = some (.float .f64 y.t) ∧ W.cell? ⟨b, o + j * 3 + 1, none⟩ = some (.int .i64 y.dst) ∧ W.cell? ⟨b, o + j * 3 + 2, none⟩ = some (.int .i64 y.pay) := by
 obtain ⟨b, o, c', e, _, hb, k⟩ := h.i.ex (by intro e; rw [e] at hq; simp at hq)
 injection e with e1 _ _
 exact ⟨b, o, e1, k j y hq 0 _ rfl, k j y hq 1 _ rfl, k j y hq 2 _ rfl⟩
theorem all_take_next {α : Type} (f : α → Bool) {l : List α} {j : Nat} {x : α} (h : l[j]? = some x) : (l.take (j + 1)).all f = ((l.take j).all f && f x) := by
 rw [List.take_add_one, h, Option.toList_some, List.all_append]
 simp
theorem all_take_no {α : Type} {f : α → Bool} {l : List α} {j : Nat} {x : α} (h : l[j]? = some x) (hf : f x = false) : l.all f = false := by
 rw [List.all_eq_false]
 exact ⟨x, List.mem_of_getElem? h, by simp [hf]⟩
theorem mwithin_any (n a b : Int) (w : World) : Calls Tryz.prog 167 #[.int .i64 n, .int .i64 a, .int .i64 b] w fun r w' => r = .returned (.bool (decide (a ≤ n ∧ n ≤ b))) ∧ w = w' := by
 by_cases h1 : a ≤ n
 ·by_cases h2 : n ≤ b
  ·rw [decide_eq_true (p := a ≤ n ∧ n ≤ b) ⟨h1, h2⟩]
   go_enter Tryz.func167, Tryz.ntmps167
   go_wp2
   go_ret
   exact ⟨rfl, rfl⟩
  ·rw [decide_eq_false (p := a ≤ n ∧ n ≤ b) (fun h => h2 h.2)]
   go_enter Tryz.func167, Tryz.ntmps167
   go_wp2
   go_ret
   exact ⟨rfl, rfl⟩
 ·rw [decide_eq_false (p := a ≤ n ∧ n ≤ b) (fun h => h1 h.1)]
  go_enter Tryz.func167, Tryz.ntmps167
  go_wp2
  go_ret
  exact ⟨rfl, rfl⟩
theorem light_eq {W : World} {x : MdV} (h : MdAt W x) : lightB x.m = (decide (x.pn ≤ 10 ∧ x.ln ≤ 20 ∧ x.dn ≤ 60 ∧ x.im ≤ 60) && (x.ps.all (fun q => decide (q.n ≤ 100)) && x.ls.all fun q => decide (q.n ≤ 60))) := by
 have e1 : (x.ps.all fun q => decide (q.n ≤ 100)) = x.ps.all fun q => decide (q.l.length ≤ 100) := by
  rw [Bool.eq_iff_iff, List.all_eq_true, List.all_eq_true]
  exact ⟨fun g q hq => by have := g q hq; rwa [(h.pi q hq).1] at this, fun g q hq => by have := g q hq; rwa [(h.pi q hq).1]⟩
 have e2 : (x.ls.all fun q => decide (q.n ≤ 60)) = x.ls.all fun q => decide (q.l.length ≤ 60) := by
  rw [Bool.eq_iff_iff, List.all_eq_true, List.all_eq_true]
  exact ⟨fun g q hq => by have := g q hq; rwa [(h.li q hq).1] at this, fun g q hq => by have := g q hq; rwa [(h.li q hq).1]⟩
 rw [e1, e2, h.pn, h.ln, h.dn, h.im]
 unfold lightB MdV.m
 simp only [List.length_map, List.all_map]
 rfl
set_option maxHeartbeats 8000000 in
theorem light_any {W : World} {x : MdV} (h : MdAt W x) :
  Calls Tryz.prog 8 #[.agg (mdC x).toArray] W fun r w' => r = .returned (.bool (lightB x.m)) ∧ Below W.heap.size W w' := by
 obtain ⟨W1, hW1⟩ : ∃ W1, W1 = W.alloc (.cells (mdC x).toArray 28) := ⟨_, rfl⟩
 have hb1 : Below W.heap.size W W1 := by rw [hW1]; exact (Below.refl _ W).alloc (Nat.le_refl _) _
 have hB := MdB.new h
 rw [← hW1] at hB
 obtain ⟨r0, hr0⟩ : ∃ r, r = lightB x.m := ⟨_, rfl⟩
 rw [← hr0]
 rw [light_eq h] at hr0
 have HE := hid hr0
 clear hr0
 have HX := hid (⟨hW1, hb1, hB⟩ : _ ∧ _ ∧ _)
 unfold mdC at HX ⊢
 clear h hW1 hb1 hB
 by_cases hc : x.pn ≤ 10 ∧ x.ln ≤ 20 ∧ x.dn ≤ 60 ∧ x.im ≤ 60
 ·have HE1 : Hid (r0 = (x.ps.all (fun q => decide (q.n ≤ 100)) && x.ls.all fun q => decide (q.n ≤ 60))) := hid (by rw [HE.out, decide_eq_true hc, Bool.true_and])
  obtain ⟨k1, k2, k3, k4⟩ := hc
  have i1 : ¬ (10 : Int) < (x.pn : Int) := by omega
  have i2 : ¬ (20 : Int) < (x.ln : Int) := by omega
  have i3 : ¬ (60 : Int) < (x.dn : Int) := by omega
  have i4 : ¬ (60 : Int) < (x.im : Int) := by omega
  have ip : (x.pn : Int) ≤ 10 := by omega
  have il : (x.ln : Int) ≤ 20 := by omega
  obtain ⟨c0, c1, c2, c3, c4, c5⟩ := HX.out.2.2.c
  have HP : Hid (x.pn = x.ps.length ∧ x.ln = x.ls.length) := hid ⟨HX.out.2.2.2.pn, HX.out.2.2.2.ln⟩
  clear k1 k2 k3 k4
  go_enter Tryz.func8, Tryz.ntmps8
  go_wp2
  rw [← HX.out.1]
  go_loopg [3] x.pn (fun gg s3 wr => ∃ (j : Nat), j ≤ x.pn ∧ x.pn - j ≤ gg ∧ s3 = .int .i64 j ∧ Hid ((x.ps.take j).all (fun q => decide (q.n ≤ 100)) = true) ∧ W1 = wr)
  case atStart => exact ⟨0, by omega, by omega, rfl, hid (by simp), rfl⟩
  case round =>
   obtain ⟨j, hj, hgg, rfl, HI, hwr⟩ := hrel
   subst hwr
   by_cases hje : j < x.pn
   ·obtain ⟨q, hq⟩ : ∃ q, x.ps[j]? = some q := ⟨_, List.getElem?_eq_getElem (by rw [← HP.out.1]; exact hje)⟩
    obtain ⟨b, o, e1, m0⟩ := HX.out.2.2.2.prg hq
    rw [e1] at c3
    have hji : (j : Int) < (x.pn : Int) := by omega
    have HQ := hid hq
    clear hq e1
    by_cases hn : q.n ≤ 100
    ·have hn2 : ¬ (100 : Int) < (q.n : Int) := by omega
     have HT : Hid ((x.ps.take (j + 1)).all (fun q => decide (q.n ≤ 100)) = true) := hid (by rw [all_take_next _ HQ.out, HI.out, decide_eq_true hn]; rfl)
     clear hn
     go_wp2
     go_roundg (x.pn - (j + 1))
     case measure => omega
     case rel => exact ⟨j + 1, by omega, by omega, by go_num, HT, rfl⟩
    ·have hn2 : (100 : Int) < (q.n : Int) := by omega
     have HZ : Hid (r0 = false) := hid (by rw [HE1.out, all_take_no HQ.out (decide_eq_false hn), Bool.false_and])
     clear hn
     go_wp2
     go_ret
     rw [HZ.out]
     exact ⟨rfl, HX.out.2.1⟩
   ·have hji : ¬ (j : Int) < (x.pn : Int) := by omega
    have hall : x.ps.all (fun q => decide (q.n ≤ 100)) = true := by
     have := HI.out
     rwa [List.take_of_length_le (by rw [← HP.out.1]; omega)] at this
    have HE2 : Hid (r0 = x.ls.all fun q => decide (q.n ≤ 60)) := hid (by rw [HE1.out, hall, Bool.true_and])
    clear hall
    go_wp2
    go_loopg [4] x.ln (fun gg s4 wr => ∃ (k : Nat), k ≤ x.ln ∧ x.ln - k ≤ gg ∧ s4 = .int .i64 k ∧ Hid ((x.ls.take k).all (fun q => decide (q.n ≤ 60)) = true) ∧ W1 = wr)
    case atStart => exact ⟨0, by omega, by omega, rfl, hid (by simp), rfl⟩
    case round =>
     obtain ⟨k, hk, hgg, rfl, HI, hwr⟩ := hrel
     subst hwr
     by_cases hke : k < x.ln
     ·obtain ⟨q, hq⟩ : ∃ q, x.ls[k]? = some q := ⟨_, List.getElem?_eq_getElem (by rw [← HP.out.2]; exact hke)⟩
      obtain ⟨b, o, e1, m0, m1⟩ := HX.out.2.2.2.lpr hq
      rw [e1] at c4
      have hki : (k : Int) < (x.ln : Int) := by omega
      have HQ := hid hq
      clear hq e1
      by_cases hn : q.n ≤ 60
      ·have hn2 : ¬ (60 : Int) < (q.n : Int) := by omega
       have HT : Hid ((x.ls.take (k + 1)).all (fun q => decide (q.n ≤ 60)) = true) := hid (by rw [all_take_next _ HQ.out, HI.out, decide_eq_true hn]; rfl)
       clear hn
       go_wp2
       go_roundg (x.ln - (k + 1))
       case measure => omega
       case rel => exact ⟨k + 1, by omega, by omega, by go_num, HT, rfl⟩
      ·have hn2 : (60 : Int) < (q.n : Int) := by omega
       have HZ : Hid (r0 = false) := hid (by rw [HE2.out, all_take_no HQ.out (decide_eq_false hn)])
       clear hn
       go_wp2
       go_ret
       rw [HZ.out]
       exact ⟨rfl, HX.out.2.1⟩
     ·have hki : ¬ (k : Int) < (x.ln : Int) := by omega
      have hall : x.ls.all (fun q => decide (q.n ≤ 60)) = true := by
       have := HI.out
       rwa [List.take_of_length_le (by rw [← HP.out.2]; omega)] at this
      have HZ : Hid (r0 = true) := hid (by rw [HE2.out, hall])
      clear hall
      go_wp2
      go_ret
      rw [HZ.out]
      exact ⟨rfl, HX.out.2.1⟩
 ·have HZ : Hid (r0 = false) := hid (by rw [HE.out, decide_eq_false hc, Bool.false_and])
  have HF := hid HX.out.2.1
  rw [HX.out.1] at HF
  have hcs : (10 : Int) < (x.pn : Int) ∨ (¬ (10 : Int) < (x.pn : Int) ∧ (20 : Int) < (x.ln : Int)) ∨ (¬ (10 : Int) < (x.pn : Int) ∧ ¬ (20 : Int) < (x.ln : Int) ∧ (60 : Int) < (x.dn : Int)) ∨ (¬ (10 : Int) < (x.pn : Int) ∧ ¬ (20 : Int) < (x.ln : Int) ∧ ¬ (60 : Int) < (x.dn : Int) ∧ (60 : Int) < (x.im : Int)) := by omega
  clear hc HX
  rcases hcs with h1 | ⟨h1, h2⟩ | ⟨h1, h2, h3⟩ | ⟨h1, h2, h3, h4⟩
  all_goals
   go_enter Tryz.func8, Tryz.ntmps8
   go_wp2
   go_ret
   rw [HZ.out]
   exact ⟨rfl, HF.out⟩
end
section
open Go.RowKit Go.Lib
def needB (op : Int) : Bs :=
 if op = 0 then [45, 45, 45]
 else if op = 1 then [114, 45, 45]
 else if op = 2 ∨ op = 11 ∨ op = 13 ∨ op = 14 then [114, 114, 45]
 else if (3 ≤ op ∧ op ≤ 8) ∨ op = 12 then [114, 114, 114]
 else if op = 9 then [112, 45, 45]
 else if op = 10 then [114, 112, 45]
 else []
theorem op_cases (op : Int) : (op = 0 ∨ op = 1 ∨ op = 2 ∨ op = 3 ∨ op = 4 ∨ op = 5 ∨ op = 6 ∨ op = 7 ∨ op = 8 ∨ op = 9 ∨ op = 10 ∨ op = 11 ∨ op = 12 ∨ op = 13 ∨ op = 14) ∨ (¬ op = 0 ∧ ¬ op = 1 ∧ ¬ op = 2 ∧ ¬ op = 3 ∧ ¬ op = 4 ∧ ¬ op = 5 ∧ ¬ op = 6 ∧ ¬ op = 7 ∧ ¬ op = 8 ∧ ¬ op = 9 ∧ ¬ op = 10 ∧ ¬ op = 11 ∧ ¬ op = 12 ∧ ¬ op = 13 ∧ ¬ op = 14) := by omega
theorem needs_any (op : Int) (w : World) : Calls Tryz.prog 346 #[.int .i64 op] w fun r w' => r = .returned (.string (S (needB op))) ∧ w = w' := by
 rcases op_cases op with h | ⟨h0, h1, h2, h3, h4, h5, h6, h7, h8, h9, h10, h11, h12, h13, h14⟩
 ·rcases h with rfl | rfl | rfl | rfl | rfl | rfl | rfl | rfl | rfl | rfl | rfl | rfl | rfl | rfl | rfl
  all_goals
   go_enter Tryz.func346, Tryz.ntmps346
   go_wp2
   go_ret
   exact ⟨rfl, rfl⟩
 ·have e : needB op = [] := by
   unfold needB
   rw [if_neg h0, if_neg h1, if_neg (by omega), if_neg (by omega), if_neg h9, if_neg h10]
  rw [e]
  go_enter Tryz.func346, Tryz.ntmps346
  go_wp2
  go_ret
  exact ⟨rfl, rfl⟩
def metB (ch : UInt8) (n len : Int) : Bool := if ch = 114 then rgB n else if ch = 112 then plB n len else true
def partI (x : In) (j : Nat) : Int := if j = 0 then x.a else if j = 1 then x.b else x.c
theorem need_all (x : In) (len : Int) : insB x len = (!(needB x.op).isEmpty && ((List.range (needB x.op).length).all fun j => metB ((needB x.op).getD j 0) (partI x j) len)) := by
 have hr : List.range 3 = [0, 1, 2] := rfl
 rcases op_cases x.op with h | ⟨h0, h1, h2, h3, h4, h5, h6, h7, h8, h9, h10, h11, h12, h13, h14⟩
 ·rcases h with h | h | h | h | h | h | h | h | h | h | h | h | h | h | h
  all_goals
   unfold insB needB
   simp [h, metB, partI, hr]
 ·have e : needB x.op = [] := by
   unfold needB
   rw [if_neg h0, if_neg h1, if_neg (by omega), if_neg (by omega), if_neg h9, if_neg h10]
  have e2 : insB x len = false := by
   unfold insB
   rw [if_neg h0, if_neg h1, if_neg (by omega), if_neg (by omega), if_neg h9, if_neg h10]
  rw [e, e2]
  rfl
theorem reg_any (n : Int) (w : World) : Calls Tryz.prog 255 #[.int .i64 n] w fun r w' => r = .returned (.bool (rgB n)) ∧ w = w' := by
 unfold rgB
 by_cases h1 : 0 ≤ n
 ·by_cases h2 : n ≤ 7
  ·rw [decide_eq_true h1, decide_eq_true h2]
   go_enter Tryz.func255, Tryz.ntmps255
   go_wp2
   go_ret
   exact ⟨rfl, rfl⟩
  ·rw [decide_eq_true h1, decide_eq_false h2]
   go_enter Tryz.func255, Tryz.ntmps255
   go_wp2
   go_ret
   exact ⟨rfl, rfl⟩
 ·rw [decide_eq_false h1]
  go_enter Tryz.func255, Tryz.ntmps255
  go_wp2
  go_ret
  exact ⟨rfl, rfl⟩
end
section
open Go.RowKit Go.Lib
theorem needB_len (op : Int) : (needB op).length ≤ 3 := by
 unfold needB
 repeat' split
 all_goals simp
theorem needB_small (op : Int) : ∀ b ∈ needB op, b.toNat < 128 := by
 unfold needB
 repeat' split
 all_goals simp
theorem metB_cases (ch : UInt8) (n len : Int) : (metB ch n len = false ∧ ((ch.toNat = 114 ∧ n < 0) ∨ (ch.toNat = 114 ∧ ¬ n < 0 ∧ 7 < n) ∨ (ch.toNat = 112 ∧ n < 0) ∨ (ch.toNat = 112 ∧ ¬ n < 0 ∧ len < n))) ∨
  (metB ch n len = true ∧ ((ch.toNat = 114 ∧ ¬ n < 0 ∧ ¬ 7 < n) ∨ (ch.toNat = 112 ∧ ¬ n < 0 ∧ ¬ len < n) ∨ (ch.toNat ≠ 114 ∧ ch.toNat ≠ 112))) := by
 unfold metB rgB plB
 by_cases h1 : ch = 114
 ·subst h1
  by_cases h2 : n < 0
  ·left; simp; omega
  ·by_cases h3 : 7 < n
   ·left; simp; omega
   ·right; simp; omega
 ·by_cases h2 : ch = 112
  ·subst h2
   by_cases h2 : n < 0
   ·left; simp; omega
   ·by_cases h3 : len < n
    ·left; simp; omega
    ·right; simp; omega
  ·right
   have e1 : ch.toNat ≠ 114 := fun h => h1 (UInt8.toNat_inj.1 h)
   have e2 : ch.toNat ≠ 112 := fun h => h2 (UInt8.toNat_inj.1 h)
   simp [h1, h2, e1, e2]
set_option maxHeartbeats 16000000 in
theorem ins_any (x : In) (len : Int) (w : World) :
  Calls Tryz.prog 244 #[.agg #[.int .i64 x.op, .int .i64 x.a, .int .i64 x.b, .int .i64 x.c], .int .i64 len] w fun r w' => r = .returned (.bool (insB x len)) ∧ Below w.heap.size w w' := by
 obtain ⟨W1, hW1⟩ : ∃ W1, W1 = (w.alloc (.cells #[.int .i64 x.op, .int .i64 x.a, .int .i64 x.b, .int .i64 x.c] 192)).alloc (.cells #[.int .i64 x.a, .int .i64 x.b, .int .i64 x.c] 496) := ⟨_, rfl⟩
 have hb1 : Below w.heap.size w W1 := by rw [hW1]; exact ((Below.refl _ w).alloc (Nat.le_refl _) _).alloc (by simp) _
 have hP : Blk W1 (w.heap.size + 1) 496 #[.int .i64 x.a, .int .i64 x.b, .int .i64 x.c] := by rw [hW1]; simpa using Blk.new (w.alloc (.cells #[.int .i64 x.op, .int .i64 x.a, .int .i64 x.b, .int .i64 x.c] 192)) 496 #[.int .i64 x.a, .int .i64 x.b, .int .i64 x.c]
 obtain ⟨s, hs⟩ : ∃ s : ByteArray, s = S (needB x.op) := ⟨_, rfl⟩
 have hsz : s.size = (needB x.op).length := by rw [hs]; rfl
 have hl3 := needB_len x.op
 have HI : Hid (∀ p, Below w.heap.size w (W1.iter s p) ∧ ∀ j, j < 3 → (W1.iter s p).cell? ⟨w.heap.size + 1, j, none⟩ = some (.int .i64 (partI x j))) := hid fun p => by
  refine ⟨hb1.alloc (hb1.size) _, fun j hj => ?_⟩
  have := (hP.alloc (.stringIter s p)).cell j
  match j, hj with
  | 0, _ => exact this
  | 1, _ => exact this
  | 2, _ => exact this
 have HN := hid (fun W => needs_any x.op W)
 have hz : W1.heap.size = w.heap.size + 1 + 1 := by rw [hW1]; simp
 obtain ⟨r0, hr0⟩ : ∃ r, r = insB x len := ⟨_, rfl⟩
 rw [← hr0]
 have HR := hid (hr0.trans (need_all x len))
 rw [← hs] at HN
 have HS := hid (⟨hs, hl3⟩ : _ ∧ _)
 have HW1 := hid hW1
 have HZ1 := hid hz
 have HNX : Hid (∀ (j : Nat) (h : j < s.size) (ty : TypeId), (Instr.next (.pointer (some ⟨w.heap.size + 1 + 1, 0, none⟩)) true ty).run Tryz.prog (W1.iter s j) = .ok (.tuple #[.bool true, .int .i64 j, .int .i32 ((needB x.op).getD j 0).toNat]) (W1.iter s (j + 1))) := hid fun j h ty => by
  have e : s[j]'h = (needB x.op).getD j 0 := by
   have h' : j < (needB x.op).length := by rw [← hsz]; exact h
   subst hs
   rw [List.getD_eq_getElem?_getD, List.getElem?_eq_getElem h']
   rfl
  have := run_next_ascii (P := Tryz.prog) W1 s j ty h (by rw [e, List.getD_eq_getElem?_getD, List.getElem?_eq_getElem (by rw [← hsz]; exact h)]; exact needB_small _ _ (List.getElem_mem _))
  rw [e, hz] at this
  exact this
 have hne : Tryz.prog.underlying 9 = some .string := by kernel_rfl
 have hrg := run_range_string (P := Tryz.prog) W1 9 s hne
 clear hr0 hs hW1 hb1 hP hne hz
 go_enter Tryz.func244, Tryz.ntmps244
 go_wp2_with ((with_reducible refine (HN.out _).mono ?_); rintro r w' ⟨rfl, rfl⟩)
 rw [← HW1.out]
 have HSZ := hid hsz
 obtain ⟨m, hm⟩ : ∃ m, m = s.size := ⟨_, rfl⟩
 have hm3 : m ≤ 3 := by omega
 have HM := hid hm
 clear hsz hm hl3 hrg
 go_loopg [7] (m + 1) (fun gg s7 wr => ∃ j, j ≤ m ∧ m + 1 - j ≤ gg ∧ Hid (∀ i, i < j → metB ((needB x.op).getD i 0) (partI x i) len = true) ∧ W1.iter s j = wr)
 case atStart => exact ⟨0, by omega, by omega, hid (fun i hi => absurd hi (by omega)), rfl⟩
 case round =>
  obtain ⟨j, hj, hgg, HJ, hwr⟩ := hrel
  subst hwr
  by_cases hjm : j < m
  ·have hnx := HNX.out j (by rw [← HM.out]; exact hjm)
   obtain ⟨c, hc⟩ : ∃ c, c = (needB x.op).getD j 0 := ⟨_, rfl⟩
   obtain ⟨n, hn⟩ : ∃ n, n = partI x j := ⟨_, rfl⟩
   have hp := (HI.out (j + 1)).2 j (by omega)
   rw [← hc] at hnx
   rw [← hn] at hp
   have hj3 : (j : Int) < 3 := by omega
   have hj0 : (0 : Int) ≤ (j : Int) := by omega
   obtain ⟨hmB, hcs⟩ | ⟨hmB, hcs⟩ := metB_cases c n len
   ·have HZ : Hid (r0 = false) := hid (by
     rw [HR.out, Bool.and_eq_false_iff]
     right
     rw [List.all_eq_false]
     exact ⟨j, List.mem_range.2 (by rw [← HSZ.out, ← HM.out]; exact hjm), by rw [← hc, ← hn, hmB]; simp⟩)
    have HQ := hid (HI.out (j + 1)).1
    clear hmB hc hn hjm
    rcases hcs with ⟨h1, h2⟩ | ⟨h1, h2, h3⟩ | ⟨h1, h2⟩ | ⟨h1, h2, h3⟩
    all_goals
     rw [h1] at hnx
     clear h1
     go_wp2
     go_ret
     rw [HZ.out]
     exact ⟨rfl, HQ.out⟩
   ·have HJ2 : Hid (∀ i, i < j + 1 → metB ((needB x.op).getD i 0) (partI x i) len = true) := hid fun i hi => by
     by_cases e : i = j
     ·rw [e, ← hc, ← hn]; exact hmB
     ·exact HJ.out i (by omega)
    clear hmB hc hn
    rcases hcs with ⟨h1, h2, h3⟩ | ⟨h1, h2, h3⟩ | ⟨h1, h2⟩
    ·rw [h1] at hnx
     clear h1
     go_wp2
     go_roundg (m + 1 - (j + 1))
     case measure => omega
     case rel => exact ⟨j + 1, by omega, by omega, HJ2, rfl⟩
    ·rw [h1] at hnx
     clear h1
     go_wp2
     go_roundg (m + 1 - (j + 1))
     case measure => omega
     case rel => exact ⟨j + 1, by omega, by omega, HJ2, rfl⟩
    ·have e1 : ((c.toNat : Int) == 114) = false := beq_eq_false_iff_ne.2 (by omega)
     have e2 : ((c.toNat : Int) == 112) = false := beq_eq_false_iff_ne.2 (by omega)
     clear h1 h2
     go_wp2
     go_roundg (m + 1 - (j + 1))
     case measure => omega
     case rel => exact ⟨j + 1, by omega, by omega, HJ2, rfl⟩
  ·have hnx : ∀ ty, (Instr.next (.pointer (some ⟨w.heap.size + 1 + 1, 0, none⟩)) true ty).run Tryz.prog (W1.iter s j) = .ok (.tuple #[.bool false]) (W1.iter s j) := fun ty => by
    have := run_next_end (P := Tryz.prog) W1 s j ty (by rw [← HM.out]; exact hjm)
    rwa [HZ1.out] at this
   have HQ := hid (HI.out j).1
   have HZ : Hid (r0 = !(needB x.op).isEmpty) := hid (by
    rw [HR.out, (List.all_eq_true.2 fun i hi => HJ.out i (by have := List.mem_range.1 hi; rw [← HSZ.out, ← HM.out] at this; omega)), Bool.and_true])
   have HE : Hid (s.toList = needB x.op) := hid (by rw [HS.out.1, S_toList])
   go_wp2
   go_ret
   rw [HZ.out, ← HE.out]
   exact ⟨rfl, HQ.out⟩
end
section
open Go.RowKit Go.Lib
section
variable {W : World} {q : Option Addr} {n c : Nat} {l : List In}
theorem insAt (hv : Vw 4 inC W (.slice q n c) l) {j : Nat} {x : In} (hx : l[j]? = some x) : ∃ b o, q = some ⟨b, o, none⟩ ∧ ∀ W', Below W.heap.size W W' → W'.cell? ⟨b, o + j * 4, none⟩ = some (.int .i64 x.op) ∧ W'.cell? ⟨b, o + j * 4 + 1, none⟩ = some (.int .i64 x.a) ∧ W'.cell? ⟨b, o + j * 4 + 2, none⟩ = some (.int .i64 x.b) ∧ W'.cell? ⟨b, o + j * 4 + 3, none⟩ = some (.int .i64 x.c) := by
 obtain ⟨b, o, c', e, _, hb, k⟩ := hv.ex (by intro e; rw [e] at hx; simp at hx)
 injection e with e1 _ _
 refine ⟨b, o, e1, fun W' hW => ?_⟩
 have e : ∀ i, W'.cell? ⟨b, i, none⟩ = W.cell? ⟨b, i, none⟩ := fun i => hW.cell (p := ⟨b, i, none⟩) hb
 simp only [e]
 exact ⟨k j x hx 0 _ rfl, k j x hx 1 _ rfl, k j x hx 2 _ rfl, k j x hx 3 _ rfl⟩
theorem prog1_any {g : Nat} {T : TypeId} (hg : Blk W g T #[.slice q n c]) (x : In) :
  Calls Tryz.prog 243 #[.agg #[.int .i64 x.op, .int .i64 x.a, .int .i64 x.b, .int .i64 x.c], .pointer (some ⟨g, 0, none⟩)] W fun r w' => r = .returned (.bool (insB x n)) ∧ Below W.heap.size W w' := by
 have HB := hid ((Below.refl _ W).alloc (Nat.le_refl _) (.cells #[.int .i64 x.op, .int .i64 x.a, .int .i64 x.b, .int .i64 x.c] 192))
 have c0 : (W.alloc (.cells #[.int .i64 x.op, .int .i64 x.a, .int .i64 x.b, .int .i64 x.c] 192)).cell? ⟨g, 0, none⟩ = some (.slice q n c) := (hg.alloc _).cell 0
 have HI := hid (fun W => ins_any x n W)
 clear hg
 go_enter Tryz.func243, Tryz.ntmps243
 go_wp2_with fail
 (with_reducible refine (HI.out _).mono ?_)
 rintro r w1 ⟨rfl, hb1⟩
 have HF := hid (HB.out.trans (hb1.mono (by simp)))
 clear hb1
 go_wp2
 go_ret
 exact ⟨rfl, HF.out⟩
set_option maxHeartbeats 16000000 in
theorem program_any (hv : Vw 4 inC W (.slice q n c) l) (hn : n = l.length) (hnb : n ≤ 1000) :
  Calls Tryz.prog 166 #[.slice q n c] W fun r w' => r = .returned (.bool (progB l)) ∧ Below W.heap.size W w' := by
 obtain ⟨W1, hW1⟩ : ∃ W1, W1 = W.alloc (.cells #[.slice q n c] 113) := ⟨_, rfl⟩
 have hb1 : Below W.heap.size W W1 := by rw [hW1]; exact (Below.refl _ W).alloc (Nat.le_refl _) _
 have hB1 : Blk W1 W.heap.size 113 #[.slice q n c] := by rw [hW1]; exact Blk.new W _ _
 have HB : Hid (∀ W', Below W1.heap.size W1 W' → Blk W' W.heap.size 113 #[.slice q n c] ∧ Below W.heap.size W W') := hid fun W' hW => ⟨hB1.below hW hB1.lt, hb1.trans (hW.mono hb1.size)⟩
 have hmf : ∀ (fn : Fn) (first cap : Array Value) (w : World), (Instr.makeFunc fn first cap).run Tryz.prog w = .ok (.func fn first cap) w := fun _ _ _ _ => rfl
 obtain ⟨r0, hr0⟩ : ∃ r, r = progB l := ⟨_, rfl⟩
 rw [← hr0]
 have HR := hid hr0
 have HV := hid (⟨hv, hn⟩ : _ ∧ _)
 have HW1 := hid hW1
 have c0 : W1.cell? ⟨W.heap.size, 0, none⟩ = some (.slice q n c) := hB1.cell 0
 have HWN := hid (fun W => mwithin_any n 1 48 W)
 clear hr0 hv hn hW1 hb1 hB1
 go_enter Tryz.func166, Tryz.ntmps166
 go_wp2
 rw [← HW1.out]
 go_loopg [9] (n + 1) (fun gg s9 wr => ∃ j : Nat, j ≤ n ∧ n + 1 - j ≤ gg ∧ s9 = .int .i64 j ∧ Hid ((l.take j).all (fun x => insB x l.length) = true) ∧ Hid (Below W1.heap.size W1 wr))
 case atStart => exact ⟨0, by omega, by omega, rfl, hid (by simp), hid (Below.refl _ _)⟩
 case round =>
  obtain ⟨j, hj, hgg, rfl, HJ, HBW⟩ := hrel
  by_cases hjn : j < n
  ·obtain ⟨x, hx⟩ : ∃ x, l[j]? = some x := ⟨_, List.getElem?_eq_getElem (by rw [← HV.out.2]; exact hjn)⟩
   obtain ⟨b, o, rfl, hxc⟩ := insAt HV.out.1 hx
   obtain ⟨x0, x1, x2, x3⟩ := hxc wr (HB.out _ HBW.out).2
   have hji : (j : Int) < (n : Int) := by omega
   have hnz : (n : Int) ≤ 1000 := by omega
   obtain ⟨wo, hwo⟩ : ∃ wo, wo = wr.alloc (.cells #[.int .i64 x.op, .int .i64 x.a, .int .i64 x.b, .int .i64 x.c] 192) := ⟨_, rfl⟩
   have hbo : Below W1.heap.size W1 wo := by rw [hwo]; exact HBW.out.alloc HBW.out.size _
   have HP := hid (prog1_any (HB.out _ hbo).1 x)
   have HJN := hid hjn
   have HX := hid hx
   have HWO := hid hwo
   have HBO := hid hbo
   clear hx hxc hwo hbo
   go_wp2_with fail
   rw [← HWO.out]
   (with_reducible refine HP.out.mono ?_)
   rintro r w1 ⟨rfl, hb1⟩
   obtain ⟨go, hgo⟩ : ∃ go, go = insB x n := ⟨_, rfl⟩
   rw [← hgo]
   have HG := hid (⟨hgo, HBO.out.trans (hb1.mono HBO.out.size)⟩ : _ ∧ _)
   clear hgo hb1 x0 x1 x2 x3
   cases go with
   | true =>
    have HJ2 : Hid ((l.take (j + 1)).all (fun x => insB x l.length) = true) := hid (by rw [all_take_next _ HX.out, HJ.out, ← HV.out.2, ← HG.out.1]; rfl)
    go_wp2
    go_roundg (n + 1 - (j + 1))
    case measure => omega
    case rel => exact ⟨j + 1, by have := HJN.out; omega, by omega, by go_num, HJ2, hid HG.out.2⟩
   | false =>
    have HZ : Hid (r0 = false) := hid (by rw [HR.out]; unfold progB; rw [all_take_no HX.out (by rw [← HV.out.2, ← HG.out.1]), Bool.false_and])
    go_wp2
    go_ret
    rw [HZ.out]
    exact ⟨rfl, (HB.out _ HG.out.2).2⟩
  ·have hji : ¬ (j : Int) < (n : Int) := by omega
   have HZ : Hid (r0 = decide ((1 : Int) ≤ n ∧ (n : Int) ≤ 48)) := hid (by
    have h1 := HJ.out
    rw [List.take_of_length_le (by rw [← HV.out.2]; omega)] at h1
    rw [HR.out]
    unfold progB
    rw [h1, Bool.true_and, ← HV.out.2, ← Bool.decide_and]
    exact decide_eq_decide.2 (by omega))
   have HWN2 : Hid (∀ W', Calls Tryz.prog 167 #[.int .i64 n, .int .i64 1, .int .i64 48] W' fun r w' => r = .returned (.bool r0) ∧ W' = w') := hid fun W' => by rw [HZ.out]; exact HWN.out W'
   have c1 : wr.cell? ⟨W.heap.size, 0, none⟩ = some (.slice q n c) := (HB.out _ HBW.out).1.cell 0
   go_wp2_with ((with_reducible refine (HWN2.out _).mono ?_); rintro r w' ⟨rfl, rfl⟩)
   go_ret
   exact ⟨rfl, (HB.out _ HBW.out).2⟩
end
end
section
open Go.RowKit Go.Lib
section
variable {W : World} {x : MdV}
def cntB (x : MdV) : Bool := decide ((1 : Int) ≤ x.ln ∧ (x.ln : Int) ≤ 6) && (decide ((1 : Int) ≤ x.pn ∧ (x.pn : Int) ≤ 4) && (decide ((1 : Int) ≤ x.dn ∧ (x.dn : Int) ≤ 8) && decide ((x.im : Int) ≤ 16)))
set_option maxHeartbeats 8000000 in
theorem counts_any (x : MdV) (W : World) :
  Calls Tryz.prog 165 #[.agg (mdC x).toArray] W fun r w' => r = .returned (.bool (cntB x)) ∧ Below W.heap.size W w' := by
 have HB := hid ((Below.refl _ W).alloc (Nat.le_refl _) (.cells (mdC x).toArray 28))
 have HW := hid (fun (n a b : Int) (z : Bool) (h : z = decide (a ≤ n ∧ n ≤ b)) W => (h ▸ mwithin_any n a b W : Calls Tryz.prog 167 #[.int .i64 n, .int .i64 a, .int .i64 b] W fun r w' => r = .returned (.bool z) ∧ W = w'))
 unfold cntB
 unfold mdC at HB ⊢
 obtain ⟨b1, h1⟩ : ∃ b, b = decide ((1 : Int) ≤ x.ln ∧ (x.ln : Int) ≤ 6) := ⟨_, rfl⟩
 obtain ⟨b2, h2⟩ : ∃ b, b = decide ((1 : Int) ≤ x.pn ∧ (x.pn : Int) ≤ 4) := ⟨_, rfl⟩
 obtain ⟨b3, h3⟩ : ∃ b, b = decide ((1 : Int) ≤ x.dn ∧ (x.dn : Int) ≤ 8) := ⟨_, rfl⟩
 rw [← h1, ← h2, ← h3]
 have H1 := hid (HW.out _ _ _ _ h1)
 have H2 := hid (HW.out _ _ _ _ h2)
 have H3 := hid (HW.out _ _ _ _ h3)
 clear h1 h2 h3 HW
 cases b1
 all_goals cases b2
 all_goals cases b3
 all_goals
  go_enter Tryz.func165, Tryz.ntmps165
  go_wp2_with (first | ((with_reducible refine (H1.out _).mono ?_); rintro r w' ⟨rfl, rfl⟩) | ((with_reducible refine (H2.out _).mono ?_); rintro r w' ⟨rfl, rfl⟩) | ((with_reducible refine (H3.out _).mono ?_); rintro r w' ⟨rfl, rfl⟩))
  go_ret
  exact ⟨rfl, HB.out⟩
theorem dlB_nan {d : Nat} (h : fnan d = true) : dlB d = false := by
 unfold dlB fgt
 rw [ford_nan_l h]
 rfl
def lpR (n : Nat) (q : LpR) : Bool := decide ((0 : Int) ≤ q.k ∧ q.k ≤ (n : Int) - 1) && decide ((q.n : Int) ≤ 8)
def iniR (n : Nat) (y : Ini) : Bool := !fnan y.t && decide ((0 : Int) ≤ y.dst ∧ y.dst ≤ (n : Int) - 1)
theorem check_eq (h : MdAt W x) : checkB x.m = ((cntB x && !fnan x.en) && (x.dl.all dlB && (x.ps.all (fun q => progB q.l) && (x.ls.all (lpR x.pn) && x.is.all (iniR x.ln))))) := by
 have e1 : countsB x.m = (cntB x && !fnan x.en) := by
  unfold countsB cntB MdV.m
  simp only [List.length_map, ← Bool.decide_and]
  congr 1
  rw [← h.pn, ← h.ln, ← h.dn, ← h.im]
  exact decide_eq_decide.2 (by omega)
 have e2 : x.m.pr.all progB = x.ps.all (fun q => progB q.l) := by unfold MdV.m; simp only [List.all_map]; rfl
 have e3 : x.m.lp.all (lpB x.m.pr.length) = x.ls.all (lpR x.pn) := by
  unfold MdV.m
  simp only [List.all_map, List.length_map]
  rw [Bool.eq_iff_iff, List.all_eq_true, List.all_eq_true]
  have hz : ∀ q ∈ x.ls, ((lpB x.ps.length ∘ fun q => (q.k, q.l)) q = true ↔ lpR x.pn q = true) := fun q hq => by
   unfold lpB lpR
   simp only [Function.comp, ← Bool.decide_and, decide_eq_true_eq]
   rw [← (h.li q hq).1, ← h.pn]
   omega
  exact ⟨fun g q hq => (hz q hq).1 (g q hq), fun g q hq => (hz q hq).2 (g q hq)⟩
 have e4 : x.m.ini.all (iniB x.m.lp.length) = x.is.all (iniR x.ln) := by
  unfold MdV.m
  simp only [List.length_map]
  rw [← h.ln]
  congr 1
  funext y
  unfold iniB iniR
  congr 1
  exact decide_eq_decide.2 (by omega)
 unfold checkB
 rw [e1, e2, e3, e4]
 rfl
set_option maxHeartbeats 32000000 in
theorem mcheck_any (h : MdAt W x) (hd : x.dn ≤ 1000) (hp : x.pn ≤ 1000) (hl : x.ln ≤ 1000) (hi : x.im ≤ 1000) (hq : ∀ q ∈ x.ps, q.n ≤ 1000) :
  Calls Tryz.prog 65 #[.agg (mdC x).toArray] W fun r w' => r = .returned (.int .i64 (if checkB x.m = true then 0 else 15)) ∧ Below W.heap.size W w' := by
 obtain ⟨W1, hW1⟩ : ∃ W1, W1 = W.alloc (.cells (mdC x).toArray 28) := ⟨_, rfl⟩
 have hb1 : Below W.heap.size W W1 := by rw [hW1]; exact (Below.refl _ W).alloc (Nat.le_refl _) _
 have hB1 := MdB.new h
 rw [← hW1] at hB1
 obtain ⟨e0, he0⟩ : ∃ e : Int, e = if checkB x.m = true then 0 else 15 := ⟨_, rfl⟩
 rw [← he0]
 rw [check_eq h] at he0
 have HE := hid he0
 obtain ⟨dp, hdp⟩ : ∃ p, p = x.dp := ⟨_, rfl⟩
 obtain ⟨pp, hpp⟩ : ∃ p, p = x.pp := ⟨_, rfl⟩
 obtain ⟨lp, hlp⟩ : ∃ p, p = x.lp := ⟨_, rfl⟩
 obtain ⟨ip, hip⟩ : ∃ p, p = x.ip := ⟨_, rfl⟩
 have HC : Hid (∀ W', Below W1.heap.size W1 W' → (W'.cell? ⟨W.heap.size, 0, none⟩ = some (.int .i64 x.seed) ∧ W'.cell? ⟨W.heap.size, 1, none⟩ = some (.float .f64 x.en) ∧ W'.cell? ⟨W.heap.size, 2, none⟩ = some (.slice dp x.dn x.dc) ∧ W'.cell? ⟨W.heap.size, 3, none⟩ = some (.slice pp x.pn x.pc) ∧ W'.cell? ⟨W.heap.size, 4, none⟩ = some (.slice lp x.ln x.lc) ∧ W'.cell? ⟨W.heap.size, 5, none⟩ = some (.slice ip x.im x.ic)) ∧ MdAt W' x ∧ Below W.heap.size W W') := hid fun W' hW => by
  have := hB1.below hW
  rw [hdp, hpp, hlp, hip]
  exact ⟨this.c, this.2, hb1.trans (hW.mono hb1.size)⟩
 have HCN := hid (fun W => counts_any x W)
 have HNN := hid (fun b W => isnan_any b W)
 have HH := hid (⟨h, hq⟩ : _ ∧ _)
 have HW1 := hid hW1
 have HD := hid hdp
 have HP := hid hpp
 have HL := hid hlp
 have HI := hid hip
 unfold mdC at HCN HW1 ⊢
 rw [← hdp, ← hpp, ← hlp, ← hip] at HCN HW1 ⊢
 clear h hq hW1 hb1 hB1 he0 hdp hpp hlp hip
 obtain ⟨b0, hb0⟩ : ∃ b, b = cntB x := ⟨_, rfl⟩
 obtain ⟨n0, hn0⟩ : ∃ b, b = fnan x.en := ⟨_, rfl⟩
 rw [← hb0] at HCN
 have HN0 : Hid (∀ W', Calls Tryz.prog 99 #[.float .f64 x.en] W' fun e w' => e = .returned (.bool n0) ∧ W' = w') := hid fun W' => by rw [hn0]; exact HNN.out _ W'
 rw [← hb0, ← hn0] at HE
 clear hb0 hn0
 go_enter Tryz.func65, Tryz.ntmps65
 go_upto_region 1 with fail
 rw [← HW1.out]
 go_cut [3] from 12 to 19 (fun s3 wc => s3 = .bool (b0 && !n0) ∧ Hid (Below W1.heap.size W1 wc))
 case first =>
  obtain ⟨⟨c0, c1, c2, c3, c4, c5⟩, _, _⟩ := HC.out W1 (Below.refl _ _)
  go_wp2_with fail
  (with_reducible refine (HCN.out _).mono ?_)
  rintro r w1 ⟨rfl, hbw⟩
  clear c0 c1 c2 c3 c4 c5
  obtain ⟨⟨c0, c1, c2, c3, c4, c5⟩, _, _⟩ := HC.out w1 hbw
  have HBW := hid hbw
  clear hbw
  cases b0
  all_goals
   go_wp2_with ((with_reducible refine (HN0.out _).mono ?_); rintro r w' ⟨rfl, rfl⟩)
   go_meet
   case rel => exact ⟨rfl, HBW⟩
 case rest =>
  obtain ⟨rfl, HBW⟩ := hcut
  obtain ⟨a0, ha0⟩ : ∃ a, a = (b0 && !n0) := ⟨_, rfl⟩
  rw [← ha0] at HE ⊢
  clear ha0 HCN HN0
  obtain ⟨⟨c0, c1, c2, c3, c4, c5⟩, _, _⟩ := HC.out wc HBW.out
  go_wp2
  go_loopg [3, 23] x.dn (fun gg s3 s23 wr => ∃ (j : Nat) (b : Bool), j ≤ x.dn ∧ x.dn - j ≤ gg ∧ s3 = .bool b ∧ s23 = .int .i64 j ∧ Hid (b = (a0 && (x.dl.take j).all dlB)) ∧ wc = wr)
  case atStart => exact ⟨0, a0, by omega, by omega, rfl, rfl, hid (by simp), rfl⟩
  case round =>
   obtain ⟨j, b, hj, hgg, rfl, rfl, HJ, hwr⟩ := hrel
   subst hwr
   by_cases hjn : j < x.dn
   ·obtain ⟨d, hd'⟩ : ∃ d, x.dl[j]? = some d := ⟨_, List.getElem?_eq_getElem (by rw [← HH.out.1.dn]; exact hjn)⟩
    obtain ⟨g, o, e1, m0⟩ := (HC.out wc HBW.out).2.1.dly hd'
    obtain rfl : dp = some ⟨g, o, none⟩ := HD.out.trans e1
    have hji : (j : Int) < (x.dn : Int) := by omega
    have hjz : (x.dn : Int) ≤ 1000 := by omega
    have HJN := hid hjn
    have HX : Hid ((x.dl.take (j + 1)).all dlB = ((x.dl.take j).all dlB && dlB d)) := hid (all_take_next _ hd')
    clear hd' e1
    cases b with
    | false =>
     go_wp2
     go_roundg (x.dn - (j + 1))
     case measure => omega
     case rel => exact ⟨j + 1, false, by have := HJN.out; omega, by omega, rfl, by go_num, hid (by rw [HX.out, ← Bool.and_assoc, ← HJ.out]; rfl), rfl⟩
    | true =>
     obtain ⟨nd, hnd⟩ : ∃ b, b = fnan d := ⟨_, rfl⟩
     have HNd : Hid (∀ W', Calls Tryz.prog 99 #[.float .f64 d] W' fun e w' => e = .returned (.bool nd) ∧ W' = w') := hid fun W' => by rw [hnd]; exact HNN.out _ W'
     have HND := hid hnd
     clear hnd
     cases nd
     ·go_wp2_with ((with_reducible refine (HNd.out _).mono ?_); rintro r w' ⟨rfl, rfl⟩)
      go_roundg (x.dn - (j + 1))
      case measure => omega
      case rel => exact ⟨j + 1, dlB d, by have := HJN.out; omega, by omega, rfl, by go_num, hid (by rw [HX.out, ← Bool.and_assoc, ← HJ.out]; rfl), rfl⟩
     ·go_wp2_with ((with_reducible refine (HNd.out _).mono ?_); rintro r w' ⟨rfl, rfl⟩)
      go_roundg (x.dn - (j + 1))
      case measure => omega
      case rel => exact ⟨j + 1, false, by have := HJN.out; omega, by omega, rfl, by go_num, hid (by rw [HX.out, dlB_nan HND.out.symm, Bool.and_false, Bool.and_false]), rfl⟩
   ·have hji : ¬ (j : Int) < (x.dn : Int) := by omega
    have HA1 : Hid (b = (a0 && x.dl.all dlB)) := hid (by rw [HJ.out, List.take_of_length_le (by rw [← HH.out.1.dn]; omega)])
    clear HJ
    go_wp2
    go_loopg [3, 41] x.pn (fun gg s3 s41 wr => ∃ (j : Nat) (b' : Bool), j ≤ x.pn ∧ x.pn - j ≤ gg ∧ s3 = .bool b' ∧ s41 = .int .i64 j ∧ Hid (b' = (b && (x.ps.take j).all fun q => progB q.l)) ∧ Hid (Below W1.heap.size W1 wr))
    case atStart => exact ⟨0, b, by omega, by omega, rfl, rfl, hid (by simp), HBW⟩
    case round =>
     obtain ⟨j, b', hj, hgg, rfl, rfl, HJ, HBr⟩ := hrel
     by_cases hjn : j < x.pn
     ·obtain ⟨q, hq'⟩ : ∃ q, x.ps[j]? = some q := ⟨_, List.getElem?_eq_getElem (by rw [← HH.out.1.pn]; exact hjn)⟩
      obtain ⟨⟨_, _, _, k3, _, _⟩, hmr, _⟩ := HC.out wr HBr.out
      obtain ⟨g, o, e1, m0⟩ := hmr.prg hq'
      obtain rfl : pp = some ⟨g, o, none⟩ := HP.out.trans e1
      have hqm := List.mem_of_getElem? hq'
      obtain ⟨go, hgo⟩ : ∃ b, b = progB q.l := ⟨_, rfl⟩
      have HPR := hid (program_any (hmr.pi q hqm).2 (hmr.pi q hqm).1 (HH.out.2 q hqm))
      rw [← hgo] at HPR
      have hji : (j : Int) < (x.pn : Int) := by omega
      have hjz : (x.pn : Int) ≤ 1000 := by omega
      have HJN := hid hjn
      have HX : Hid (((x.ps.take (j + 1)).all fun q => progB q.l) = (((x.ps.take j).all fun q => progB q.l) && go)) := hid (by rw [hgo]; exact all_take_next (fun q : Prg => progB q.l) hq')
      clear hq' e1 hqm hgo hmr
      cases b' with
      | false =>
       go_wp2
       go_roundg (x.pn - (j + 1))
       case measure => omega
       case rel => exact ⟨j + 1, false, by have := HJN.out; omega, by omega, rfl, by go_num, hid (by rw [HX.out, ← Bool.and_assoc, ← HJ.out]; rfl), HBr⟩
      | true =>
       go_wp2_with fail
       (with_reducible refine HPR.out.mono ?_)
       rintro r w2 ⟨rfl, hb2⟩
       have HB2 := hid (HBr.out.trans (hb2.mono HBr.out.size))
       clear hb2
       go_wp2
       go_roundg (x.pn - (j + 1))
       case measure => omega
       case rel => exact ⟨j + 1, go, by have := HJN.out; omega, by omega, rfl, by go_num, hid (by rw [HX.out, ← Bool.and_assoc, ← HJ.out]; rfl), HB2⟩
     ·have hji : ¬ (j : Int) < (x.pn : Int) := by omega
      have HA2 : Hid (b' = (b && x.ps.all fun q => progB q.l)) := hid (by rw [HJ.out, List.take_of_length_le (by rw [← HH.out.1.pn]; omega)])
      obtain ⟨⟨k0, k1, k2, k3, k4, k5⟩, _, _⟩ := HC.out wr HBr.out
      clear HJ c0 c1 c2 c3 c4 c5
      obtain ⟨w2, rfl⟩ : ∃ w2, w2 = wr := ⟨_, rfl⟩
      have w9 : IntKind.i64.wrap ((x.pn : Int) - 1) = (x.pn : Int) - 1 := by rw [IntKind.wrap_i64]; omega
      have w8 : IntKind.i64.wrap ((x.ln : Int) - 1) = (x.ln : Int) - 1 := by rw [IntKind.wrap_i64]; omega
      go_wp2
      go_loopg [3, 54] x.ln (fun gg s3 s54 wr => ∃ (j : Nat) (c' : Bool), j ≤ x.ln ∧ x.ln - j ≤ gg ∧ s3 = .bool c' ∧ s54 = .int .i64 j ∧ Hid (c' = (b' && (x.ls.take j).all (lpR x.pn))) ∧ Hid (Below W1.heap.size W1 wr))
      case atStart => exact ⟨0, b', by omega, by omega, rfl, rfl, hid (by simp), HBr⟩
      case round =>
       obtain ⟨j, c', hj, hgg, rfl, rfl, HJ, HBr⟩ := hrel
       by_cases hjn : j < x.ln
       ·obtain ⟨q, hq'⟩ : ∃ q, x.ls[j]? = some q := ⟨_, List.getElem?_eq_getElem (by rw [← HH.out.1.ln]; exact hjn)⟩
        obtain ⟨g, o, e1, m0, m1⟩ := (HC.out wr HBr.out).2.1.lpr hq'
        obtain rfl : lp = some ⟨g, o, none⟩ := HL.out.trans e1
        obtain ⟨wo, hwo⟩ : ∃ wo, wo = wr.alloc (.cells #[.int .i64 q.k, .slice q.p q.n q.c] 115) := ⟨_, rfl⟩
        have hbo : Below W1.heap.size W1 wo := by rw [hwo]; exact HBr.out.alloc HBr.out.size _
        have hBo : Blk wo wr.heap.size 115 #[.int .i64 q.k, .slice q.p q.n q.c] := by rw [hwo]; exact Blk.new wr _ _
        obtain ⟨z, hz⟩ : ∃ z, z = decide ((0 : Int) ≤ q.k ∧ q.k ≤ (x.pn : Int) - 1) := ⟨_, rfl⟩
        have HWI : Hid (∀ W', Calls Tryz.prog 167 #[.int .i64 q.k, .int .i64 0, .int .i64 ((x.pn : Int) - 1)] W' fun r w' => r = .returned (.bool z) ∧ W' = w') := hid fun W' => by rw [hz]; exact mwithin_any _ _ _ W'
        have hji : (j : Int) < (x.ln : Int) := by omega
        have hjz : (x.ln : Int) ≤ 1000 := by omega
        have HJN := hid hjn
        have HX : Hid ((x.ls.take (j + 1)).all (lpR x.pn) = ((x.ls.take j).all (lpR x.pn) && (z && decide ((q.n : Int) ≤ 8)))) := hid (by rw [hz]; exact all_take_next _ hq')
        have HBO := hid (⟨hwo, hbo, hBo⟩ : _ ∧ _ ∧ _)
        clear hq' e1 hz hwo hbo hBo
        cases c' with
        | false =>
         go_wp2
         go_roundg (x.ln - (j + 1))
         case measure => omega
         case rel => exact ⟨j + 1, false, by have := HJN.out; omega, by omega, rfl, by go_num, hid (by rw [HX.out, ← Bool.and_assoc, ← HJ.out]; rfl), hid (by rw [← HBO.out.1]; exact HBO.out.2.1)⟩
        | true =>
         obtain ⟨⟨k0, k1, k2, k3, k4, k5⟩, _, _⟩ := HC.out wo HBO.out.2.1
         have q0 : wo.cell? ⟨wr.heap.size, 0, none⟩ = some (.int .i64 q.k) := HBO.out.2.2.cell 0
         have q1 : wo.cell? ⟨wr.heap.size, 1, none⟩ = some (.slice q.p q.n q.c) := HBO.out.2.2.cell 1
         go_upto_region 15 with fail
         rw [← HBO.out.1]
         cases z
         all_goals
          go_wp2_with ((with_reducible refine (HWI.out _).mono ?_); rintro r w' ⟨rfl, rfl⟩)
          go_roundg (x.ln - (j + 1))
          case measure => omega
          case rel => exact ⟨j + 1, _, by have := HJN.out; omega, by omega, rfl, by go_num, hid (by rw [HX.out, ← Bool.and_assoc, ← HJ.out]; simp), hid HBO.out.2.1⟩
       ·have hji : ¬ (j : Int) < (x.ln : Int) := by omega
        have HA3 : Hid (c' = (b' && x.ls.all (lpR x.pn))) := hid (by rw [HJ.out, List.take_of_length_le (by rw [← HH.out.1.ln]; omega)])
        obtain ⟨⟨r0, r1, r2, r3, r4, r5⟩, _, _⟩ := HC.out wr HBr.out
        clear HJ k0 k1 k2 k3 k4 k5
        obtain ⟨w3, rfl⟩ : ∃ w3, w3 = wr := ⟨_, rfl⟩
        go_wp2
        go_loopg [3, 78] x.im (fun gg s3 s78 wr => ∃ (j : Nat) (d' : Bool), j ≤ x.im ∧ x.im - j ≤ gg ∧ s3 = .bool d' ∧ s78 = .int .i64 j ∧ Hid (d' = (c' && (x.is.take j).all (iniR x.ln))) ∧ Hid (Below W1.heap.size W1 wr))
        case atStart => exact ⟨0, c', by omega, by omega, rfl, rfl, hid (by simp), HBr⟩
        case round =>
         obtain ⟨j, d', hj, hgg, rfl, rfl, HJ, HBr⟩ := hrel
         by_cases hjn : j < x.im
         ·obtain ⟨y, hy'⟩ : ∃ q, x.is[j]? = some q := ⟨_, List.getElem?_eq_getElem (by rw [← HH.out.1.im]; exact hjn)⟩
          obtain ⟨g, o, e1, m0, m1, m2⟩ := (HC.out wr HBr.out).2.1.ini hy'
          obtain rfl : ip = some ⟨g, o, none⟩ := HI.out.trans e1
          obtain ⟨wo, hwo⟩ : ∃ wo, wo = wr.alloc (.cells #[.float .f64 y.t, .int .i64 y.dst, .int .i64 y.pay] 152) := ⟨_, rfl⟩
          have hbo : Below W1.heap.size W1 wo := by rw [hwo]; exact HBr.out.alloc HBr.out.size _
          have hBo : Blk wo wr.heap.size 152 #[.float .f64 y.t, .int .i64 y.dst, .int .i64 y.pay] := by rw [hwo]; exact Blk.new wr _ _
          obtain ⟨z, hz⟩ : ∃ z, z = decide ((0 : Int) ≤ y.dst ∧ y.dst ≤ (x.ln : Int) - 1) := ⟨_, rfl⟩
          obtain ⟨nd, hnd⟩ : ∃ z, z = fnan y.t := ⟨_, rfl⟩
          have HWI : Hid (∀ W', Calls Tryz.prog 167 #[.int .i64 y.dst, .int .i64 0, .int .i64 ((x.ln : Int) - 1)] W' fun r w' => r = .returned (.bool z) ∧ W' = w') := hid fun W' => by rw [hz]; exact mwithin_any _ _ _ W'
          have HNd : Hid (∀ W', Calls Tryz.prog 99 #[.float .f64 y.t] W' fun e w' => e = .returned (.bool nd) ∧ W' = w') := hid fun W' => by rw [hnd]; exact HNN.out _ W'
          have hji : (j : Int) < (x.im : Int) := by omega
          have hjz : (x.im : Int) ≤ 1000 := by omega
          have HJN := hid hjn
          have HX : Hid ((x.is.take (j + 1)).all (iniR x.ln) = ((x.is.take j).all (iniR x.ln) && (!nd && z))) := hid (by rw [hz, hnd]; exact all_take_next _ hy')
          have HBO := hid (⟨hwo, hbo, hBo⟩ : _ ∧ _ ∧ _)
          clear hy' e1 hz hnd hwo hbo hBo
          cases d' with
          | false =>
           go_wp2
           go_roundg (x.im - (j + 1))
           case measure => omega
           case rel => exact ⟨j + 1, false, by have := HJN.out; omega, by omega, rfl, by go_num, hid (by rw [HX.out, ← Bool.and_assoc, ← HJ.out]; rfl), hid (by rw [← HBO.out.1]; exact HBO.out.2.1)⟩
          | true =>
           obtain ⟨⟨k0, k1, k2, k3, k4, k5⟩, _, _⟩ := HC.out wo HBO.out.2.1
           have q0 : wo.cell? ⟨wr.heap.size, 0, none⟩ = some (.float .f64 y.t) := HBO.out.2.2.cell 0
           have q1 : wo.cell? ⟨wr.heap.size, 1, none⟩ = some (.int .i64 y.dst) := HBO.out.2.2.cell 1
           go_upto_region 20 with fail
           rw [← HBO.out.1]
           cases nd
           all_goals
            go_wp2_with (first | ((with_reducible refine (HNd.out _).mono ?_); rintro r w' ⟨rfl, rfl⟩) | ((with_reducible refine (HWI.out _).mono ?_); rintro r w' ⟨rfl, rfl⟩))
            go_roundg (x.im - (j + 1))
            case measure => omega
            case rel => exact ⟨j + 1, _, by have := HJN.out; omega, by omega, rfl, by go_num, hid (by rw [HX.out, ← Bool.and_assoc, ← HJ.out]; simp), hid HBO.out.2.1⟩
         ·have hji : ¬ (j : Int) < (x.im : Int) := by omega
          have HA4 : Hid (e0 = if d' = true then 0 else 15) := hid (by
           rw [HE.out, HJ.out, List.take_of_length_le (by rw [← HH.out.1.im]; omega), HA3.out, HA2.out, HA1.out]
           simp only [Bool.and_assoc])
          have HF := hid (HC.out wr HBr.out).2.2
          clear HJ HE HA1 HA2 HA3
          cases d'
          all_goals
           go_wp2
           go_ret
           rw [HA4.out]
           exact ⟨rfl, HF.out⟩
end
end
section
def w64 (z : Int) : Int := Go.RowKit.wrap64 z
def u64 (z : Int) : Int := IntKind.u64.wrap z
def xo (a b : Int) : Int := bits .xor .u64 a b
def stirZ (z : Int) : Int :=
 xo (u64 (xo (u64 (xo z (z / 1073741824) * 13787848793156543929)) (u64 (xo z (z / 1073741824) * 13787848793156543929) / 134217728) * 10723151780598845931)) (u64 (xo (u64 (xo z (z / 1073741824) * 13787848793156543929)) (u64 (xo z (z / 1073741824) * 13787848793156543929) / 134217728) * 10723151780598845931) / 2147483648)
def diceZ (z n : Int) : Int := stirZ (u64 (z + u64 (u64 (u64 n + 1) * 11400714819323198485)))
def belowZ (roll n : Int) : Int := if n < 1 then 0 else roll % n
structure Snt where
 dst : Int
 delay : Int
 pay : Int
structure Vm where
 g : List Int
 w : List Int
 sent : List Snt
 dice : Int
 pos : Int
 n : Nat
def Vm.rg (s : Vm) (i : Int) : Int := s.g.getD i.toNat 0
def Vm.put (s : Vm) (i v : Int) : Vm := { s with g := s.g.set i.toNat v }
def arithV (op b c : Int) : Int × Int :=
 if op = 3 then (w64 (b + c), 0)
 else if op = 4 then (w64 (b - c), 0)
 else if op = 5 then (w64 (b * c), 0)
 else if op = 6 then (if c = 0 then (0, 2) else if c = -1 then (w64 (-b), 0) else (Int.tdiv b c, 0))
 else if op = 7 then (if c = 0 then (0, 2) else if c = -1 then (0, 0) else (Int.tmod b c, 0))
 else (if b < c then 1 else 0, 0)
def oneV (lps wd : Int) (x : In) (s : Vm) : Vm × Int :=
 if x.op = 1 then (s.put x.a x.b, 0)
 else if x.op = 2 then (s.put x.a (s.rg x.b), 0)
 else if x.op = 9 then ({ s with pos := x.a }, 0)
 else if x.op = 10 then (if s.rg x.a = 0 then { s with pos := x.b } else s, 0)
 else if x.op = 11 then (if s.rg x.b < 1 then (s, 4) else ({ s.put x.a (belowZ (diceZ wd s.dice) (s.rg x.b)) with dice := s.dice + 1 }, 0))
 else if x.op = 12 then (if ¬ (0 ≤ s.rg x.a ∧ s.rg x.a < lps) then (s, 6) else if 4 ≤ s.sent.length then (s, 5) else ({ s with sent := s.sent ++ [⟨s.rg x.a, s.rg x.b, s.rg x.c⟩] }, 0))
 else if x.op = 13 then (if ¬ (0 ≤ s.rg x.b ∧ s.rg x.b < s.w.length) then (s, 3) else (s.put x.a (s.w.getD (s.rg x.b).toNat 0), 0))
 else if x.op = 14 then (if ¬ (0 ≤ s.rg x.a ∧ s.rg x.a < s.w.length) then (s, 3) else ({ s with w := s.w.set (s.rg x.a).toNat (s.rg x.b) }, 0))
 else if (arithV x.op (s.rg x.b) (s.rg x.c)).2 = 0 then (s.put x.a (arithV x.op (s.rg x.b) (s.rg x.c)).1, 0) else (s, (arithV x.op (s.rg x.b) (s.rg x.c)).2)
end
section
open Go.RowKit Go.Lib
@[reducible] def faultE (f : Int) : Ending := .panicked [{ v := .iface 533 (.int .i64 f), recovered := false }]
structure RunC where
 rb : Nat
 db : Nat
 pv : Value
 lps : Int
 wd : Int
end
section
structure Ix where
 e : Ev
 n : Int
def Ix.key (x : Ix) : Bs := keyB x.e
end
section
/-! calls of Add -/
/-! the reference -/
/-! what is asked -/
end
section
structure Sn where
 k : Bs
 st : Sta
def Sta.ok (s : Sta) : Prop := ∀ x ∈ s.words, -9223372036854775808 ≤ x ∧ x < 9223372036854775808
/-! the reference's Put, in its order -/
end
section
def okZ (z : Int) : Prop := -9223372036854775808 ≤ z ∧ z < 9223372036854775808
def In.ok (y : In) : Prop := okZ y.op ∧ okZ y.a ∧ okZ y.b ∧ okZ y.c
end
section
open Go.RowKit
section
variable {P : Program} {ops : Array Oper} {Q : Exit → Act → World → Prop} {md : Region.Mode} {S : World → Prop} {t : Nat}
def wpAnyE (P : Program) (md : Region.Mode) (ops : Array Oper) (Q : Exit → Act → World → Prop) (S : World → Prop) (t : Nat) : Nat → Array Bool → Act → World → Prop
 | 0, listed, a, w => Region.ready md ops listed = [] ∧ Q .normal a w
 | fuel + 1, listed, a, w =>
  (Region.ready md ops listed = [] → Q .normal a w) ∧
  ∀ i ∈ Region.ready md ops listed, wpOp P ops Q i (fun a' w' => (i ≠ t → S w') ∧ wpAnyE P md ops Q S t fuel (listed.setIfInBounds i true) a' w') a w
theorem wpAny_of_E : ∀ (fuel : Nat) (listed : Array Bool) (a : Act) (w : World), wpAnyE P md ops Q S t fuel listed a w → wpAny P md ops Q fuel listed a w
 | 0, _, _, _, h => h
 | fuel + 1, _, _, _, h => ⟨h.1, fun i hi => wpOp_mono (fun a' w' h' => wpAny_of_E fuel _ a' w' h'.2) (h.2 i hi)⟩
def needsE (md : Region.Mode) (ops : Array Oper) (i : Nat) : Nat → Nat → Bool
 | 0, _ => false
 | n + 1, t => match ops[t]? with
  | none => false
  | some o => o.after.any fun e => Region.binds md e && (e.on == i || needsE md ops i n e.on)
def closedE (md : Region.Mode) (ops : Array Oper) (listed : Array Bool) : Bool :=
 listed.size == ops.size && (List.range ops.size).all fun j => !listed.getD j false || (match ops[j]? with | none => true | some o => o.after.all fun e => !Region.binds md e || listed.getD e.on false)
theorem closedE_spec {listed : Array Bool} (h : closedE md ops listed = true) : HeadInv md ops ops.size listed := by
 unfold closedE at h
 simp only [Bool.and_eq_true, beq_iff_eq, List.all_eq_true] at h
 refine ⟨h.1, fun j oj hj hl e he hb => ?_, fun t h1 h2 => absurd h1 (by omega)⟩
 have h2 := h.2 j (List.mem_range.2 (Array.getElem?_eq_some_iff.1 hj).1)
 rw [hj, hl] at h2
 simp only [Bool.not_true, Bool.false_or] at h2
 have h3 := (Array.all_eq_true_iff_forall_mem.1 h2) e he
 rw [hb] at h3
 simpa using h3
theorem needsE_spec {i : Nat} {listed : Array Bool} (inv : HeadInv md ops ops.size listed) : ∀ (n t : Nat), needsE md ops i n t = true → (t ∈ Region.ready md ops listed ∨ listed.getD t false = true) → listed.getD i false = true
 | 0, _, h, _ => by cases h
 | n + 1, t, h, ht => by
  unfold needsE at h
  split at h
  ·cases h
  ·next o ho =>
   obtain ⟨e, he, hb⟩ := Array.any_eq_true'.1 h
   simp only [Bool.and_eq_true, Bool.or_eq_true, beq_iff_eq] at hb
   have hl : listed.getD e.on false = true := by
    rcases ht with ht | ht
    ·obtain ⟨_, o', ho', hall⟩ := mem_ready.1 ht
     rw [ho] at ho'
     injection ho' with ho'
     subst ho'
     exact hall e he hb.1
    ·exact inv.closed t o ho ht e he hb.1
   rcases hb.2 with h1 | h1
   ·rw [← h1]; exact hl
   ·exact needsE_spec inv n e.on h1 (.inr hl)
theorem wpAnyE_first {i : Nat} {oi : Oper} {v : Value} (hi : ops[i]? = some oi) (hsel : ∀ (j : Nat) (o : Oper) cs b, ops[j]? = some o → o.op ≠ .select cs b)
  (hQ : ∀ c a w, Q (.panic c) (a.put oi.dst v) w → Q (.panic c) a w) (hn : needsE md ops i ops.size t = true) :
  ∀ (fuel : Nat) (listed : Array Bool) (a : Act) (w : World),
   (∀ j oj, ops[j]? = some oj → j ≠ i → listed.getD j true = false → (∀ e ∈ oj.after, Region.binds md e = true → e.on ≠ i) → oi.apart ops oj = true) →
   HeadInv md ops ops.size listed → i ∈ Region.ready md ops listed → YieldsIf P ops S oi v a → S w →
   wpAnyE P md ops Q S t fuel (listed.setIfInBounds i true) (a.put oi.dst v) w → wpAnyE P md ops Q S t (fuel + 1) listed a w := by
 intro fuel
 induction fuel with
 | zero =>
  intro listed a w _ _ hr hy hS H
  refine ⟨fun h => (by rw [h] at hr; cases hr), fun j hj => ?_⟩
  by_cases hji : j = i
  ·subst hji; exact hy.wpOp hi hS ⟨fun _ => hS, H⟩
  ·have := ready_mono hj hji
   rw [H.1] at this
   cases this
 | succ fuel ih =>
  intro listed a w hfree inv hr hy hS H
  refine ⟨fun h => (by rw [h] at hr; cases hr), fun j hj => ?_⟩
  by_cases hji : j = i
  ·subst hji; exact hy.wpOp hi hS ⟨fun _ => hS, H⟩
  ·have hjt : j ≠ t := fun e => by
    subst e
    have h1 := needsE_spec inv _ _ hn (.inl hj)
    have h0 := (mem_ready.1 hr).1
    rcases Nat.lt_or_ge i listed.size with h' | h'
    ·simp [h'] at h0 h1; rw [h0] at h1; cases h1
    ·simp [Array.getElem?_eq_none h'] at h1
   have h1 := H.2 j (ready_mono hj hji)
   obtain ⟨hjun, oj, hoj, hall⟩ := mem_ready.1 hj
   have hnot : ∀ e ∈ oj.after, Region.binds md e = true → e.on ≠ i := fun e he hb heq => by
    have h1 := hall e he hb
    have h0 := (mem_ready.1 hr).1
    rw [heq] at h1
    rcases Nat.lt_or_ge i listed.size with h' | h'
    ·simp [h'] at h0 h1; rw [h0] at h1; cases h1
    ·simp [Array.getElem?_eq_none h'] at h1
   have h2 := wpOp_putIf hoj (hfree j oj hoj hji hjun hnot) (fun cs b => hsel i oi cs b hi) (fun cs b => hsel j oj cs b hoj) hQ hy h1
   have hfree' : ∀ k ok, ops[k]? = some ok → k ≠ i → (listed.setIfInBounds j true).getD k true = false →
     (∀ e ∈ ok.after, Region.binds md e = true → e.on ≠ i) → oi.apart ops ok = true := fun k ok hk hki hun hno => by
    refine hfree k ok hk hki ?_ hno
    by_cases hjk : j = k
    ·subst hjk; exact hjun
    ·rw [getD_set_ne true hjk] at hun; exact hun
   refine wpOp_mono (fun a' w' h3 => ⟨h3.2.1, ih (listed.setIfInBounds j true) a' w' hfree' (inv.set hj (Array.getElem?_eq_some_iff.1 hoj).1) (ready_mono hr (Ne.symm hji)) h3.1 (h3.2.1 hjt) ?_⟩) h2
   rw [Array.setIfInBounds_comm _ _ hji]
   exact h3.2.2
theorem eTk {i : Nat} {oi : Oper} {v : Value} {fuel : Nat} {listed : Array Bool} {a : Act} {w : World} (hi : ops[i]? = some oi)
  (h3 : (Region.noSelect ops && Region.free md ops listed i && (Region.ready md ops listed).contains i && closedE md ops listed && needsE md ops i ops.size t) = true)
  (hQ : ∀ c a w, Q (.panic c) (a.put oi.dst v) w → Q (.panic c) a w) (hy : YieldsIf P ops S oi v a) (hS : S w)
  (h : wpAnyE P md ops Q S t fuel (listed.setIfInBounds i true) (a.put oi.dst v) w) : wpAnyE P md ops Q S t (fuel + 1) listed a w := by
 simp only [Bool.and_eq_true] at h3
 exact wpAnyE_first hi (Region.noSelect_spec h3.1.1.1.1) hQ h3.2 fuel listed a w (Region.free_spec hi h3.1.1.1.2) (closedE_spec h3.1.2) (by simpa using h3.1.1.2) hy hS h
theorem eRn {i : Nat} {o : Oper} {fuel : Nat} {listed : Array Bool} {a : Act} {w : World} (ho : ops[i]? = some o) (hr : Region.ready md ops listed = [i]) (hit : (i == t) = false)
  (h : ∀ K' : Act → World → Prop, Shut (∀ a w, S w → (S w → wpAnyE P md ops Q S t fuel (listed.setIfInBounds i true) a w) → K' a w) → if Region.wanted o (yielded ops a.tmps) = true then Oper.wp P o a w K' Q else K' (a.put o.dst undef) w) : wpAnyE P md ops Q S t (fuel + 1) listed a w := by
 refine ⟨fun h0 => (by rw [hr] at h0; cases h0), fun j hj => ?_⟩
 rw [hr, List.mem_singleton] at hj
 subst hj
 exact wpOp_step ho fun K' hK => h K' (fun a w hS hW => hK a w ⟨fun _ => hS, hW hS⟩)
theorem eLast {o : Oper} {fuel : Nat} {listed : Array Bool} {a : Act} {w : World} (ho : ops[t]? = some o) (hr : Region.ready md ops listed = [t]) (hz : Region.ready md ops (listed.setIfInBounds t true) = [])
  (h : ∀ K' : Act → World → Prop, Shut (∀ a w, Q .normal a w → K' a w) → if Region.wanted o (yielded ops a.tmps) = true then Oper.wp P o a w K' Q else K' (a.put o.dst undef) w) : wpAnyE P md ops Q S t (fuel + 1) listed a w := by
 refine ⟨fun h0 => (by rw [hr] at h0; cases h0), fun j hj => ?_⟩
 rw [hr, List.mem_singleton] at hj
 subst hj
 refine wpOp_step ho fun K' hK => h K' (fun a w hW => hK a w ⟨fun h => absurd rfl h, ?_⟩)
 cases fuel with
 | zero => exact ⟨hz, hW⟩
 | succ n => exact ⟨fun _ => hW, by rw [hz]; simp⟩
theorem eRegion {id : Nat} {a : Act} {w : World} (S : World → Prop) (t : Nat) (hm : P.follows .mixedOrders = true) (hS : S w.drew)
  (h : S w.drew → wpAnyE P .any ops Q S t ops.size (Array.replicate ops.size false) a w.drew) : (Code.region id ops true).wp P Q a w :=
 wp_region_any hm (wpAny_of_E _ _ _ _ (h hS))
end
theorem gEa {α : Type} (l : List α) (i : Nat) : l.toArray[i]? = l[i]? := by simp
theorem gEb {α : Type} (a : α) (l : List α) (i : Nat) : (a :: l)[i + 1]? = l[i]? := List.getElem?_cons_succ
theorem gEc {α : Type} (a : α) (l : List α) : (a :: l)[0]? = some a := List.getElem?_cons_zero
theorem sEa {α : Type} (l : List α) (i : Nat) (x : α) : l.toArray.setIfInBounds i x = (l.set i x).toArray := by simp
theorem sEb {α : Type} (a b : α) (l : List α) : (a :: l).set 0 b = b :: l := rfl
theorem sEc {α : Type} (a b : α) (l : List α) (i : Nat) : (a :: l).set (i + 1) b = a :: l.set i b := rfl
attribute [irreducible] wpAnyE
end
section
open Go.RowKit Go.Lib
theorem step_app_one {ops : Array Oper} {o : Oper} {a : Act} {K : Act → World → Prop} {Q : Exit → Act → World → Prop} (hgd : o.guard = none) (s x : Operand) (t : TypeId)
  (ho : o.op = .call { callee := .builtin .append, args := #[s, x], argTypes := #[t, t] }) {α : Type} (enc : α → List Value) {e : TypeId} {z : Value} {size bytes : Nat} (hi : (Tryz.prog.info? e).map (fun i => (i.zero, i.size, i.bytes)) = some (some z, size, bytes)) (ht : Tryz.prog.underlying t = some (.slice e))
  (hzs : z.cells.size = size) (hsz : 0 < size) (hby : bytes ≤ 1000) (hk : ∀ x, (enc x).length = size) (hone : ∀ x, ∀ u ∈ enc x, u.oneCell' = true) {B : Nat} {W : World} {v : Value} {l : List α} {n : Nat} (x0 : α) (hown : W.ownsRow B e size v n (rowV enc l)) (hn : n ≤ 100000) (hB : B ≤ W.heap.size)
  (hs : a.eval s = v) (hx : a.eval x = .slice (some ⟨W.heap.size, 0, none⟩) 1 1)
  (h : ∀ v' w', w'.ownsRow B e size v' (n + 1) (rowV enc (l ++ [x0])) → Kp v.ownBlock.toList W w' → (∀ g, v'.ownBlock = some g → v.ownBlock = some g ∨ W.heap.size ≤ g) → K (a.put o.dst v') w') :
  if Region.wanted o (yielded ops a.tmps) = true then Oper.wp Tryz.prog o a (W.alloc (.cells (enc x0).toArray e)) K Q else K (a.put o.dst undef) (W.alloc (.cells (enc x0).toArray e)) := by
 rw [if_pos (by unfold Region.wanted; rw [hgd])]
 obtain ⟨i0, hi0, hz0, hz1, hz2⟩ := info_parts hi
 obtain ⟨v', w', hr, h2, h3, h4⟩ := run_app_fresh (P := Tryz.prog) (W.alloc (.cells (enc x0).toArray e)) B t o.type e i0 z size bytes ht hi0 hz0 hz1 hz2 hzs hsz v n _ (hown.alloc _) ⟨W.heap.size, 0, none⟩ 1 (enc x0) (hk x0) (news_of (Blk.new W e (enc x0).toArray)) (hone x0) (by unfold maxLen; omega)
  (by
   have : (n + 1) * bytes ≤ 100001 * 1000 := Nat.mul_le_mul (by omega) hby
   omega) (by simp; omega)
 unfold Oper.wp execOp
 simp only [ho, resolve, invoke, builtin, Sem.run_bind, Sem.run_pure, Result.andThen_ok, List.map_toArray, List.map_cons, List.map_nil, hs, hx, hr]
 refine h v' w' (by rw [rowV_append, rowV_cons, rowV_nil, List.append_nil]; exact h2) (((Kp.refl _ W).alloc _).grown h3 (fun g hg => .inl (Option.mem_toList.2 hg))) (fun g hg => (h4 g hg).imp id (fun h' => ?_))
 simp at h'
 omega
end
section
open Go.RowKit Go.Lib
theorem own_ne2 {W : World} {B B' n k m k' : Nat} {T U : TypeId} {v u : Value} {xs ys : List Value} (h : W.ownsRow B T k v n xs) (h2 : W.ownsRow B' U k' u m ys) (ht : T ≠ U) {g : Nat} (hv : v.ownBlock = some g) : u.ownBlock ≠ some g := by
 intro hu
 rcases h.2 with ⟨rfl, _⟩ | ⟨g', c, cur, rfl, _, hg, _⟩
 ·cases hv
 ·rcases h2.2 with ⟨rfl, _⟩ | ⟨g2, c2, cur2, rfl, _, hg2, _⟩
  ·cases hu
  ·injection hv with hv
   injection hu with hu
   simp only at hv hu
   subst hv hu
   exact (Blk.ne_ (g := g2) (g' := g2) hg2 hg (Ne.symm ht)) rfl
end
section
open Go.RowKit Go.Lib
theorem own_neb {W : World} {B n k m : Nat} {T U : TypeId} {v u : Value} {xs ys : List Value} (h : W.ownsRow B T k v n xs) {g : Nat} {cs : Array Value} (hb : Blk W g U cs) (ht : T ≠ U) : v.ownBlock ≠ some g := by
 rcases h.2 with ⟨rfl, _⟩ | ⟨g', c, cur, rfl, _, hg, _⟩
 ·simp [Value.ownBlock]
 ·intro e
  injection e with e
  simp only at e
  subst e
  exact (Blk.ne_ (g := g') (g' := g') hg hb ht) rfl
end
end Go.Proofs.YtfkoaooceickiaaGreat
