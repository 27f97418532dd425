/- Parts of the proof: Xzb Xzc. -/
import Derived.Deep.Cut
import Derived.Deep.CutRange
import Derived.Deep.CutBlock
import Derived.Test.YtnnghcooidjlhaaGreatD35
import Derived.Test.YtnnghcooidjlhaaGreatD39
import Derived.Test.YtnnghcooidjlhaaGreatD40
set_option linter.all false
set_option maxRecDepth 100000
namespace Go.Proofs.YtnnghcooidjlhaaGreat
section
open Go.RowKit Go.Lib
theorem below_allocA {w W : World} (h : Below w.heap.size w W) (o : Obj) : Below w.heap.size w (W.alloc o) := h.alloc h.size o
theorem below_ownA {w W W' : World} {B s n : Nat} {T : TypeId} {v : Value} {xs : List Value} (hb : Below w.heap.size w W) (ho : W.ownsRow B T s v n xs) (hB : w.heap.size ≤ B) (hk : Kp v.ownBlock.toList W W') : Below w.heap.size w W' :=
 hb.trans (hk.to_below hb.size (fun x hx => Nat.le_trans hB (ho.lt x (Option.mem_toList.1 hx)).1))
theorem take_snocB {α : Type} {l : List α} {j : Nat} {x : α} (h : l[j]? = some x) : l.take (j + 1) = l.take j ++ [x] := by rw [List.take_add_one, h]; rfl
theorem cutI_of {l : List Ix} {k : Bs} {j : Nat} (h1 : ∀ y ∈ l.take j, y.key < k) (h2 : ∀ y, l[j]? = some y → ¬ y.key < k) (hj : j ≤ l.length) : cutI l k = j := by
 induction l generalizing j with
 | nil => simp at hj; simp [hj, cutI]
 | cons y t ih =>
  rw [cutI_cons]
  cases j with
  | zero => rw [if_neg (h2 y rfl)]
  | succ j =>
   rw [if_pos (h1 y (by simp)), ih (fun z hz => h1 z (by simp [hz])) (fun z hz => h2 z hz) (by simpa using hj)]
structure CutAt (l : List Ix) (k : Bs) (j en : Nat) (q : Int) : Prop where
 cut : cutI l k = j
 en : endR l k = en
 was : wasR l k = q
theorem CutAt.none {l : List Ix} {k : Bs} {j : Nat} (h : cutI l k = j) (hn : l[j]? = none) : CutAt l k j j 0 := ⟨h, by unfold endR; rw [h, hn], by unfold wasR; rw [h, hn]⟩
theorem CutAt.eq {l : List Ix} {k : Bs} {j : Nat} {x : Ix} (h : cutI l k = j) (hx : l[j]? = some x) (hk : x.key = k) : CutAt l k j (j + 1) x.n := ⟨h, by unfold endR; rw [h, hx]; exact if_pos hk, by unfold wasR; rw [h, hx]; exact if_pos hk⟩
theorem CutAt.ne {l : List Ix} {k : Bs} {j : Nat} {x : Ix} (h : cutI l k = j) (hx : l[j]? = some x) (hk : ¬ x.key = k) : CutAt l k j j 0 := ⟨h, by unfold endR; rw [h, hx]; exact if_neg hk, by unfold wasR; rw [h, hx]; exact if_neg hk⟩
def EqAt (l : List Ix) (k : Bs) (j : Nat) (q : Int) (eq : Bool) : Prop := (eq = true ∧ ∃ x, l[j]? = some x ∧ x.key = k) ∨ (eq = false ∧ q = 0 ∧ endR l k = j)
theorem Vw.parts {α : Type} {k : Nat} {enc : α → List Value} {w : World} {b o n c : Nat} {l : List α} (h : Vw k enc w (.slice (some ⟨b, o, none⟩) n c) l) (hn : n = l.length) {j en : Nat} (hj : j ≤ n) (he : en ≤ n) :
  ∃ A, n ≤ c ∧ (if c = en then (some ⟨b, o, none⟩ : Option Addr) else some ⟨b, o + en * k, none⟩) = some A ∧ Vw k enc w (.slice (some ⟨b, o, none⟩) j c) (l.take j) ∧ Vw k enc w (.slice (some A) (n - en) (c - en)) (l.drop en) := by
 obtain ⟨p9, c9, e9, hc9⟩ := h.slice
 injection e9 with e91 e92 e93
 subst e93
 subst hn
 by_cases hc : c = en
 ·refine ⟨_, hc9, if_pos hc, h.take j hj, ?_⟩
  have : l.drop en = [] := List.drop_eq_nil_of_le (by omega)
  rw [this, show l.length - en = 0 by omega]
  exact Vw.nil _ _ _ _ _
 ·exact ⟨_, hc9, if_neg hc, h.take j hj, h.drop en he⟩
section
variable {w W W' : World} {rb : Nat} {lp : Int} {p : Option Addr} {n c : Nat} {l : List Ix}
set_option maxHeartbeats 32000000 in
theorem radd_any (h : RfB W rb lp p n c l) (hp : NilOr p n c) (hl : n ≤ 1000) (hasc : AscI l) (hcn : ∀ x ∈ l, x.n.natAbs ≤ 1000) (e : Ev) (a : Bool) (hr : e.right) (ho : e.ok) :
  Calls Tryz.prog 125 #[.pointer (some ⟨rb, 0, none⟩), evV e, .bool a] W fun r w' => r = .returned (.tuple #[.int .i64 (cntI l (keyB e)), .int .i64 (cntI l (keyB e) + sgI a)]) ∧ ∃ W6 v, Below W.heap.size W W6 ∧ W6.ownsRow W.heap.size 231 7 v (addI l e (sgI a)).length (rowV rC (addI l e (sgI a))) ∧ w' = W6.setCell ⟨rb, 1, none⟩ v := by
 have HN := hid (fun W => norm02_any e.t hr.1 ho.1 W)
 have HKE := hid (fun W => key20_any e.nrm (Ev.nrm_right hr) (Ev.nrm_ok ho) W)
 unfold evV at HKE ⊢
 rw [show e.nrm.t = tn e.t from rfl, show e.nrm.src = e.src from rfl, show e.nrm.n = e.n from rfl, show e.nrm.dst = e.dst from rfl, show e.nrm.pay = e.pay from rfl] at HKE
 have HAD : Hid (addI l e (sgI a) = if cntI l (keyB e.nrm) + sgI a = 0 then l.take (cutI l (keyB e.nrm)) ++ l.drop (endR l (keyB e.nrm)) else l.take (cutI l (keyB e.nrm)) ++ ⟨e.nrm, cntI l (keyB e.nrm) + sgI a⟩ :: l.drop (endR l (keyB e.nrm))) := hid (by rw [keyB_nrm]; exact addR_eq hasc e _)
 have HWA : Hid (wasR l (keyB e.nrm) = cntI l (keyB e.nrm)) := hid (wasR_eq hasc _)
 have hcb := cntI_le hcn (keyB e.nrm)
 rw [← keyB_nrm e]
 obtain ⟨q, hq⟩ : ∃ q, q = cntI l (keyB e.nrm) := ⟨_, rfl⟩
 rw [← hq] at HAD HWA hcb
 have HQ := hid hq
 rw [← hq]
 obtain ⟨d, hd⟩ : ∃ d, d = q + sgI a := ⟨_, rfl⟩
 obtain ⟨R1, hR1⟩ : ∃ R1, R1 = addI l e (sgI a) := ⟨_, rfl⟩
 rw [← hd, ← hR1] at HAD
 rw [← hd, ← hR1]
 clear hR1
 have hwq : IntKind.i64.wrap (q + 1) = q + 1 := by rw [IntKind.wrap_i64]; omega
 have hwd : (a = false ∧ q + 1 = d) ∨ (a = true ∧ IntKind.i64.wrap (q - 1) = d) := by
  cases a
  ·exact .inl ⟨rfl, hd.symm⟩
  ·refine .inr ⟨rfl, ?_⟩
   rw [IntKind.wrap_i64, hd]
   show _ = q + -1
   omega
 have HD : Hid (d = q + 1 ∨ d = q - 1) := hid (by
  rw [hd]
  cases a
  ·exact .inl rfl
  ·exact .inr rfl)
 obtain ⟨W1, hW1⟩ : ∃ W1, W1 = W.alloc (.cells #[.float .f64 e.t, .int .i64 e.src, .int .i64 e.n, .int .i64 e.dst, .int .i64 e.pay] 67) := ⟨_, rfl⟩
 have hb1 : Below W.heap.size W W1 := by rw [hW1]; exact (Below.refl _ W).alloc (Nat.le_refl _) _
 have hB1 : Blk W1 W.heap.size 67 #[.float .f64 e.t, .int .i64 e.src, .int .i64 e.n, .int .i64 e.dst, .int .i64 e.pay] := by rw [hW1]; exact Blk.new W _ _
 obtain ⟨W4, hW4⟩ : ∃ W4, W4 = W1.setCell ⟨W.heap.size, 0, none⟩ (.float .f64 (tn e.t)) := ⟨_, rfl⟩
 have hB4 : Blk W4 W.heap.size 67 #[.float .f64 (tn e.t), .int .i64 e.src, .int .i64 e.n, .int .i64 e.dst, .int .i64 e.pay] := by rw [hW4]; exact hB1.set_ 0 _
 have hb4 : Below W.heap.size W W4 := by rw [hW4]; exact hb1.setCell (Nat.le_refl _) _
 have HX := hid (⟨hW1, hW4, hB1, hb4, hB4, h, hp, hl⟩ : _ ∧ _ ∧ _ ∧ _ ∧ _ ∧ _ ∧ _ ∧ _)
 have hli : (n : Int) ≤ 1000 := by omega
 clear hr ho hasc hcn hcb hq hd hW1 hW4 hb1 hB1 hb4 hB4 h hp hl
 go_enter Tryz.func125, Tryz.ntmps125
 go_wp2_with fail
 (with_reducible refine (HN.out _).mono ?_)
 rintro r W1' ⟨rfl, rfl⟩
 rw [← HX.out.1]
 have c2 : W1.cell? ⟨W.heap.size, 0, none⟩ = some (.float .f64 e.t) := HX.out.2.2.1.cell 0
 have f2 := HX.out.2.2.1.frozen 0
 have hlt := HX.out.2.2.1.lt
 go_wp2_with (with_reducible refine stopLoad 67 rfl ?_)
 rw [← HX.out.2.1]
 with_reducible refine goOn ?_
 clear c2 f2 hlt
 have m0 : W4.cell? ⟨W.heap.size, 0, none⟩ = some (.float .f64 (tn e.t)) := HX.out.2.2.2.2.1.cell 0
 have m1 : W4.cell? ⟨W.heap.size, 1, none⟩ = some (.int .i64 e.src) := HX.out.2.2.2.2.1.cell 1
 have m2 : W4.cell? ⟨W.heap.size, 2, none⟩ = some (.int .i64 e.n) := HX.out.2.2.2.2.1.cell 2
 have m3 : W4.cell? ⟨W.heap.size, 3, none⟩ = some (.int .i64 e.dst) := HX.out.2.2.2.2.1.cell 3
 have m4 : W4.cell? ⟨W.heap.size, 4, none⟩ = some (.int .i64 e.pay) := HX.out.2.2.2.2.1.cell 4
 go_wp2_with fail
 (with_reducible refine (HKE.out _).mono ?_)
 rintro r W5 ⟨rfl, hb5⟩
 have hB5 := HX.out.2.2.2.2.1.below hb5 HX.out.2.2.2.2.1.lt
 have hbW := HX.out.2.2.2.1.trans (hb5.mono HX.out.2.2.2.1.size)
 have hX5 := HX.out.2.2.2.2.2.1.below hbW
 have H5 := hid (⟨hbW, hB5, hX5⟩ : _ ∧ _ ∧ _)
 have l1 : W5.cell? ⟨rb, 1, none⟩ = some (.slice p n c) := hX5.b.cell 1
 have hrl := hX5.b.lt
 clear hb5 hB5 hbW hX5 m0 m1 m2 m3 m4
 go_upto_block 0 with fail
 go_cut [11] from 28 to 48 (fun s11 wc => ∃ j : Nat, s11 = .int .i64 j ∧ Hid (j ≤ n ∧ cutI l (keyB e.nrm) = j) ∧ W5 = wc)
 case first =>
  go_wp2_with fail
  go_loopg [11] n (fun gg s11 wr => ∃ (j : Nat), j ≤ n ∧ n - j ≤ gg ∧ s11 = .int .i64 j ∧ Hid (∀ y ∈ l.take j, y.key < keyB e.nrm) ∧ W5 = wr)
  case atStart => exact ⟨0, by omega, by omega, rfl, hid (by simp), rfl⟩
  case round =>
   obtain ⟨j, hj, hgg, rfl, HI, hwr⟩ := hrel
   subst hwr
   by_cases hje : j < n
   ·obtain ⟨x, hx⟩ : ∃ x, l[j]? = some x := ⟨_, List.getElem?_eq_getElem (by rw [← H5.out.2.2.n]; exact hje)⟩
    obtain ⟨b, o, e1, hC⟩ := H5.out.2.2.at_ hx
    subst e1
    obtain ⟨m0, m1, m2, m3, m4, m5, m6⟩ := hC W5 (Below.refl _ _)
    have hji : (j : Int) < (n : Int) := by omega
    have hbl : Op.bytesLess x.key (keyB e.nrm) = decide (x.key < keyB e.nrm) := bl _ _
    have HTK := hid (take_snocB hx)
    have HNX := hid hx
    clear hx hC m1 m2 m3 m4 m5 m6
    by_cases hk : x.key < keyB e.nrm
    ·rw [decide_eq_true hk] at hbl
     have HK := hid hk
     clear hk
     go_wp2_with fail
     go_roundg (n - (j + 1))
     case measure => omega
     case rel => exact ⟨j + 1, by omega, by omega, by go_num, hid (fun y hy => by
      rw [HTK.out] at hy
      rcases List.mem_append.1 hy with hy | hy
      ·exact HI.out y hy
      ·rw [List.mem_singleton.1 hy]; exact HK.out), rfl⟩
    ·rw [decide_eq_false hk] at hbl
     have HCU : Hid (j ≤ n ∧ cutI l (keyB e.nrm) = j) := hid ⟨hj, cutI_of HI.out (fun y hy => by rw [HNX.out] at hy; injection hy with hy; rw [← hy]; exact hk) (by rw [← H5.out.2.2.n]; exact hj)⟩
     clear hk
     go_wp2_with fail
     go_meet
     case rel => exact ⟨j, rfl, HCU, rfl⟩
   ·have hji : ¬ (j : Int) < (n : Int) := by omega
    have HCU : Hid (j ≤ n ∧ cutI l (keyB e.nrm) = j) := hid ⟨hj, cutI_of HI.out (fun y hy => by have := (List.getElem?_eq_some_iff.1 hy).1; rw [← H5.out.2.2.n] at this; omega) (by rw [← H5.out.2.2.n]; exact hj)⟩
    go_wp2_with fail
    go_meet
    case rel => exact ⟨j, rfl, HCU, rfl⟩
 case rest =>
  obtain ⟨j, rfl, HJ, hwc⟩ := hcut
  subst hwc
  have hj := HJ.out.1
  go_upto_region 9 with fail
  go_cut [68] from 50 to 67 (fun s68 wc => ∃ eq : Bool, s68 = .bool eq ∧ Hid (EqAt l (keyB e.nrm) j q eq) ∧ W5 = wc)
  case first =>
   by_cases hje : j < n
   ·obtain ⟨x, hx⟩ : ∃ x, l[j]? = some x := ⟨_, List.getElem?_eq_getElem (by rw [← H5.out.2.2.n]; exact hje)⟩
    obtain ⟨b, o, e1, hC⟩ := H5.out.2.2.at_ hx
    subst e1
    obtain ⟨m0, m1, m2, m3, m4, m5, m6⟩ := hC W5 (Below.refl _ _)
    have hji : (j : Int) < (n : Int) := by omega
    have HNX := hid hx
    clear hx hC m1 m2 m3 m4 m5 m6
    by_cases hkk : x.key = keyB e.nrm
    ·have hbe : (x.key == keyB e.nrm) = true := by rw [hkk]; exact beq_self_eq_true _
     have HE : Hid (EqAt l (keyB e.nrm) j q true) := hid (.inl ⟨rfl, x, HNX.out, hkk⟩)
     clear hkk
     go_wp2_with fail
     go_meet
     case rel => exact ⟨true, rfl, HE, rfl⟩
    ·have hbe : (x.key == keyB e.nrm) = false := by rw [beq_eq_false_iff_ne]; exact hkk
     have HE : Hid (EqAt l (keyB e.nrm) j q false) := hid (.inr ⟨rfl, by rw [← HWA.out]; exact (CutAt.ne HJ.out.2 HNX.out hkk).was, (CutAt.ne HJ.out.2 HNX.out hkk).en⟩)
     clear hkk
     go_wp2_with fail
     go_meet
     case rel => exact ⟨false, rfl, HE, rfl⟩
   ·have hji : ¬ (j : Int) < (n : Int) := by omega
    have hno : l[j]? = none := List.getElem?_eq_none_iff.2 (by rw [← H5.out.2.2.n]; omega)
    have HE : Hid (EqAt l (keyB e.nrm) j q false) := hid (.inr ⟨rfl, by rw [← HWA.out]; exact (CutAt.none HJ.out.2 hno).was, (CutAt.none HJ.out.2 hno).en⟩)
    clear hno
    go_wp2_with fail
    go_meet
    case rel => exact ⟨false, rfl, HE, rfl⟩
  case rest =>
   obtain ⟨eq, rfl, HE, hwc⟩ := hcut
   subst hwc
   go_upto_if 68 with fail
   go_cut [12, 13] from 69 to 78 (fun s12 s13 wc => ∃ en : Nat, s12 = .int .i64 q ∧ s13 = .int .i64 en ∧ Hid (endR l (keyB e.nrm) = en ∧ en ≤ n) ∧ W5 = wc)
   case first =>
    cases eq
    case false =>
     have HE2 : Hid (q = 0 ∧ endR l (keyB e.nrm) = j ∧ j ≤ n) := hid (by
      rcases HE.out with ⟨h, _⟩ | ⟨_, h1, h2⟩
      ·cases h
      ·exact ⟨h1, h2, HJ.out.1⟩)
     go_wp2_with fail
     go_meet
     case rel => exact ⟨j, by rw [HE2.out.1], rfl, hid HE2.out.2, rfl⟩
    case true =>
     obtain ⟨x, hx, hkk⟩ : ∃ x, l[j]? = some x ∧ x.key = keyB e.nrm := by
      rcases HE.out with ⟨_, h⟩ | ⟨h, _⟩
      ·exact h
      ·cases h
     have hje : j < n := by have := (List.getElem?_eq_some_iff.1 hx).1; rw [← H5.out.2.2.n] at this; exact this
     have hxq : x.n = q := by rw [← HWA.out]; exact (CutAt.eq HJ.out.2 hx hkk).was.symm
     have HEN : Hid (endR l (keyB e.nrm) = j + 1 ∧ j + 1 ≤ n) := hid ⟨(CutAt.eq HJ.out.2 hx hkk).en, hje⟩
     obtain ⟨b, o, e1, hC⟩ := H5.out.2.2.at_ hx
     subst e1
     obtain ⟨m0, m1, m2, m3, m4, m5, m6⟩ := hC W5 (Below.refl _ _)
     rw [hxq] at m6
     have hji : (j : Int) < (n : Int) := by omega
     clear hx hkk hxq hC m0 m1 m2 m3 m4 m5
     go_wp2_with fail
     go_meet
     case rel => exact ⟨j + 1, rfl, by go_num, HEN, rfl⟩
   case rest =>
    obtain ⟨en, rfl, rfl, HEN, hwc⟩ := hcut
    subst hwc
    go_upto_if 81 with fail
    go_cut [14] from 79 to 83 (fun s14 wc => s14 = .int .i64 d ∧ W5 = wc)
    case first =>
     rcases hwd with ⟨rfl, hw⟩ | ⟨rfl, hw⟩
     all_goals
      go_wp2_with fail
      go_meet
      case rel => exact ⟨by first | rw [hw] | rfl, rfl⟩
    case rest =>
     obtain ⟨rfl, hwc⟩ := hcut
     subst hwc
     obtain ⟨mm, hmm⟩ : ∃ mm, mm = (l.drop en).length := ⟨_, rfl⟩
     obtain ⟨T1, hT1⟩ : ∃ T1, T1 = l.take j := ⟨_, rfl⟩
     obtain ⟨D1, hD1⟩ : ∃ D1, D1 = l.drop en := ⟨_, rfl⟩
     rw [← hD1] at hmm
     have hen2 := HEN.out.2
     have HDL : Hid (mm = D1.length ∧ mm ≤ 1000) := hid ⟨hmm, by rw [hmm, hD1, List.length_drop]; have := H5.out.2.2.n; omega⟩
     have HTL : Hid (T1.length = j ∧ j ≤ 1000) := hid ⟨by rw [hT1, List.length_take]; have := H5.out.2.2.n; omega, by omega⟩
     have HRZ : Hid (d = 0 → R1 = T1 ++ [] ++ D1) := hid (fun h => by rw [List.append_nil, hT1, hD1, HAD.out, if_pos h, HJ.out.2, HEN.out.1])
     have HRN : Hid (¬ d = 0 → R1 = T1 ++ [⟨e.nrm, d⟩] ++ D1) := hid (fun h => by rw [hT1, hD1, HAD.out, if_neg h, HJ.out.2, HEN.out.1]; simp)
     have HRB : Hid (∀ W', Below W5.heap.size W5 W' → RfB W' rb lp p n c l) := hid fun W' hb => H5.out.2.2.below hb
     have HEV : Hid (∀ W', Below W5.heap.size W5 W' → W'.cell? ⟨W.heap.size, 0, none⟩ = some (.float .f64 (tn e.t)) ∧ W'.cell? ⟨W.heap.size, 1, none⟩ = some (.int .i64 e.src) ∧ W'.cell? ⟨W.heap.size, 2, none⟩ = some (.int .i64 e.n) ∧ W'.cell? ⟨W.heap.size, 3, none⟩ = some (.int .i64 e.dst) ∧ W'.cell? ⟨W.heap.size, 4, none⟩ = some (.int .i64 e.pay)) := hid fun W' hb => by
      have h := H5.out.2.1.below hb H5.out.2.1.lt
      exact ⟨h.cell 0, h.cell 1, h.cell 2, h.cell 3, h.cell 4⟩
     clear hmm
     rcases HX.out.2.2.2.2.2.2.1 with ⟨hp0, hn0, hc0⟩ | ⟨b, o, hp0⟩
     case' inl =>
      have hl0 : l = [] := List.length_eq_zero_iff.1 (by rw [← H5.out.2.2.n, hn0])
      have hj0 : j = 0 := by omega
      have he0 : en = 0 := by omega
      subst hp0 hn0 hc0 hl0 hj0 he0
      have HVT : Hid (∀ W', Below W5.heap.size W5 W' → Vw 7 rC W' (.slice none 0 0) T1) := hid fun W' _ => by rw [hT1]; exact Vw.nil _ _ _ _ _
      have HVD : Hid (∀ W', Below W5.heap.size W5 W' → Vw 7 rC W' (.slice none 0 0) D1) := hid fun W' _ => by rw [hD1]; exact Vw.nil _ _ _ _ _
     case' inr =>
      subst hp0
      obtain ⟨A, hnc, hA, ht, hdr⟩ := Vw.parts H5.out.2.2.v H5.out.2.2.n hj hen2
      rw [← hT1] at ht
      rw [← hD1] at hdr
      have HVT := hid (fun W' (hb : Below W5.heap.size W5 W') => ht.below hb)
      have HVD := hid (fun W' (hb : Below W5.heap.size W5 W') => hdr.below hb)
      have hjc : j ≤ c := by omega
      have hj0 : (0 : Int) ≤ (j : Int) := by omega
      have hjn2 : (j : Int) ≤ (n : Int) := by omega
      have hjt : (j : Int).toNat = j := by omega
      have hec : en ≤ c := by omega
      have he0 : (0 : Int) ≤ (en : Int) := by omega
      have hen3 : (en : Int) ≤ (n : Int) := by omega
      have het : (en : Int).toNat = en := by omega
      clear ht hdr
     all_goals
      clear hT1 hD1
      go_wp2_with (with_reducible refine stopAt .append rfl ?_)
      with_reducible refine goOn ?_
      refine app_all rfl _ _ 142 rfl rC infIt23 Tryz.underlying142 rfl (by decide) (by decide) rC_len rC_one (l := []) (n := 0) (B := W5.heap.size) (World.ownsRow_made W5 #[] 0 (Nat.le_refl _) (Nat.zero_le _) (by simp)) (HVT.out _ (below_allocA (Below.refl _ _) _)) (by rw [HTL.out.1]; have := HTL.out.2; omega) (by simp) rfl rfl ?_
      intro v7 W7 hO7 hk7
      rw [Nat.zero_add, HTL.out.1, List.nil_append] at hO7
      have hb7 : Below W5.heap.size W5 W7 := below_ownA (below_allocA (Below.refl _ _) _) (World.ownsRow_made W5 #[] 0 (Nat.le_refl _) (Nat.zero_le _) (by simp) : (W5.alloc (.cells #[] 231)).ownsRow W5.heap.size 231 7 (.slice (some ⟨W5.heap.size, 0, none⟩) 0 0) 0 (rowV rC [])) (Nat.le_refl _) hk7
      obtain ⟨p7, c7, rfl⟩ := own_slice2 hO7
      have g1 := (HRB.out W7 hb7).b.cell 1
      have O7 := hid (⟨hO7, hb7⟩ : _ ∧ _)
      obtain ⟨e0, e1, e2, e3, e4⟩ := HEV.out W7 hb7
      clear hO7 hk7 hb7
      go_upto_if 93 with fail
      go_cut [15] from 92 to 100 (fun s15 wc => ∃ (nn : Nat) (p8 : Option Addr) (c8 : Nat) (L : List Ix), s15 = .slice p8 nn c8 ∧ Hid (wc.ownsRow W5.heap.size 231 7 (.slice p8 nn c8) nn (rowV rC (T1 ++ L)) ∧ Below W5.heap.size W5 wc ∧ nn = T1.length + L.length ∧ nn ≤ 2000 ∧ R1 = T1 ++ L ++ D1))
      case first =>
       by_cases hz : d = 0
       ·have HZN := hid (HRZ.out hz)
        go_wp2_with fail
        go_meet
        case rel => exact ⟨_, _, _, [], rfl, hid ⟨by rw [List.append_nil]; exact O7.out.1, O7.out.2, HTL.out.1.symm, by have := HTL.out.2; omega, HZN.out⟩⟩
       ·have HZN := hid (HRN.out hz)
        go_wp2_with (with_reducible refine stopAt .append rfl ?_)
        with_reducible refine goOn ?_
        refine app_one rfl _ _ 142 rfl rC infIt23 Tryz.underlying142 rfl (by decide) (by decide) rC_len rC_one ⟨e.nrm, d⟩ O7.out.1 (by have := HTL.out.2; omega) O7.out.2.size rfl rfl ?_
        intro v8 W8 hO8 hk8 _
        have hb8 := below_ownA O7.out.2 O7.out.1 (Nat.le_refl _) hk8
        obtain ⟨p8, c8, rfl⟩ := own_slice2 hO8
        have O8 := hid (⟨hO8, hb8⟩ : _ ∧ _)
        clear hO8 hk8 hb8
        go_wp2_with fail
        go_meet
        case rel => exact ⟨_, _, _, [⟨e.nrm, d⟩], rfl, hid ⟨O8.out.1, O8.out.2, by rw [HTL.out.1]; rfl, by have := HTL.out.2; omega, HZN.out⟩⟩
      case rest =>
       obtain ⟨nn, p8, c8, L, rfl, H8⟩ := hcut
       clear g1 e0 e1 e2 e3 e4
       have g1 := (HRB.out wc H8.out.2.1).b.cell 1
       go_wp2_with (with_reducible refine stopAt .append rfl ?_)
       with_reducible refine goOn ?_
       refine app_all rfl _ _ 142 rfl rC infIt23 Tryz.underlying142 rfl (by decide) (by decide) rC_len rC_one (B := W5.heap.size) H8.out.1 (HVD.out _ H8.out.2.1) (by have := HDL.out; have := H8.out.2.2.2.1; omega) H8.out.2.1.size rfl rfl ?_
       intro v9 W9 hO9 hk9
       rw [← HDL.out.1] at hO9
       have hb9 := below_ownA H8.out.2.1 H8.out.1 (Nat.le_refl _) hk9
       obtain ⟨p9, c9, rfl⟩ := own_slice2 hO9
       clear g1
       have hR9 := (HRB.out W9 hb9).b
       have g1 := hR9.cell 1
       have gf := hR9.frozen 1
       have gl := hR9.lt
       have O9 := hid (⟨hO9, hb9⟩ : _ ∧ _)
       clear hO9 hk9 hb9 hR9
       go_wp2
       go_ret2
       refine ⟨rfl, W9, _, H5.out.1.trans (O9.out.2.mono H5.out.1.size), ?_, rfl⟩
       rw [H8.out.2.2.2.2]
       have h := own_base O9.out.1 H5.out.1.size
       have hlen : (T1 ++ L ++ D1).length = nn + mm := by rw [List.length_append, List.length_append, ← HDL.out.1, H8.out.2.2.1]
       rw [hlen]
       exact h
end
end
section
open Go.RowKit Go.Lib
def stepD (l : List Ix) (y : A23) : List Ix := if y.kd = 6 then (if y.e.right then forgI l (keyB y.e) else l) else if 0 ≤ y.kd ∧ y.kd ≤ 5 then stepI 1 l y.p else l
section
variable {w W : World} {ib : Nat} {s : SL} {rb j : Nat} {l : List Ix}
set_option maxHeartbeats 8000000 in
theorem do23_forget (h : Bo w W ib s rb j [] l l) (hj : j ≤ 100) (y : A23) (hy : y.e.ok) (hk : y.kd = 6) (hr : y.e.right) :
  Calls Tryz.prog 70 #[.pointer (some ⟨ib, 0, none⟩), .pointer (some ⟨rb, 0, none⟩), .agg (a23C y).toArray] W fun r w' => r = .returned (.bool true) ∧ Bo w w' ib s rb j [] (forgI l (keyB y.e)) (forgI l (keyB y.e)) := by
 have HR := hid (fun W => right20_any y.e W)
 rw [decide_eq_true hr] at HR
 have HK := hid (fun W => key20_any y.e hr hy W)
 unfold evV at HR HK
 have h1 := h.box 97 #[.int .i64 y.kd, .float .f64 y.e.t, .int .i64 y.e.src, .int .i64 y.e.n, .int .i64 y.e.dst, .int .i64 y.e.pay, .bool y.a]
 obtain ⟨W1, hW1⟩ : ∃ W1, W1 = W.alloc (.cells #[.int .i64 y.kd, .float .f64 y.e.t, .int .i64 y.e.src, .int .i64 y.e.n, .int .i64 y.e.dst, .int .i64 y.e.pay, .bool y.a] 97) := ⟨_, rfl⟩
 rw [← hW1, hk] at h1
 rw [hk] at hW1
 have HCL : Hid (∀ W' l l', Bo w W' ib s rb j [(W.heap.size, 97, #[.int .i64 6, .float .f64 y.e.t, .int .i64 y.e.src, .int .i64 y.e.n, .int .i64 y.e.dst, .int .i64 y.e.pay, .bool y.a])] l l' → W'.cell? ⟨W.heap.size, 0, none⟩ = some (.int .i64 6) ∧ W'.cell? ⟨W.heap.size, 1, none⟩ = some (.float .f64 y.e.t) ∧ W'.cell? ⟨W.heap.size, 2, none⟩ = some (.int .i64 y.e.src) ∧ W'.cell? ⟨W.heap.size, 3, none⟩ = some (.int .i64 y.e.n) ∧ W'.cell? ⟨W.heap.size, 4, none⟩ = some (.int .i64 y.e.dst) ∧ W'.cell? ⟨W.heap.size, 5, none⟩ = some (.int .i64 y.e.pay)) := hid fun W' l l' hB => by
  have h := hB.blk (z := (W.heap.size, 97, _)) (by simp; rfl)
  exact ⟨h.cell 0, h.cell 1, h.cell 2, h.cell 3, h.cell 4, h.cell 5⟩
 have hll : l.length ≤ j := h.ok.2.2.1
 have HX := hid (⟨hW1, h1⟩ : _ ∧ _)
 have hjl : j ≤ 1000 := by omega
 have HL := hid (⟨hll, hjl⟩ : _ ∧ _)
 unfold a23C
 rw [hk]
 clear h hy hr hW1 h1 hll hjl hj
 go_enter Tryz.func70, Tryz.ntmps70
 go_wp2_with fail
 (with_reducible refine (HR.out _).mono ?_)
 rintro r W2 ⟨rfl, hb2⟩
 rw [← HX.out.1] at hb2
 have H2 := hid (HX.out.2.below hb2)
 obtain ⟨q0, q1, q2, q3, q4, q5⟩ := HCL.out _ _ _ H2.out
 clear hb2
 go_wp2_with fail
 (with_reducible refine (HK.out _).mono ?_)
 rintro r W3 ⟨rfl, hb3⟩
 have H3 := hid (H2.out.below hb3)
 clear hb3 q0 q1 q2 q3 q4 q5
 obtain ⟨p, n, c, hRf, hnil, hn⟩ := H3.out.rf
 have HF := hid (rforget_any hRf (by have := HL.out; omega) (keyB y.e))
 clear hRf hnil hn
 go_wp2_with fail
 (with_reducible refine HF.out.mono ?_)
 rintro r W5 ⟨rfl, W4, v, hb4, hO4, hW5⟩
 have hB5 := H3.out.turnR hb4 hO4
 rw [← hW5] at hB5
 have H5 := hid hB5
 obtain ⟨q0, q1, q2, q3, q4, q5⟩ := HCL.out _ _ _ H5.out
 clear hB5 hW5 hO4 hb4
 go_wp2_with fail
 (with_reducible refine (HK.out _).mono ?_)
 rintro r W6 ⟨rfl, hb6⟩
 have HG := hid (bo_forget (H5.out.below hb6) (keyB y.e) (by simp))
 clear hb6 q0 q1 q2 q3 q4 q5
 go_wp2_with fail
 (with_reducible refine HG.out.mono ?_)
 rintro r W7 ⟨rfl, hB7⟩
 have H7 := hid hB7.drop
 clear hB7
 go_wp2
 go_ret
 exact ⟨rfl, H7.out⟩
set_option maxHeartbeats 8000000 in
theorem do23_none (h : Bo w W ib s rb j [] l l) (y : A23) (hk : (y.kd = 6 ∧ ¬ y.e.right) ∨ (¬ y.kd = 6 ∧ (y.kd < 0 ∨ 5 < y.kd))) :
  Calls Tryz.prog 70 #[.pointer (some ⟨ib, 0, none⟩), .pointer (some ⟨rb, 0, none⟩), .agg (a23C y).toArray] W fun r w' => r = .returned (.bool true) ∧ Bo w w' ib s rb j [] l l := by
 have HR := hid (fun W => right20_any y.e W)
 unfold evV at HR
 obtain ⟨W1, hW1⟩ : ∃ W1, W1 = W.alloc (.cells #[.int .i64 y.kd, .float .f64 y.e.t, .int .i64 y.e.src, .int .i64 y.e.n, .int .i64 y.e.dst, .int .i64 y.e.pay, .bool y.a] 97) := ⟨_, rfl⟩
 have hb1 : Below W.heap.size W W1 := by rw [hW1]; exact (Below.refl _ W).alloc (Nat.le_refl _) _
 have HX := hid (⟨hW1, h.below hb1⟩ : _ ∧ _)
 unfold a23C
 rcases hk with ⟨hk, hr⟩ | ⟨hk, hk2⟩
 ·rw [decide_eq_false hr] at HR
  rw [hk] at HX ⊢
  clear h hr hb1 hW1 hk
  go_enter Tryz.func70, Tryz.ntmps70
  go_wp2_with fail
  (with_reducible refine (HR.out _).mono ?_)
  rintro r W2 ⟨rfl, hb2⟩
  rw [← HX.out.1] at hb2
  have H2 := hid (HX.out.2.below hb2)
  clear hb2
  go_wp2
  go_ret
  exact ⟨rfl, H2.out⟩
 ·have HF := hid HX.out.2
  rw [hW1] at HF
  clear h hb1 hW1 HX
  have hc : y.kd < 0 ∨ (¬ y.kd < 0 ∧ 5 < y.kd) := by omega
  clear hk2
  rcases hc with h0 | ⟨h0, h1⟩
  all_goals
   go_enter Tryz.func70, Tryz.ntmps70
   go_wp2
   go_ret
   exact ⟨rfl, HF.out⟩
set_option maxHeartbeats 8000000 in
theorem do23_add (h : Bo w W ib s rb j [] l l) (hj : j ≤ 100) (y : A23) (hy : y.e.ok) (hk : ¬ y.kd = 6 ∧ 0 ≤ y.kd ∧ y.kd ≤ 5) (hr : y.e.right ∧ y.e.dst = 1) :
  Calls Tryz.prog 70 #[.pointer (some ⟨ib, 0, none⟩), .pointer (some ⟨rb, 0, none⟩), .agg (a23C y).toArray] W fun r w' => r = .returned (.bool true) ∧ Bo w w' ib s rb (j + 1) [] (addI l y.e (sgI y.a)) (addI l y.e (sgI y.a)) := by
 have HR := hid (fun W => right20_any y.e W)
 rw [decide_eq_true hr.1] at HR
 obtain ⟨W1, hW1⟩ : ∃ W1, W1 = W.alloc (.cells #[.int .i64 y.kd, .float .f64 y.e.t, .int .i64 y.e.src, .int .i64 y.e.n, .int .i64 y.e.dst, .int .i64 y.e.pay, .bool y.a] 97) := ⟨_, rfl⟩
 have h1 := h.box 97 #[.int .i64 y.kd, .float .f64 y.e.t, .int .i64 y.e.src, .int .i64 y.e.n, .int .i64 y.e.dst, .int .i64 y.e.pay, .bool y.a]
 rw [← hW1] at h1
 have HA := hid (bo_add h1 hj y.e y.a hr.1 hy hr.2)
 obtain ⟨cn, hcn⟩ : ∃ cn, cn = cntI l (keyB y.e) := ⟨_, rfl⟩
 have HY := hid (⟨hr.1, hy, h.ok, hcn⟩ : _ ∧ _ ∧ _ ∧ _)
 rw [← hcn] at HA
 unfold evV at HR
 unfold msgV at HA
 rw [hW1] at HA
 have hjl : j + 1 ≤ 1000 := by omega
 have HL := hid hjl
 unfold a23C
 have HD1 : Hid (y.e.dst = 1) := hid hr.2
 obtain ⟨k0, k1, k2⟩ := hk
 have k1' : ¬ y.kd < 0 := by omega
 have k2' : ¬ 5 < y.kd := by omega
 clear h hj hy hr h1 hW1 hcn hjl
 go_enter Tryz.func70, Tryz.ntmps70
 go_wp2_with fail
 (with_reducible refine HA.out.mono ?_)
 rintro r W2 ⟨rfl, hB2⟩
 have HB2 := hid hB2
 clear hB2
 go_wp2
 have hd1 := HD1.out
 have HC : Hid (∀ W', BelC W2 W' → W'.cell? ⟨W.heap.size, 1, none⟩ = some (.float .f64 y.e.t) ∧ W'.cell? ⟨W.heap.size, 2, none⟩ = some (.int .i64 y.e.src) ∧ W'.cell? ⟨W.heap.size, 3, none⟩ = some (.int .i64 y.e.n) ∧ W'.cell? ⟨W.heap.size, 4, none⟩ = some (.int .i64 1) ∧ W'.cell? ⟨W.heap.size, 5, none⟩ = some (.int .i64 y.e.pay) ∧ W'.cell? ⟨W.heap.size, 6, none⟩ = some (.bool y.a) ∧ W'.cell? ⟨rb, 0, none⟩ = some (.int .i64 1)) := hid fun W' hW => by
  have hB := HB2.out.below hW.out
  have h := hB.blk (z := (W.heap.size, 97, _)) (by simp; rfl)
  rw [← hd1]
  exact ⟨h.cell 1, h.cell 2, h.cell 3, h.cell 4, h.cell 5, h.cell 6, by rw [hd1]; exact hB.lp⟩
 rw [hd1] at HR
 have H1 := hid (BelC.call (W1 := W2) HR.out)
 refine qC_region (by kernel_rfl) (by kernel_rfl) (BelC W2) (BelC.drew W2) ?_
 repeat (first | (refine qC_none rfl (fun K hK => ?_); apply Exists.intro; refine ⟨fun w0 hw0 => ?_, ?_⟩; (focus (obtain ⟨q1, q2, q3, q4, q5, q6, q7⟩ := HC.out w0 hw0; go_simp; first | exact rfl | exact ⟨rfl, rfl⟩ | (exact H1.out w0 hw0))); go_simp; refine hK _ ?_; clear hK K) | (refine qC_yes _ _ _ rfl rfl (by rfl) (fun K hK => ?_); apply Exists.intro; refine ⟨fun w0 hw0 => ?_, ?_⟩; (focus (obtain ⟨q1, q2, q3, q4, q5, q6, q7⟩ := HC.out w0 hw0; go_simp; first | exact rfl | exact ⟨rfl, rfl⟩ | (exact H1.out w0 hw0))); go_simp; refine hK _ ?_; clear hK K) | (refine qC_no _ _ _ rfl rfl (by rfl) (fun K hK => ?_); go_simp; refine hK _ ?_; clear hK K) | (refine qC_undef _ _ _ rfl rfl (by rfl) (fun K hK => ?_); go_simp; refine hK _ ?_; clear hK K))
 refine qC_nil ?_
 intro w5 hw5
 have HB5 := hid (HB2.out.below hw5.out)
 obtain ⟨q1, q2, q3, q4, q5, q6, q7⟩ := HC.out w5 hw5
 obtain ⟨p, n, c, hRf, hnil, hn⟩ := HB5.out.rf
 have HD := hid (radd_any hRf hnil (by have := HY.out.2.2.1.2.2.1; have := HL.out; omega) HY.out.2.2.1.2.1 (fun x hx => by have := HY.out.2.2.1.2.2.2 x hx; have := HL.out; omega) y.e y.a HY.out.1 HY.out.2.1)
 unfold evV at HD
 rw [hd1, ← HY.out.2.2.2] at HD
 clear hw5 hRf hnil hn q7
 go_wp2_with fail
 (with_reducible refine HD.out.mono ?_)
 rintro r W7 ⟨rfl, W6, v, hb6, hO6, hW7⟩
 have hB7 := (HB5.out.turnR hb6 hO6).drop
 rw [← hW7] at hB7
 have H7 := hid hB7
 clear hB7 hW7 hO6 hb6 q1 q2 q3 q4 q5 q6
 go_wp2
 go_ret
 exact ⟨by simp, H7.out⟩
set_option maxHeartbeats 8000000 in
theorem do23_no (h : Bo w W ib s rb j [] l l) (y : A23) (hy : y.e.ok) (hk : ¬ y.kd = 6 ∧ 0 ≤ y.kd ∧ y.kd ≤ 5) (hr : ¬ (y.e.right ∧ y.e.dst = 1)) :
  Calls Tryz.prog 70 #[.pointer (some ⟨ib, 0, none⟩), .pointer (some ⟨rb, 0, none⟩), .agg (a23C y).toArray] W fun r w' => r = .returned (.bool true) ∧ Bo w w' ib s rb j [] l l := by
 have HR := hid (fun W => right20_any y.e W)
 obtain ⟨W1, hW1⟩ : ∃ W1, W1 = W.alloc (.cells #[.int .i64 y.kd, .float .f64 y.e.t, .int .i64 y.e.src, .int .i64 y.e.n, .int .i64 y.e.dst, .int .i64 y.e.pay, .bool y.a] 97) := ⟨_, rfl⟩
 have h1 := h.box 97 #[.int .i64 y.kd, .float .f64 y.e.t, .int .i64 y.e.src, .int .i64 y.e.n, .int .i64 y.e.dst, .int .i64 y.e.pay, .bool y.a]
 rw [← hW1] at h1
 have HA := hid (bo_add_no h1 y.e y.a hy hr)
 unfold evV at HR
 unfold msgV at HA
 rw [hW1] at HA
 unfold a23C
 obtain ⟨k0, k1, k2⟩ := hk
 have k1' : ¬ y.kd < 0 := by omega
 have k2' : ¬ 5 < y.kd := by omega
 have hrc : decide y.e.right = false ∨ (decide y.e.right = true ∧ ¬ y.e.dst = 1) := by
  by_cases g : y.e.right
  ·exact .inr ⟨decide_eq_true g, fun e => hr ⟨g, e⟩⟩
  ·exact .inl (decide_eq_false g)
 clear h hy hr h1 hW1
 rcases hrc with hrr | ⟨hrr, hdd⟩
 all_goals
  rw [hrr] at HR
  clear hrr
  go_enter Tryz.func70, Tryz.ntmps70
  go_wp2_with fail
  (with_reducible refine HA.out.mono ?_)
  rintro r W2 ⟨rfl, hB2⟩
  have HB2 := hid hB2
  clear hB2
  go_wp2
  have HC : Hid (∀ W', BelC W2 W' → W'.cell? ⟨W.heap.size, 1, none⟩ = some (.float .f64 y.e.t) ∧ W'.cell? ⟨W.heap.size, 2, none⟩ = some (.int .i64 y.e.src) ∧ W'.cell? ⟨W.heap.size, 3, none⟩ = some (.int .i64 y.e.n) ∧ W'.cell? ⟨W.heap.size, 4, none⟩ = some (.int .i64 y.e.dst) ∧ W'.cell? ⟨W.heap.size, 5, none⟩ = some (.int .i64 y.e.pay) ∧ W'.cell? ⟨rb, 0, none⟩ = some (.int .i64 1)) := hid fun W' hW => by
   have hB := HB2.out.below hW.out
   have h := hB.blk (z := (W.heap.size, 97, _)) (by simp; rfl)
   exact ⟨h.cell 1, h.cell 2, h.cell 3, h.cell 4, h.cell 5, hB.lp⟩
  have H1 := hid (BelC.call (W1 := W2) HR.out)
  refine qC_region (by kernel_rfl) (by kernel_rfl) (BelC W2) (BelC.drew W2) ?_
  repeat (first | (refine qC_none rfl (fun K hK => ?_); apply Exists.intro; refine ⟨fun w0 hw0 => ?_, ?_⟩; (focus (obtain ⟨q1, q2, q3, q4, q5, q7⟩ := HC.out w0 hw0; go_simp; first | exact rfl | exact ⟨rfl, rfl⟩ | (exact H1.out w0 hw0))); go_simp; refine hK _ ?_; clear hK K) | (refine qC_yes _ _ _ rfl rfl (by rfl) (fun K hK => ?_); apply Exists.intro; refine ⟨fun w0 hw0 => ?_, ?_⟩; (focus (obtain ⟨q1, q2, q3, q4, q5, q7⟩ := HC.out w0 hw0; go_simp; first | exact rfl | exact ⟨rfl, rfl⟩ | (exact H1.out w0 hw0))); go_simp; refine hK _ ?_; clear hK K) | (refine qC_no _ _ _ rfl rfl (by rfl) (fun K hK => ?_); go_simp; refine hK _ ?_; clear hK K) | (refine qC_undef _ _ _ rfl rfl (by rfl) (fun K hK => ?_); go_simp; refine hK _ ?_; clear hK K))
  refine qC_nil ?_
  intro w5 hw5
  have HB5 := hid (HB2.out.below hw5.out).drop
  clear hw5
  go_wp2
  go_ret
  exact ⟨rfl, HB5.out⟩
theorem do23_any (h : Bo w W ib s rb j [] l l) (hj : j ≤ 100) (y : A23) (hy : y.e.ok) :
  Calls Tryz.prog 70 #[.pointer (some ⟨ib, 0, none⟩), .pointer (some ⟨rb, 0, none⟩), .agg (a23C y).toArray] W fun r w' => r = .returned (.bool true) ∧ Bo w w' ib s rb (j + 1) [] (stepD l y) (stepD l y) := by
 unfold stepD
 by_cases hk : y.kd = 6
 ·rw [if_pos hk]
  by_cases hr : y.e.right
  ·rw [if_pos hr]
   exact (do23_forget h hj y hy hk hr).mono fun r w' ⟨g1, g2⟩ => ⟨g1, g2.up (Nat.le_succ j)⟩
  ·rw [if_neg hr]
   exact (do23_none h y (.inl ⟨hk, hr⟩)).mono fun r w' ⟨g1, g2⟩ => ⟨g1, g2.up (Nat.le_succ j)⟩
 ·rw [if_neg hk]
  by_cases h5 : 0 ≤ y.kd ∧ y.kd ≤ 5
  ·rw [if_pos h5]
   unfold stepI A23.p
   by_cases hr : y.e.right ∧ y.e.dst = 1
   ·rw [if_pos hr]
    exact do23_add h hj y hy ⟨hk, h5⟩ hr
   ·rw [if_neg hr]
    exact (do23_no h y hy ⟨hk, h5⟩ hr).mono fun r w' ⟨g1, g2⟩ => ⟨g1, g2.up (Nat.le_succ j)⟩
  ·rw [if_neg h5]
   exact (do23_none h y (.inr ⟨hk, by omega⟩)).mono fun r w' ⟨g1, g2⟩ => ⟨g1, g2.up (Nat.le_succ j)⟩
end
end
end Go.Proofs.YtnnghcooidjlhaaGreat
