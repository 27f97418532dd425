/- Parts of the proof: Fl+ Xs Xr Xt Xu Xv. -/
import GoSem.Core.Float
import Derived.Laws.EntriesVeiled
import Derived.Test.YtnnghcooidjlhaaGreatD03
import Derived.Test.YtnnghcooidjlhaaGreatD34
import Derived.Test.YtnnghcooidjlhaaGreatD36
set_option linter.all false
set_option maxRecDepth 100000
namespace Go.Proofs.YtnnghcooidjlhaaGreat
section
open Ieee
theorem compare_lt_iff (a b : Int) : compare a b = .lt ↔ a < b := by
 constructor
 ·intro h
  rcases Int.lt_trichotomy a b with h1 | h1 | h1
  ·exact h1
  ·rw [cmp_eq h1] at h; cases h
  ·rw [cmp_gt h1] at h; cases h
 ·exact cmp_lt
section
variable {x y : Nat} (hx : fnan x = false) (hy : fnan y = false)
include hx hy
theorem flt_key : flt x y = decide (fkey x < fkey y) := by
 unfold flt; rw [ford_key hx hy, Bool.eq_iff_iff]; simp [compare_lt_iff]
end
end
section
open Go.RowKit Go.Lib
def aheadK (l : List Ix) (o : Bs) : Bs := (aheadI l o).getD []
def aheadV (k : Bs) : Value := .tuple #[.string (S k), .bool (!k.isEmpty), .int .i64 0]
theorem aheadI_nil (l : List Ix) : aheadI l [] = none := by
 unfold aheadI
 rw [List.filter_eq_nil_iff.2 fun x _ => by simp]
 rfl
section
variable {w w' : World} {ib : Nat} {s : SL} {lp : Int} {O : List Nat} {N c : Nat} {l : List Ix}
set_option maxHeartbeats 8000000 in
theorem iahead_any (h : IbI w ib s lp O N c l) (hl : l.length ≤ 1000) (hcc : c ≤ 2000) (o : Bs) (ho : o.length ≤ 29) :
  Calls Tryz.prog 72 #[.pointer (some ⟨ib, 0, none⟩), .string (S o)] w fun r w' => r = .returned (aheadV (aheadK l o)) ∧ IbI w' ib s lp O N c l ∧ Kp O w w' := by
 obtain ⟨W1, hW1⟩ : ∃ W1, W1 = w.alloc (.cells #[.string ⟨#[]⟩] 9) := ⟨_, rfl⟩
 have hb1 : Below w.heap.size w W1 := by rw [hW1]; exact (Below.refl _ w).alloc (Nat.le_refl _) _
 have hK1 : Blk W1 w.heap.size 9 #[.string ⟨#[]⟩] := by rw [hW1]; exact Blk.new w _ _
 by_cases h0 : o = []
 ·subst h0
  have hk : aheadK l [] = [] := by unfold aheadK; rw [aheadI_nil]; rfl
  rw [hk, show aheadV [] = .tuple #[.string { data := #[] }, .bool false, .int .i64 0] from rfl, show S [] = { data := #[] } from rfl]
  have HF := hid (⟨h.below hb1, Kp.of_below (O := O) hb1⟩ : _ ∧ _)
  rw [hW1] at HF
  clear h hl hcc ho hW1 hb1 hK1 hk
  go_enter Tryz.func72, Tryz.ntmps72
  go_wp2
  go_ret3
  exact ⟨rfl, HF.out⟩
 ·have hlts := h.lts
  have HE := hid (ieach_any (ahead_do w.heap.size) (h.below hb1) hl hcc [] o (by simp) ho (Z := [w.heap.size]) ⟨hK1, rfl⟩ (fun z hz hm => by
   have := hlts z hm
   simp only [List.mem_cons, List.not_mem_nil, or_false] at hz
   omega))
  obtain ⟨k, hk⟩ : ∃ k, k = aheadK l o := ⟨_, rfl⟩
  have hla := lastI_ahead l o
  rw [if_neg h0] at hla
  rw [goX_all (by simp), show S [] = { data := #[] } from rfl, hW1] at HE
  rw [← hk]
  have HLA : Hid (lastI (rngI l [] o) = k) := hid (hla.trans hk.symm)
  have HX := hid (⟨hW1, hb1⟩ : _ ∧ _)
  have hoe : o.isEmpty = false := by cases o with
   | nil => exact absurd rfl h0
   | cons y t => rfl
  have hon : (o == []) = false := by cases o with
   | nil => exact absurd rfl h0
   | cons y t => rfl
  clear h hl hcc ho hW1 hb1 hK1 hlts hla hk
  have hkc : k = [] ∨ ∃ y t, k = y :: t := by cases k with
   | nil => exact .inl rfl
   | cons y t => exact .inr ⟨y, t, rfl⟩
  rcases hkc with rfl | ⟨y, t, hyt⟩
  case' inr =>
   have hke : k.isEmpty = false := by rw [hyt]; rfl
   have hkn : (k == []) = false := by rw [hyt]; rfl
   have hkq : ¬ k = [] := by rw [hyt]; simp
   clear hyt
  all_goals
   unfold aheadV
   go_enter Tryz.func72, Tryz.ntmps72
   go_wp2_with fail
   (with_reducible refine HE.out.mono ?_)
   rintro r W2 ⟨Z2, rfl, ⟨hK2, rfl⟩, hI2, hk2, _⟩
   rw [← HX.out.1] at hk2
   rw [HLA.out] at hK2
   have HC : Hid (∀ W, BelC W2 W → W.cell? ⟨w.heap.size, 0, none⟩ = some _) := hid fun W hW => (hW.blk hK2).cell 0
   have HF := hid (⟨hI2, Kp.fresh HX.out.2 (by simp) hk2⟩ : _ ∧ _)
   clear hK2 hI2 hk2
   go_wp2
   refine qC_region (by kernel_rfl) (by kernel_rfl) (BelC W2) (BelC.drew W2) ?_
   repeat (first | (refine qC_none rfl (fun K hK => ?_); apply Exists.intro; refine ⟨fun w0 hw0 => ?_, ?_⟩; (focus (have q0 := HC.out w0 hw0; go_simp; first | exact rfl | exact ⟨rfl, rfl⟩ | (fail))); go_simp; refine hK _ ?_; clear hK K) | (refine qC_yes _ _ _ rfl rfl (by rfl) (fun K hK => ?_); apply Exists.intro; refine ⟨fun w0 hw0 => ?_, ?_⟩; (focus (have q0 := HC.out w0 hw0; go_simp; first | exact rfl | exact ⟨rfl, rfl⟩ | (fail))); go_simp; refine hK _ ?_; clear hK K) | (refine qC_no _ _ _ rfl rfl (by rfl) (fun K hK => ?_); go_simp; refine hK _ ?_; clear hK K) | (refine qC_undef _ _ _ rfl rfl (by rfl) (fun K hK => ?_); go_simp; refine hK _ ?_; clear hK K))
   refine qC_nil ?_
   intro w3 hw3
   have H3 := hid (⟨HF.out.1.below hw3.out, HF.out.2.trans (Kp.of_below hw3.out)⟩ : _ ∧ _)
   clear hw3
   go_wp2
   go_ret3
   exact ⟨by first | rfl | simp [*], H3.out⟩
end
end
section
open Go.RowKit Go.Lib
structure RfB (W : World) (rb : Nat) (lp : Int) (p : Option Addr) (n c : Nat) (l : List Ix) : Prop where
 b : Blk W rb 144 #[.int .i64 lp, .slice p n c]
 v : Vw 7 rC W (.slice p n c) l
 n : n = l.length
section
variable {w W W' : World} {rb : Nat} {lp : Int} {p : Option Addr} {n c : Nat} {l : List Ix}
theorem RfB.below (h : RfB W rb lp p n c l) (hb : Below W.heap.size W W') : RfB W' rb lp p n c l := ⟨h.b.below hb h.b.lt, h.v.below hb, h.n⟩
theorem RfB.at_ (h : RfB W rb lp p n c l) {j : Nat} {x : Ix} (hx : l[j]? = some x) : ∃ b o, p = some ⟨b, o, none⟩ ∧ ∀ W', Below W.heap.size W W' → W'.cell? ⟨b, o + j * 7, none⟩ = some (.string (S x.key)) ∧ W'.cell? ⟨b, o + j * 7 + 1, none⟩ = some (.float .f64 x.e.t) ∧ W'.cell? ⟨b, o + j * 7 + 2, none⟩ = some (.int .i64 x.e.src) ∧ W'.cell? ⟨b, o + j * 7 + 3, none⟩ = some (.int .i64 x.e.n) ∧ W'.cell? ⟨b, o + j * 7 + 4, none⟩ = some (.int .i64 x.e.dst) ∧ W'.cell? ⟨b, o + j * 7 + 5, none⟩ = some (.int .i64 x.e.pay) ∧ W'.cell? ⟨b, o + j * 7 + 6, none⟩ = some (.int .i64 x.n) := by
 obtain ⟨b, o, c', e, _, hb, k⟩ := h.v.ex (by rintro rfl; simp at hx)
 injection e with e1 _ _
 refine ⟨b, o, e1, fun W' hW => ?_⟩
 have f1 : ∀ q u, (rC x)[q]? = some u → W'.cell? ⟨b, o + j * 7 + q, none⟩ = some u := fun q u hu => (World.cell?_of_block (hW.block b hb)).trans (k j x hx q u hu)
 exact ⟨f1 0 _ rfl, f1 1 _ rfl, f1 2 _ rfl, f1 3 _ rfl, f1 4 _ rfl, f1 5 _ rfl, f1 6 _ rfl⟩
set_option maxHeartbeats 8000000 in
theorem rcounts_any (h : RfB W rb lp p n c l) (hl : n ≤ 1000) :
  Calls Tryz.prog 74 #[.pointer (some ⟨rb, 0, none⟩)] W fun r w' => r = .returned (.tuple #[.int .i64 (moreI l), .int .i64 (l.length - moreI l : Nat)]) ∧ Below W.heap.size W w' := by
 have HX := hid h
 have hli : (n : Int) ≤ 1000 := by omega
 have HL := hid hl
 clear h hl
 go_enter Tryz.func74, Tryz.ntmps74
 go_wp2
 go_loopg [4, 5] n (fun gg s4 s5 wr => ∃ (j m : Nat), j ≤ n ∧ n - j ≤ gg ∧ s5 = .int .i64 j ∧ s4 = .int .i64 m ∧ Hid (m = moreI (l.take j) ∧ Below W.heap.size W wr) ∧ m ≤ 1000)
 case atStart => exact ⟨0, 0, by omega, by omega, rfl, rfl, hid ⟨rfl, Below.refl _ _⟩, by omega⟩
 case round =>
  obtain ⟨j, m, hj, hgg, rfl, rfl, HI, hm⟩ := hrel
  have l1 : wr.cell? ⟨rb, 1, none⟩ = some (.slice p n c) := (HX.out.below HI.out.2).b.cell 1
  by_cases hje : j < n
  ·obtain ⟨x, hx⟩ : ∃ x, l[j]? = some x := ⟨_, List.getElem?_eq_getElem (by rw [← HX.out.n]; exact hje)⟩
   obtain ⟨b, o, e1, hC⟩ := HX.out.at_ hx
   subst e1
   obtain ⟨_, _, _, _, _, _, m6⟩ := hC wr HI.out.2
   have hji : (j : Int) < (n : Int) := by omega
   have htk : moreI (l.take (j + 1)) = if 0 < x.n then moreI (l.take j) + 1 else moreI (l.take j) := by rw [List.take_add_one, hx]; exact moreI_snoc _ _
   have HTK := hid htk
   have hmj : moreI (l.take j) ≤ j := Nat.le_trans (moreI_le _) (List.length_take_le _ _)
   have hm2 : m ≤ j := by rw [HI.out.1]; exact hmj
   have hw : IntKind.i64.wrap ((m : Int) + 1) = (m : Int) + 1 := by rw [IntKind.wrap_i64]; omega
   have hjl : j < 1000 := by have := HL.out; omega
   clear hx hC htk hmj
   by_cases hn : 0 < x.n
   ·go_wp2
    go_roundg (n - (j + 1))
    case measure => omega
    case rel => exact ⟨j + 1, m + 1, by omega, by omega, by go_num, by go_num, hid ⟨by rw [HTK.out, if_pos hn, HI.out.1], HI.out.2⟩, by omega⟩
   ·go_wp2
    go_roundg (n - (j + 1))
    case measure => omega
    case rel => exact ⟨j + 1, m, by omega, by omega, by go_num, rfl, hid ⟨by rw [HTK.out, if_neg (by omega), HI.out.1], HI.out.2⟩, hm⟩
  ·have hjl : j = n := by omega
   have HJ : Hid (m = moreI l ∧ n = l.length ∧ m ≤ n) := hid (by
    have h1 := HI.out.1
    have h2 := HX.out.n
    rw [hjl, h2, List.take_length] at h1
    exact ⟨h1, h2, by rw [h1, h2]; exact moreI_le l⟩)
   have hji : ¬ ((j : Int) < (n : Int)) := by omega
   have hw : IntKind.i64.wrap ((n : Int) - (m : Int)) = (n : Int) - (m : Int) := by rw [IntKind.wrap_i64]; omega
   have HC : Hid (∀ W', BelC wr W' → W'.cell? ⟨rb, 1, none⟩ = some (.slice p n c)) := hid fun W' hW => (HX.out.below (HI.out.2.trans (hW.out.mono HI.out.2.size))).b.cell 1
   obtain ⟨wo, hwo⟩ : ∃ wo, wo = wr := ⟨_, rfl⟩
   subst hwo
   go_wp2
   refine qC_region (by kernel_rfl) (by kernel_rfl) (BelC wo) (BelC.drew wo) ?_
   repeat (first | (refine qC_none rfl (fun K hK => ?_); apply Exists.intro; refine ⟨fun w0 hw0 => ?_, ?_⟩; (focus (have q0 := HC.out w0 hw0; go_simp; first | exact rfl | exact ⟨rfl, rfl⟩ | (fail))); go_simp; refine hK _ ?_; clear hK K) | (refine qC_yes _ _ _ rfl rfl (by rfl) (fun K hK => ?_); apply Exists.intro; refine ⟨fun w0 hw0 => ?_, ?_⟩; (focus (have q0 := HC.out w0 hw0; go_simp; first | exact rfl | exact ⟨rfl, rfl⟩ | (fail))); go_simp; refine hK _ ?_; clear hK K) | (refine qC_no _ _ _ rfl rfl (by rfl) (fun K hK => ?_); go_simp; refine hK _ ?_; clear hK K) | (refine qC_undef _ _ _ rfl rfl (by rfl) (fun K hK => ?_); go_simp; refine hK _ ?_; clear hK K))
   refine qC_nil ?_
   intro w5 hw5
   go_wp2
   go_ret2
   obtain ⟨h1, h2, h3⟩ := HJ.out
   refine ⟨?_, HI.out.2.trans (hw5.out.mono HI.out.2.size)⟩
   have e : ((l.length - moreI l : Nat) : Int) = (n : Int) - (m : Int) := by rw [← h1, ← h2]; omega
   show Ending.returned (.tuple #[.int .i64 m, .int .i64 ((n : Int) - (m : Int))]) = _
   rw [e, ← h1]
set_option maxHeartbeats 8000000 in
theorem rahead_any (h : RfB W rb lp p n c l) (hl : n ≤ 1000) (o : Bs) :
  Calls Tryz.prog 73 #[.pointer (some ⟨rb, 0, none⟩), .string (S o)] W fun r w' => r = .returned (.tuple #[.string (S ((aheadI l o).getD [])), .bool (!((aheadI l o).getD []).isEmpty)]) ∧ Below W.heap.size W w' := by
 have HX := hid h
 have hli : (n : Int) ≤ 1000 := by omega
 have HL := hid hl
 clear h hl
 go_enter Tryz.func73, Tryz.ntmps73
 go_wp2
 go_loopg [6, 7] n (fun gg s6 s7 wr => ∃ (j : Nat) (k : Bs), j ≤ n ∧ n - j ≤ gg ∧ s7 = .int .i64 j ∧ s6 = .string (S k) ∧ Hid (k = (aheadI (l.take j) o).getD [] ∧ Below W.heap.size W wr))
 case atStart => exact ⟨0, [], by omega, by omega, rfl, rfl, hid ⟨rfl, Below.refl _ _⟩⟩
 case round =>
  obtain ⟨j, k, hj, hgg, rfl, rfl, HI⟩ := hrel
  have l1 : wr.cell? ⟨rb, 1, none⟩ = some (.slice p n c) := (HX.out.below HI.out.2).b.cell 1
  by_cases hje : j < n
  ·obtain ⟨x, hx⟩ : ∃ x, l[j]? = some x := ⟨_, List.getElem?_eq_getElem (by rw [← HX.out.n]; exact hje)⟩
   obtain ⟨b, oo, e1, hC⟩ := HX.out.at_ hx
   subst e1
   obtain ⟨m0, _, _, _, _, _, m6⟩ := hC wr HI.out.2
   have hji : (j : Int) < (n : Int) := by omega
   have htk : aheadI (l.take (j + 1)) o = if 0 < x.n ∧ x.key < o then some x.key else aheadI (l.take j) o := by
    rw [List.take_add_one, hx]
    unfold aheadI
    rw [Option.toList_some, List.filter_append]
    split
    ·next h => rw [List.filter_cons_of_pos (by simp [h]), List.filter_nil, List.getLast?_append]; rfl
    ·next h =>
     rw [List.filter_cons_of_neg (by
      intro g
      simp only [Bool.and_eq_true, decide_eq_true_eq] at g
      exact h g), List.filter_nil, List.append_nil]
   have HTK := hid htk
   have hbl : Op.bytesLess x.key o = decide (x.key < o) := bl _ _
   clear hx hC htk
   by_cases hn : 0 < x.n
   ·by_cases hk : x.key < o
    ·rw [decide_eq_true hk] at hbl
     go_wp2
     go_roundg (n - (j + 1))
     case measure => omega
     case rel => exact ⟨j + 1, x.key, by omega, by omega, by go_num, rfl, hid ⟨by rw [HTK.out, if_pos ⟨hn, hk⟩]; rfl, HI.out.2⟩⟩
    ·rw [decide_eq_false hk] at hbl
     go_wp2
     go_roundg (n - (j + 1))
     case measure => omega
     case rel => exact ⟨j + 1, k, by omega, by omega, by go_num, rfl, hid ⟨by rw [HTK.out, if_neg (fun h => hk h.2), HI.out.1], HI.out.2⟩⟩
   ·go_wp2
    go_roundg (n - (j + 1))
    case measure => omega
    case rel => exact ⟨j + 1, k, by omega, by omega, by go_num, rfl, hid ⟨by rw [HTK.out, if_neg (fun h => absurd h.1 (by omega)), HI.out.1], HI.out.2⟩⟩
  ·have hjl : j = n := by omega
   have HJ : Hid (k = (aheadI l o).getD []) := hid (by
    have h1 := HI.out.1
    rw [hjl, HX.out.n, List.take_length] at h1
    exact h1)
   have hji : ¬ ((j : Int) < (n : Int)) := by omega
   go_wp2
   go_ret2
   rw [← HJ.out]
   exact ⟨rfl, HI.out.2⟩
end
end
section
open Go.RowKit Go.Lib
def rnextV : Option Ev → Value
 | some e => .tuple #[.agg #[.float .f64 e.t, .int .i64 e.src, .int .i64 e.n, .int .i64 e.dst, .int .i64 e.pay], .bool true]
 | none => .tuple #[.agg #[.float .f64 0, .int .i64 0, .int .i64 0, .int .i64 0, .int .i64 0], .bool false]
theorem nextI_found {l : List Ix} {a : Bs} {j : Nat} {x : Ix} (h : ∀ y ∈ l.take j, ¬ (0 < y.n ∧ a < y.key)) (hx : l[j]? = some x) (h1 : 0 < x.n) (h2 : a < x.key) : nextI l a = some x.e := by
 have e : l = l.take j ++ x :: l.drop (j + 1) := by
  obtain ⟨h3, h4⟩ := List.getElem?_eq_some_iff.1 hx
  have h5 := List.drop_eq_getElem_cons h3
  rw [h4] at h5
  rw [← h5, List.take_append_drop]
 unfold nextI
 rw [e, List.find?_append, List.find?_eq_none.2 (fun y hy => by
  have := h y hy
  simpa using fun h1 h2 => this ⟨h1, h2⟩), Option.none_or, List.find?_cons_of_pos (by simp [h1, h2])]
 rfl
theorem gt_cs (a k : Bs) : (a < k ∧ Op.bytesLess k a = false ∧ (k == a) = false) ∨ (¬ a < k ∧ Op.bytesLess k a = true) ∨ (¬ a < k ∧ Op.bytesLess k a = false ∧ (k == a) = true) := by
 rw [bl]
 rcases blt_tri a k with g | g | g
 ·exact .inl ⟨g, decide_eq_false (blt_asymm g), by rw [beq_eq_false_iff_ne]; intro e; rw [e] at g; exact blt_irrefl _ g⟩
 ·exact .inr (.inr ⟨by rw [g]; exact blt_irrefl _, decide_eq_false (by rw [g]; exact blt_irrefl _), by rw [g]; exact beq_self_eq_true _⟩)
 ·exact .inr (.inl ⟨blt_asymm g, decide_eq_true g⟩)
theorem nextI_none {l : List Ix} {a : Bs} (h : ∀ y ∈ l, ¬ (0 < y.n ∧ a < y.key)) : nextI l a = none := by
 unfold nextI
 rw [List.find?_eq_none.2 fun x hx => by
  have := h x hx
  simpa using fun h1 h2 => this ⟨h1, h2⟩]
 rfl
section
variable {w W W' : World} {rb : Nat} {lp : Int} {p : Option Addr} {n c : Nat} {l : List Ix}
set_option maxHeartbeats 8000000 in
theorem rnext_any (h : RfB W rb lp p n c l) (hl : n ≤ 1000) (a : Bs) :
  Calls Tryz.prog 71 #[.pointer (some ⟨rb, 0, none⟩), .string (S a)] W fun r w' => r = .returned (rnextV (nextI l a)) ∧ Below W.heap.size W w' := by
 obtain ⟨W1, hW1⟩ : ∃ W1, W1 = W.alloc (.cells #[.float .f64 0, .int .i64 0, .int .i64 0, .int .i64 0, .int .i64 0] 67) := ⟨_, rfl⟩
 have hb1 : Below W.heap.size W W1 := by rw [hW1]; exact (Below.refl _ W).alloc (Nat.le_refl _) _
 have hE1 : Blk W1 W.heap.size 67 #[.float .f64 0, .int .i64 0, .int .i64 0, .int .i64 0, .int .i64 0] := by rw [hW1]; exact Blk.new W _ _
 have HX := hid (⟨hW1, hb1, hE1, h.below hb1⟩ : _ ∧ _ ∧ _ ∧ _)
 have hli : (n : Int) ≤ 1000 := by omega
 have HL := hid hl
 clear h hl hW1 hb1 hE1
 go_enter Tryz.func71, Tryz.ntmps71
 go_wp2
 rw [← HX.out.1]
 go_loopg [6] n (fun gg s6 wr => ∃ (j : Nat), j ≤ n ∧ n - j ≤ gg ∧ s6 = .int .i64 j ∧ Hid (∀ y ∈ l.take j, ¬ (0 < y.n ∧ a < y.key)) ∧ W1 = wr)
 case atStart => exact ⟨0, by omega, by omega, rfl, hid (by simp), rfl⟩
 case round =>
  obtain ⟨j, hj, hgg, rfl, HI, hwr⟩ := hrel
  subst hwr
  have l1 : W1.cell? ⟨rb, 1, none⟩ = some (.slice p n c) := HX.out.2.2.2.b.cell 1
  have g0 : W1.cell? ⟨W.heap.size, 0, none⟩ = some (.float .f64 0) := HX.out.2.2.1.cell 0
  have g1 : W1.cell? ⟨W.heap.size, 1, none⟩ = some (.int .i64 0) := HX.out.2.2.1.cell 1
  have g2 : W1.cell? ⟨W.heap.size, 2, none⟩ = some (.int .i64 0) := HX.out.2.2.1.cell 2
  have g3 : W1.cell? ⟨W.heap.size, 3, none⟩ = some (.int .i64 0) := HX.out.2.2.1.cell 3
  have g4 : W1.cell? ⟨W.heap.size, 4, none⟩ = some (.int .i64 0) := HX.out.2.2.1.cell 4
  have f0 := HX.out.2.2.1.frozen 0
  have f1 := HX.out.2.2.1.frozen 1
  have f2 := HX.out.2.2.1.frozen 2
  have f3 := HX.out.2.2.1.frozen 3
  have f4 := HX.out.2.2.1.frozen 4
  have el := HX.out.2.2.1.lt
  by_cases hje : j < n
  ·obtain ⟨x, hx⟩ : ∃ x, l[j]? = some x := ⟨_, List.getElem?_eq_getElem (by rw [← HX.out.2.2.2.n]; exact hje)⟩
   obtain ⟨b, o, e1, hC⟩ := HX.out.2.2.2.at_ hx
   subst e1
   obtain ⟨m0, m1, m2, m3, m4, m5, m6⟩ := hC W1 (Below.refl _ _)
   have hji : (j : Int) < (n : Int) := by omega
   have HNX := hid hx
   have htk : l.take (j + 1) = l.take j ++ [x] := by rw [List.take_add_one, hx]; rfl
   have HTK := hid htk
   have hgc := gt_cs a x.key
   clear hx hC htk
   have hcs : (0 < x.n ∧ Hid (a < x.key) ∧ Op.bytesLess x.key a = false ∧ (x.key == a) = false) ∨ (0 < x.n ∧ Hid (¬ (0 < x.n ∧ a < x.key)) ∧ Op.bytesLess x.key a = true) ∨ (0 < x.n ∧ Hid (¬ (0 < x.n ∧ a < x.key)) ∧ Op.bytesLess x.key a = false ∧ (x.key == a) = true) ∨ (¬ 0 < x.n ∧ Hid (¬ (0 < x.n ∧ a < x.key))) := by
    by_cases h1 : 0 < x.n
    ·rcases hgc with ⟨g, g1, g2⟩ | ⟨g, g1⟩ | ⟨g, g1, g2⟩
     ·exact .inl ⟨h1, hid g, g1, g2⟩
     ·exact .inr (.inl ⟨h1, hid (fun h => g h.2), g1⟩)
     ·exact .inr (.inr (.inl ⟨h1, hid (fun h => g h.2), g1, g2⟩))
    ·exact .inr (.inr (.inr ⟨h1, hid (fun h => h1 h.1)⟩))
   clear hgc
   rcases hcs with ⟨hn1, HK1, hb1, hb2⟩ | ⟨hn1, HNO, hb1⟩ | ⟨hn1, HNO, hb1, hb2⟩ | ⟨hn1, HNO⟩
   ·have HF : Hid (nextI l a = some x.e) := hid (nextI_found HI.out HNX.out hn1 HK1.out)
    go_wp2
    have hr8 := ((((HX.out.2.2.1.set_ 0 (.float .f64 x.e.t)).set_ 1 (.int .i64 x.e.src)).set_ 2 (.int .i64 x.e.n)).set_ 3 (.int .i64 x.e.dst)).set_ 4 (.int .i64 x.e.pay)
    have v0 := hr8.cell 0
    have v1 := hr8.cell 1
    have v2 := hr8.cell 2
    have v3 := hr8.cell 3
    have v4 := hr8.cell 4
    simp only [List.setIfInBounds_toArray, List.set_cons_zero, List.set_cons_succ, List.getElem?_toArray, List.getElem?_cons_zero, List.getElem?_cons_succ] at v0 v1 v2 v3 v4
    refine bodyPost_ret (v := .tuple #[.agg #[.float .f64 x.e.t, .int .i64 x.e.src, .int .i64 x.e.n, .int .i64 x.e.dst, .int .i64 x.e.pay], .bool true]) (by simp [results, Tryz.results71, go_sem, v0, v1, v2, v3, v4]) rfl ?_
    exact ⟨by rw [HF.out]; rfl, ((((HX.out.2.1.setCell (Nat.le_refl _) _).setCell (Nat.le_refl _) _).setCell (Nat.le_refl _) _).setCell (Nat.le_refl _) _).setCell (Nat.le_refl _) _⟩
   ·go_wp2
    go_roundg (n - (j + 1))
    case measure => omega
    case rel => exact ⟨j + 1, by omega, by omega, by go_num, hid (fun y hy => by
     rw [HTK.out] at hy
     rcases List.mem_append.1 hy with hy | hy
     ·exact HI.out y hy
     ·rw [List.mem_singleton.1 hy]; exact HNO.out), rfl⟩
   ·go_wp2
    go_roundg (n - (j + 1))
    case measure => omega
    case rel => exact ⟨j + 1, by omega, by omega, by go_num, hid (fun y hy => by
     rw [HTK.out] at hy
     rcases List.mem_append.1 hy with hy | hy
     ·exact HI.out y hy
     ·rw [List.mem_singleton.1 hy]; exact HNO.out), rfl⟩
   ·go_wp2
    go_roundg (n - (j + 1))
    case measure => omega
    case rel => exact ⟨j + 1, by omega, by omega, by go_num, hid (fun y hy => by
     rw [HTK.out] at hy
     rcases List.mem_append.1 hy with hy | hy
     ·exact HI.out y hy
     ·rw [List.mem_singleton.1 hy]; exact HNO.out), rfl⟩
  ·have hji : ¬ ((j : Int) < (n : Int)) := by omega
   have HF : Hid (nextI l a = none) := hid (nextI_none (by
    have h1 := HI.out
    rw [List.take_of_length_le (by rw [← HX.out.2.2.2.n]; omega)] at h1
    exact h1))
   go_wp2
   have hr8 := ((((HX.out.2.2.1.set_ 0 (.float .f64 0)).set_ 1 (.int .i64 0)).set_ 2 (.int .i64 0)).set_ 3 (.int .i64 0)).set_ 4 (.int .i64 0)
   have v0 := hr8.cell 0
   have v1 := hr8.cell 1
   have v2 := hr8.cell 2
   have v3 := hr8.cell 3
   have v4 := hr8.cell 4
   simp only [List.setIfInBounds_toArray, List.set_cons_zero, List.set_cons_succ, List.getElem?_toArray, List.getElem?_cons_zero, List.getElem?_cons_succ] at v0 v1 v2 v3 v4
   refine bodyPost_ret (v := .tuple #[.agg #[.float .f64 0, .int .i64 0, .int .i64 0, .int .i64 0, .int .i64 0], .bool false]) (by simp [results, Tryz.results71, go_sem, v0, v1, v2, v3, v4]) rfl ?_
   exact ⟨by rw [HF.out]; rfl, ((((HX.out.2.1.setCell (Nat.le_refl _) _).setCell (Nat.le_refl _) _).setCell (Nat.le_refl _) _).setCell (Nat.le_refl _) _).setCell (Nat.le_refl _) _⟩
end
end
section
open Go.RowKit Go.Lib
theorem betI_next {l : List Ix} {a u : Bs} {j : Nat} {x : Ix} (hx : l[j]? = some x) : betI (l.take (j + 1)) a u = if 0 < x.n ∧ a < x.key ∧ ¬ u < x.key then betI (l.take j) a u ++ [x.e] else betI (l.take j) a u := by
 unfold betI
 rw [List.take_add_one, hx, Option.toList_some, List.filter_append, List.map_append]
 split
 ·next h => rw [List.filter_cons_of_pos (by simp [h])]; rfl
 ·next h =>
  rw [List.filter_cons_of_neg (by
   intro g
   simp only [Bool.and_eq_true, decide_eq_true_eq, Bool.not_eq_true', decide_eq_false_iff_not] at g
   exact h g), List.filter_nil, List.map_nil, List.append_nil]
section
variable {w W W' : World} {rb : Nat} {lp : Int} {p : Option Addr} {n c : Nat} {l : List Ix}
set_option maxHeartbeats 16000000 in
theorem rbetween_any (h : RfB W rb lp p n c l) (hl : n ≤ 1000) (a u : Bs) :
  Calls Tryz.prog 75 #[.pointer (some ⟨rb, 0, none⟩), .string (S a), .string (S u)] W fun r w' => ∃ v, r = .returned v ∧ w'.ownsRow W.heap.size 67 5 v (betI l a u).length (rowV evC (betI l a u)) ∧ Below W.heap.size W w' := by
 have HX := hid h
 have hli : (n : Int) ≤ 1000 := by omega
 have HL := hid hl
 clear h hl
 go_enter Tryz.func75, Tryz.ntmps75
 go_wp2
 go_loopg [7, 8] n (fun gg s7 s8 wr => ∃ (j nb : Nat) (v : Value), j ≤ n ∧ n - j ≤ gg ∧ s8 = .int .i64 j ∧ v = s7 ∧ nb ≤ 1000 ∧ Hid (nb = (betI (l.take j) a u).length ∧ Below W.heap.size W wr ∧ wr.ownsRow W.heap.size 67 5 v nb (rowV evC (betI (l.take j) a u)) ∧ nb ≤ j))
 case atStart => exact ⟨0, 0, _, by omega, by omega, rfl, rfl, by omega, hid ⟨rfl, Below.refl _ _, ⟨rfl, .inl ⟨rfl, rfl⟩⟩, by omega⟩⟩
 case round =>
  obtain ⟨j, nb, v, hj, hgg, rfl, rfl, hnb, HI⟩ := hrel
  have l1 : wr.cell? ⟨rb, 1, none⟩ = some (.slice p n c) := (HX.out.below HI.out.2.1).b.cell 1
  by_cases hje : j < n
  ·obtain ⟨x, hx⟩ : ∃ x, l[j]? = some x := ⟨_, List.getElem?_eq_getElem (by rw [← HX.out.n]; exact hje)⟩
   obtain ⟨b, o, e1, hC⟩ := HX.out.at_ hx
   subst e1
   obtain ⟨m0, m1, m2, m3, m4, m5, m6⟩ := hC wr HI.out.2.1
   have hji : (j : Int) < (n : Int) := by omega
   have HTK := hid (betI_next (a := a) (u := u) hx)
   have hgc := gt_cs a x.key
   have hlc := gt_cs u x.key
   obtain ⟨wo, hwo⟩ : ∃ wo, wo = wr := ⟨_, rfl⟩
   subst hwo
   clear hx hC
   by_cases hin : 0 < x.n ∧ a < x.key ∧ ¬ u < x.key
   ·rw [if_pos hin] at HTK
    have hcs : (0 < x.n ∧ Op.bytesLess x.key a = false ∧ (x.key == a) = false) ∧ (Op.bytesLess x.key u = true ∨ (Op.bytesLess x.key u = false ∧ (x.key == u) = true)) := by
     refine ⟨⟨hin.1, ?_⟩, ?_⟩
     ·rcases hgc with ⟨_, g⟩ | ⟨g, _⟩ | ⟨g, _⟩
      ·exact g
      ·exact absurd hin.2.1 g
      ·exact absurd hin.2.1 g
     ·rcases hlc with ⟨g, _⟩ | ⟨_, g⟩ | ⟨_, g⟩
      ·exact absurd g hin.2.2
      ·exact .inl g
      ·exact .inr g
    obtain ⟨⟨hn1, hb1, hb2⟩, hcs⟩ := hcs
    clear hin hgc hlc
    rcases hcs with hb3 | ⟨hb3, hb4⟩
    all_goals
     obtain ⟨q1, d1, rfl⟩ := own_slice2 HI.out.2.2.1
     go_wp2_with (with_reducible refine stopAt .append rfl ?_)
     with_reducible refine goOn ?_
     obtain ⟨hnn, hb, hO, hnj⟩ := HI.out
     refine app_one rfl _ _ 104 rfl evC infEvt Tryz.underlying104 rfl (by decide) (by decide) evC_len evC_one x.e hO (by omega) hb.size rfl rfl ?_
     intro v' W6 hO6 hk6 _
     have hb6 : Below W.heap.size W W6 := hb.trans (hk6.to_below hb.size (fun b hm => (hO.lt b (Option.mem_toList.1 hm)).1))
     have HI6 : Hid (nb + 1 = (betI (l.take (j + 1)) a u).length ∧ Below W.heap.size W W6 ∧ W6.ownsRow W.heap.size 67 5 v' (nb + 1) (rowV evC (betI (l.take (j + 1)) a u)) ∧ nb + 1 ≤ j + 1) := hid (by
      rw [HTK.out]
      exact ⟨by rw [List.length_append, ← hnn]; rfl, hb6, hO6, by omega⟩)
     have hjl : nb + 1 ≤ 1000 := by have := HL.out; omega
     clear hnn hb hO hnj hO6 hk6 hb6
     go_wp2
     go_roundg (n - (j + 1))
     case measure => omega
     case rel => exact ⟨j + 1, nb + 1, v', by omega, by omega, by go_num, rfl, hjl, HI6⟩
   ·rw [if_neg hin] at HTK
    have HI6 : Hid (nb = (betI (l.take (j + 1)) a u).length ∧ Below W.heap.size W wo ∧ wo.ownsRow W.heap.size 67 5 v nb (rowV evC (betI (l.take (j + 1)) a u)) ∧ nb ≤ j + 1) := hid (by
     rw [HTK.out]
     exact ⟨HI.out.1, HI.out.2.1, HI.out.2.2.1, by have := HI.out.2.2.2; omega⟩)
    have hcs : (¬ 0 < x.n) ∨ (0 < x.n ∧ Op.bytesLess x.key a = true) ∨ (0 < x.n ∧ Op.bytesLess x.key a = false ∧ (x.key == a) = true) ∨ (0 < x.n ∧ Op.bytesLess x.key a = false ∧ (x.key == a) = false ∧ Op.bytesLess x.key u = false ∧ (x.key == u) = false) := by
     by_cases h1 : 0 < x.n
     ·rcases hgc with ⟨g, g1, g2⟩ | ⟨g, g1⟩ | ⟨g, g1, g2⟩
      ·rcases hlc with ⟨k, k1, k2⟩ | ⟨k, _⟩ | ⟨k, _⟩
       ·exact .inr (.inr (.inr ⟨h1, g1, g2, k1, k2⟩))
       ·exact absurd ⟨h1, g, k⟩ hin
       ·exact absurd ⟨h1, g, k⟩ hin
      ·exact .inr (.inl ⟨h1, g1⟩)
      ·exact .inr (.inr (.inl ⟨h1, g1, g2⟩))
     ·exact .inl h1
    clear hin hgc hlc
    rcases hcs with hn1 | ⟨hn1, hb1⟩ | ⟨hn1, hb1, hb2⟩ | ⟨hn1, hb1, hb2, hb3, hb4⟩
    all_goals
     go_wp2
     go_roundg (n - (j + 1))
     case measure => omega
     case rel => exact ⟨j + 1, nb, v, by omega, by omega, by go_num, rfl, hnb, HI6⟩
  ·have hji : ¬ ((j : Int) < (n : Int)) := by omega
   have HF : Hid (wr.ownsRow W.heap.size 67 5 v (betI l a u).length (rowV evC (betI l a u)) ∧ Below W.heap.size W wr) := hid (by
    have h1 := HI.out
    rw [List.take_of_length_le (by rw [← HX.out.n]; omega)] at h1
    exact ⟨by rw [← h1.1]; exact h1.2.2.1, h1.2.1⟩)
   go_wp2
   go_ret
   exact ⟨_, rfl, HF.out⟩
end
end
section
open Go.RowKit Go.Lib
theorem rC_one (x : Ix) : ∀ u ∈ rC x, u.oneCell' = true := by
 intro u hu
 simp [rC] at hu
 rcases hu with rfl | rfl | rfl | rfl | rfl | rfl | rfl <;> rfl
theorem infIt23 : (Tryz.prog.info? 231).map (fun i => (i.zero, i.size, i.bytes)) = some (some (.agg #[.string ⟨#[]⟩, .float .f64 0, .int .i64 0, .int .i64 0, .int .i64 0, .int .i64 0, .int .i64 0]), 7, 64) := by kernel_rfl
theorem forgI_next {l : List Ix} {u : Bs} {j : Nat} {x : Ix} (hx : l[j]? = some x) : forgI (l.take (j + 1)) u = if u < x.key then forgI (l.take j) u ++ [x] else forgI (l.take j) u := by
 unfold forgI
 rw [List.take_add_one, hx, Option.toList_some, List.filter_append]
 split
 ·next h => rw [List.filter_cons_of_pos (by simp [h])]; rfl
 ·next h => rw [List.filter_cons_of_neg (by simpa using h), List.filter_nil, List.append_nil]
section
variable {w W W' : World} {rb : Nat} {lp : Int} {p : Option Addr} {n c : Nat} {l : List Ix}
set_option maxHeartbeats 16000000 in
theorem rforget_any (h : RfB W rb lp p n c l) (hl : n ≤ 1000) (u : Bs) :
  Calls Tryz.prog 124 #[.pointer (some ⟨rb, 0, none⟩), .string (S u)] W fun r w' => r = .returned (.tuple #[]) ∧ ∃ W6 v, Below W.heap.size W W6 ∧ W6.ownsRow W.heap.size 231 7 v (forgI l u).length (rowV rC (forgI l u)) ∧ w' = W6.setCell ⟨rb, 1, none⟩ v := by
 have HX := hid h
 have hli : (n : Int) ≤ 1000 := by omega
 have HL := hid hl
 clear h hl
 go_enter Tryz.func124, Tryz.ntmps124
 go_wp2
 go_loopg [4, 5] n (fun gg s4 s5 wr => ∃ (j nb : Nat) (v : Value), j ≤ n ∧ n - j ≤ gg ∧ s5 = .int .i64 j ∧ v = s4 ∧ nb ≤ 1000 ∧ Hid (nb = (forgI (l.take j) u).length ∧ Below W.heap.size W wr ∧ wr.ownsRow W.heap.size 231 7 v nb (rowV rC (forgI (l.take j) u)) ∧ nb ≤ j))
 case atStart => exact ⟨0, 0, _, by omega, by omega, rfl, rfl, by omega, hid ⟨rfl, Below.refl _ _, ⟨rfl, .inl ⟨rfl, rfl⟩⟩, by omega⟩⟩
 case round =>
  obtain ⟨j, nb, v, hj, hgg, rfl, rfl, hnb, HI⟩ := hrel
  have l1 : wr.cell? ⟨rb, 1, none⟩ = some (.slice p n c) := (HX.out.below HI.out.2.1).b.cell 1
  by_cases hje : j < n
  ·obtain ⟨x, hx⟩ : ∃ x, l[j]? = some x := ⟨_, List.getElem?_eq_getElem (by rw [← HX.out.n]; exact hje)⟩
   obtain ⟨b, o, e1, hC⟩ := HX.out.at_ hx
   subst e1
   obtain ⟨m0, m1, m2, m3, m4, m5, m6⟩ := hC wr HI.out.2.1
   have hji : (j : Int) < (n : Int) := by omega
   have HTK := hid (forgI_next (u := u) hx)
   have hgc := gt_cs u x.key
   obtain ⟨wo, hwo⟩ : ∃ wo, wo = wr := ⟨_, rfl⟩
   subst hwo
   clear hx hC
   rcases hgc with ⟨g, hb1, hb2⟩ | hgc
   ·rw [if_pos g] at HTK
    clear g
    obtain ⟨q1, d1, rfl⟩ := own_slice2 HI.out.2.2.1
    go_wp2_with (with_reducible refine stopAt .append rfl ?_)
    with_reducible refine goOn ?_
    obtain ⟨hnn, hb, hO, hnj⟩ := HI.out
    refine app_one rfl _ _ 142 rfl rC infIt23 Tryz.underlying142 rfl (by decide) (by decide) rC_len rC_one x hO (by omega) hb.size rfl rfl ?_
    intro v' W6 hO6 hk6 _
    have hb6 : Below W.heap.size W W6 := hb.trans (hk6.to_below hb.size (fun b hm => (hO.lt b (Option.mem_toList.1 hm)).1))
    have HI6 : Hid (nb + 1 = (forgI (l.take (j + 1)) u).length ∧ Below W.heap.size W W6 ∧ W6.ownsRow W.heap.size 231 7 v' (nb + 1) (rowV rC (forgI (l.take (j + 1)) u)) ∧ nb + 1 ≤ j + 1) := hid (by
     rw [HTK.out]
     exact ⟨by rw [List.length_append, ← hnn]; rfl, hb6, hO6, by omega⟩)
    have hjl : nb + 1 ≤ 1000 := by have := HL.out; omega
    clear hnn hb hO hnj hO6 hk6 hb6
    go_wp2
    go_roundg (n - (j + 1))
    case measure => omega
    case rel => exact ⟨j + 1, nb + 1, v', by omega, by omega, by go_num, rfl, hjl, HI6⟩
   ·have hng : ¬ u < x.key := by rcases hgc with ⟨g, _⟩ | ⟨g, _⟩ <;> exact g
    rw [if_neg hng] at HTK
    have HI6 : Hid (nb = (forgI (l.take (j + 1)) u).length ∧ Below W.heap.size W wo ∧ wo.ownsRow W.heap.size 231 7 v nb (rowV rC (forgI (l.take (j + 1)) u)) ∧ nb ≤ j + 1) := hid (by
     rw [HTK.out]
     exact ⟨HI.out.1, HI.out.2.1, HI.out.2.2.1, by have := HI.out.2.2.2; omega⟩)
    clear hng
    rcases hgc with ⟨_, hb1⟩ | ⟨_, hb1, hb2⟩
    all_goals
     go_wp2
     go_roundg (n - (j + 1))
     case measure => omega
     case rel => exact ⟨j + 1, nb, v, by omega, by omega, by go_num, rfl, hnb, HI6⟩
  ·have hji : ¬ ((j : Int) < (n : Int)) := by omega
   have hB := (HX.out.below HI.out.2.1).b
   have bf := hB.frozen 1
   have bl := hB.lt
   have HF : Hid (wr.ownsRow W.heap.size 231 7 v (forgI l u).length (rowV rC (forgI l u)) ∧ Below W.heap.size W wr) := hid (by
    have h1 := HI.out
    rw [List.take_of_length_le (by rw [← HX.out.n]; omega)] at h1
    exact ⟨by rw [← h1.1]; exact h1.2.2.1, h1.2.1⟩)
   clear hB
   obtain ⟨q1, d1, rfl⟩ := own_slice2 HI.out.2.2.1
   go_wp2
   go_end0
   first | exact ⟨rfl, wr, _, HF.out.2, HF.out.1, rfl⟩ | exact ⟨rfl, wr, HF.out.2, _, HF.out.1, rfl⟩
end
end
end Go.Proofs.YtnnghcooidjlhaaGreat
