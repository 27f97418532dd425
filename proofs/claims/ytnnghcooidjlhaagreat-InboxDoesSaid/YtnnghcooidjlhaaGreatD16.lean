/- Parts of the proof: Ha Hb Hc Hd He. -/
import Derived.Lib.Bytealg
import Derived.Lib.SliceRun
import Derived.Deep.RegionLaw
import Derived.Lib.AppendZerosOnto
import Derived.Lib.AppendZeros
import Derived.Lib.Overlaps
import Derived.Laws.Externs
import Derived.Laws.NewBlocks
import Derived.Laws.IdiomCopy
import Derived.Maps.AppendAt
import Derived.Test.YtnnghcooidjlhaaGreatD15
set_option linter.all false
set_option maxRecDepth 100000
namespace Go.Proofs.YtnnghcooidjlhaaGreat
section
open Go.RowKit Go.Lib
theorem cmpB_lt : ∀ a b : Bs, Lib.compareBytes a b < 0 ↔ a < b
 | [], [] => by simp [Lib.compareBytes]
 | [], _ :: _ => by simp [Lib.compareBytes]
 | _ :: _, [] => by simp [Lib.compareBytes]
 | a :: x, b :: y => by
  rw [List.cons_lt_cons_iff]
  unfold Lib.compareBytes
  by_cases h : a < b
  ·simp [h]
  ·by_cases h2 : b < a
   ·simp [h, h2]
    intro e; subst e; exact absurd h2 h
   ·have e : a = b := UInt8.le_antisymm (UInt8.not_lt.1 h2) (UInt8.not_lt.1 h)
    simp [h, h2, cmpB_lt x y]
    intro; exact e
theorem cmpB_eq : ∀ a b : Bs, Lib.compareBytes a b = 0 ↔ a = b
 | [], [] => by simp [Lib.compareBytes]
 | [], _ :: _ => by simp [Lib.compareBytes]
 | _ :: _, [] => by simp [Lib.compareBytes]
 | a :: x, b :: y => by
  unfold Lib.compareBytes
  by_cases h : a < b
  ·simp [h]; intro e; subst e; exact absurd h (UInt8.lt_irrefl _)
  ·by_cases h2 : b < a
   ·simp [h, h2]; intro e; subst e; exact absurd h2 (UInt8.lt_irrefl _)
   ·have e : a = b := UInt8.le_antisymm (UInt8.not_lt.1 h2) (UInt8.not_lt.1 h)
    simp [h, h2, e, cmpB_eq x y]
theorem compareString_any (a b : Bs) (w : World) :
  Calls Tryz.prog 227 #[.string (S a), .string (S b)] w fun e w' => e = .returned (.int .i64 (Lib.compareBytes a b)) ∧ w = w' := by
 go_enter Tryz.func227, Tryz.ntmps227
 go_wp2
 rw [run_callFunc_extern Tryz.func250 (by kernel_rfl) (by kernel_rfl) (by kernel_rfl) (e := Extern.BytealgCompare.compare) (by kernel_rfl), Lib.run_compareString]
 simp only [Result.andThen]
 rw [Oper.upon_value]
 go_wp2
 go_ret
 exact ⟨by simp [S], rfl⟩
theorem compare_any (a b : Bs) (w : World) :
  Calls Tryz.prog 195 #[.string (S a), .string (S b)] w fun e w' => e = .returned (.int .i64 (Lib.compareBytes a b)) ∧ w = w' := by
 have HC := hid (compareString_any a b w)
 go_enter Tryz.func195, Tryz.ntmps195
 go_wp2_with (go_at_call 227; (with_reducible refine HC.out.mono ?_); rintro e w' ⟨rfl, rfl⟩)
 go_ret
 exact ⟨rfl, rfl⟩
theorem find_any1 (x : En) (k : Bs) (w : World) :
  Calls Tryz.prog 194 #[.agg #[.string (S x.key), .string (S x.val), .int .i64 x.far], .string (S k)] w fun e w' => e = .returned (.int .i64 (Lib.compareBytes x.key k)) ∧ Below w.heap.size w w' := by
 have HC := hid (fun w => compare_any x.key k w)
 go_enter Tryz.func194, Tryz.ntmps194
 go_wp2_with (go_at_call 195; (with_reducible refine (HC.out _).mono ?_); rintro e w' ⟨rfl, rfl⟩)
 go_ret
 exact ⟨rfl, (Below.refl _ w).alloc (Nat.le_refl _) _⟩
theorem cnt_iff {l : List En} (h : Asc l) (k : Bs) {j : Nat} {x : En} (hx : l[j]? = some x) : x.key < k ↔ j < cnt k l := by
 obtain ⟨h1, h2⟩ := cnt_split h k
 obtain ⟨hj, e⟩ := List.getElem?_eq_some_iff.1 hx
 constructor
 ·intro hk
  rcases Nat.lt_or_ge j (cnt k l) with h3 | h3
  ·exact h3
  ·exfalso
   refine h2 x ?_ hk
   rw [← e]
   exact List.mem_iff_getElem.2 ⟨j - cnt k l, by rw [List.length_drop]; omega, by simp; congr 1; omega⟩
 ·intro hk
  refine h1 x ?_
  rw [← e]
  exact List.mem_iff_getElem.2 ⟨j, by rw [List.length_take]; omega, by simp⟩
def hasB (k : Bs) (l : List En) : Bool := match l[cnt k l]? with
 | some x => decide (x.key = k)
 | none => false
set_option maxHeartbeats 2000000 in
theorem bsearch_any {w : World} {v : Value} {l : List En} (h : Asc l) (hv : EnI w v l) (hn : l.length ≤ 1000000) (k : Bs) :
  Calls Tryz.prog 193 #[v, .string (S k), .func (.func 194) #[] #[]] w fun e w' => e = .returned (.tuple #[.int .i64 (cnt k l), .bool (hasB k l)]) ∧ Below w.heap.size w w' := by
 obtain ⟨ao, c, rfl⟩ := hv.slice
 have H := hid h
 have HV := hid hv
 have HF := hid (fun x w => find_any1 x k w)
 have hcl := cnt_le k l
 have HN := hid hn
 clear h hv
 go_enter Tryz.func193, Tryz.ntmps193
 go_wp2
 go_loopg [9, 10] l.length (fun gg s9 s10 wr => ∃ i j : Nat, i ≤ cnt k l ∧ cnt k l ≤ j ∧ j ≤ l.length ∧ j - i ≤ gg ∧ s9 = .int .i64 i ∧ s10 = .int .i64 j ∧ Hid (Below w.heap.size w wr))
 case atStart => exact ⟨0, l.length, Nat.zero_le _, hcl, Nat.le_refl _, by omega, rfl, rfl, hid (Below.refl _ w)⟩
 case round =>
  clear hcl
  obtain ⟨i, j, hi, hj, hjl, hgg, rfl, rfl, hB⟩ := hrel
  have hsz := hB.out.size
  by_cases hlt : i < j
  ·obtain ⟨g, o, c', e, hc', hg, hE⟩ := HV.out.form (by intro e; rw [e] at hjl; simp at hjl; omega)
   injection e with e1 e2 e3
   subst e1 e3
   obtain ⟨m, hm⟩ : ∃ m, m = (i + j) / 2 := ⟨_, rfl⟩
   obtain ⟨x, hx⟩ : ∃ x, l[m]? = some x := ⟨_, List.getElem?_eq_getElem (by omega)⟩
   obtain ⟨a0, a1, a2⟩ := hE m x hx
   have l0 := (hB.out.cell (p := ⟨g, o + m * 3, none⟩) hg).trans a0
   have l1 := (hB.out.cell (p := ⟨g, o + m * 3 + 1, none⟩) hg).trans a1
   have l2 := (hB.out.cell (p := ⟨g, o + m * 3 + 2, none⟩) hg).trans a2
   have hgw : g < wr.heap.size := Nat.lt_of_lt_of_le hg hB.out.size
   have hltz : (i : Int) < (j : Int) := by omega
   have hmz : (i : Int) + (j : Int) = ((i + j : Nat) : Int) := by omega
   have hiff := cnt_iff H.out k hx
   have hml : (m : Int) < (l.length : Int) := by omega
   have HCF := hid (HF.out x)
   have HM : Hid (m = (i + j) / 2 ∧ i ≤ cnt k l ∧ cnt k l ≤ j ∧ j ≤ l.length ∧ l.length ≤ 1000000) := hid ⟨hm, hi, hj, hjl, hn⟩
   have w1 : IntKind.i64.wrap ((i : Int) + (j : Int)) = (i : Int) + (j : Int) := by rw [IntKind.wrap_i64]; omega
   have w2 : ((i : Int) + (j : Int)) / 2 = (m : Int) := by omega
   have w3 : IntKind.u64.wrap ((i : Int) + (j : Int)) = (i : Int) + (j : Int) := by rw [IntKind.wrap_u64]; omega
   have w4 : IntKind.i64.wrap (m : Int) = (m : Int) := by rw [IntKind.wrap_i64]; omega
   have w5 : IntKind.i64.wrap ((m : Int) + 1) = (m : Int) + 1 := by rw [IntKind.wrap_i64]; omega
   have hm0 : (0 : Int) ≤ (m : Int) := by omega
   clear a0 a1 a2 hE hx hm hi hj hjl hmz
   by_cases hk : x.key < k
   ·have hc0 : Lib.compareBytes x.key k < 0 := (cmpB_lt _ _).2 hk
    have hmc := hid (hiff.1 hk)
    clear hiff hk
    go_wp2_with (go_at_call 194; (with_reducible refine (HCF.out _).mono ?_); rintro e w' ⟨rfl, hb⟩)
    go_roundg (j - (m + 1))
    case measure => have := HM.out; omega
    case rel => exact ⟨m + 1, j, by have := hmc.out; omega, HM.out.2.2.1, HM.out.2.2.2.1, by omega, by go_num, rfl, hid (hB.out.trans (hb.mono hsz))⟩
   ·have hc0 : ¬ Lib.compareBytes x.key k < 0 := fun e => hk ((cmpB_lt _ _).1 e)
    have hmc : Hid (¬ m < cnt k l) := hid (fun e => hk (hiff.2 e))
    clear hiff hk
    go_wp2_with (go_at_call 194; (with_reducible refine (HCF.out _).mono ?_); rintro e w' ⟨rfl, hb⟩)
    go_roundg (m - i)
    case measure => have := HM.out; omega
    case rel => exact ⟨i, m, HM.out.2.1, by have := hmc.out; omega, by have := HM.out; omega, by omega, rfl, rfl, hid (hB.out.trans (hb.mono hsz))⟩
  ·have hij : i = cnt k l := by omega
   have hij2 : j = i := by omega
   subst hij2
   by_cases hlt2 : j < l.length
   ·obtain ⟨g, o, c', e, hc', hg, hE⟩ := HV.out.form (by intro e; rw [e] at hlt2; simp at hlt2)
    injection e with e1 e2 e3
    subst e1 e3
    obtain ⟨x, hx⟩ : ∃ x, l[j]? = some x := ⟨_, List.getElem?_eq_getElem hlt2⟩
    obtain ⟨a0, a1, a2⟩ := hE j x hx
    have l0 := (hB.out.cell (p := ⟨g, o + j * 3, none⟩) hg).trans a0
    have l1 := (hB.out.cell (p := ⟨g, o + j * 3 + 1, none⟩) hg).trans a1
    have l2 := (hB.out.cell (p := ⟨g, o + j * 3 + 2, none⟩) hg).trans a2
    have hgw : g < wr.heap.size := Nat.lt_of_lt_of_le hg hB.out.size
    have hltz : (j : Int) < (l.length : Int) := by omega
    have HCF := hid (HF.out x)
    have hhb : hasB k l = decide (x.key = k) := by unfold hasB; rw [← hij, hx]
    have HHB : Hid (hasB k l = decide (x.key = k) ∧ j = cnt k l) := hid ⟨hhb, hij⟩
    clear a0 a1 a2 hE hx hi hj hjl hgg hij hhb hlt
    by_cases hk : x.key = k
    ·have hc0 : Lib.compareBytes x.key k = 0 := (cmpB_eq _ _).2 hk
     have HK := hid hk
     clear hk
     go_wp2_with (go_at_call 194; (with_reducible refine (HCF.out _).mono ?_); rintro e w' ⟨rfl, hb⟩)
     go_ret2
     rw [HHB.out.1, ← HHB.out.2, decide_eq_true HK.out]
     exact ⟨rfl, hB.out.trans (hb.mono hsz)⟩
    ·have hc0 : (Lib.compareBytes x.key k == 0) = false := by rw [beq_eq_false_iff_ne]; exact fun e => hk ((cmpB_eq _ _).1 e)
     have HK := hid hk
     clear hk
     go_wp2_with (go_at_call 194; (with_reducible refine (HCF.out _).mono ?_); rintro e w' ⟨rfl, hb⟩)
     go_ret2
     rw [HHB.out.1, ← HHB.out.2, decide_eq_false HK.out]
     exact ⟨rfl, hB.out.trans (hb.mono hsz)⟩
   ·have hjn : j = l.length := by omega
    have hhb : hasB k l = false := by unfold hasB; rw [← hij, hjn, List.getElem?_eq_none (Nat.le_refl _)]
    have HHB : Hid (hasB k l = false ∧ j = cnt k l) := hid ⟨hhb, hij⟩
    clear hi hj hjl hgg hij hhb hlt
    subst hjn
    go_wp2
    go_ret2
    refine ⟨?_, hB.out⟩
    rw [HHB.out.1, ← HHB.out.2]
    rfl
set_option maxHeartbeats 1000000 in
theorem find_any {w : World} {leaf : Bool} {v : Value} {l : List En} (h : Asc l) (hv : EnI w v l) (hn : l.length ≤ 1000000) (k : Bs) :
  Calls Tryz.prog 166 #[ndV leaf v, .string (S k)] w fun e w' => e = .returned (.tuple #[.int .i64 (cnt k l), .bool (hasB k l)]) ∧ Below w.heap.size w w' := by
 have HB := hid (fun (W : World) (hW : Below w.heap.size w W) => bsearch_any (w := W) h (hv.below hW) hn k)
 obtain ⟨ao, c, rfl⟩ := hv.slice
 unfold ndV
 clear h hv
 go_enter Tryz.func166, Tryz.ntmps166
 go_wp2_with fail
 (with_reducible refine (HB.out _ ((Below.refl _ w).alloc (Nat.le_refl _) _)).mono ?_)
 rintro e W1 ⟨rfl, hb1⟩
 have HB1 := hid hb1
 clear hb1
 go_wp2
 go_ret2
 exact ⟨rfl, ((Below.refl _ w).alloc (Nat.le_refl _) _).trans (HB1.out.mono (by simp))⟩
def belowN (k : Bs) (l : List En) : Nat := if hasB k l = true then cnt k l else cnt k l - 1
set_option maxHeartbeats 1000000 in
theorem below_any {w : World} {leaf : Bool} {v : Value} {l : List En} (h : Asc l) (hv : EnI w v l) (hn : l.length ≤ 1000000) (k : Bs) :
  Calls Tryz.prog 192 #[ndV leaf v, .string (S k)] w fun e w' => e = .returned (.int .i64 (belowN k l)) ∧ Below w.heap.size w w' := by
 have HB := hid (fun (W : World) (hW : Below w.heap.size w W) => find_any (w := W) (leaf := leaf) h (hv.below hW) hn k)
 obtain ⟨ao, c, rfl⟩ := hv.slice
 have hcl := cnt_le k l
 have hw1 : IntKind.i64.wrap ((cnt k l : Int) - 1) = (cnt k l : Int) - 1 := by rw [IntKind.wrap_i64]; omega
 have HN : Hid (cnt k l ≤ l.length ∧ l.length ≤ 1000000) := hid ⟨hcl, hn⟩
 unfold ndV at HB ⊢
 clear h hv hcl hn
 go_enter Tryz.func192, Tryz.ntmps192
 go_wp2_with fail
 (with_reducible refine (HB.out _ ((Below.refl _ w).alloc (Nat.le_refl _) _)).mono ?_)
 rintro e W1 ⟨rfl, hb1⟩
 have HB1 : Hid (Below w.heap.size w W1) := hid (((Below.refl _ w).alloc (Nat.le_refl _) _).trans (hb1.mono (by simp)))
 clear hb1
 cases hh : hasB k l with
 | true =>
  go_wp2
  go_ret
  refine ⟨?_, HB1.out⟩
  unfold belowN
  rw [if_pos hh]
  rfl
 | false =>
  have hbn : belowN k l = cnt k l - 1 := by unfold belowN; rw [if_neg (by rw [hh]; exact Bool.false_ne_true)]
  have HBN := hid hbn
  clear hbn
  go_wp2
  all_goals
   go_ret
   refine ⟨?_, HB1.out⟩
   rw [HBN.out]
   show Ending.returned (Value.int IntKind.i64 _) = _
   congr 2
   omega
end
section
open Go.RowKit Go.Lib
set_option maxHeartbeats 1000000 in
theorem bytes_any {w : World} {v : Value} {l : List En} (hv : EnI w v l) (hn : l.length ≤ 100000) (hb : ∀ x ∈ l, enB x ≤ 1000) :
  Calls Tryz.prog 235 #[v] w fun e w' => e = .returned (.int .i64 (nB l)) ∧ Below w.heap.size w w' := by
 obtain ⟨ao, c, rfl⟩ := hv.slice
 have HV := hid hv
 have HE := hid hb
 have hle : ∀ i, nB (l.take i) ≤ 1000 * i := fun i => by
  induction i with
  | zero => simp
  | succ i ih =>
   by_cases h : i < l.length
   ·have := nB_take_succ l i h
    have := HE.out l[i] (List.getElem_mem h)
    omega
   ·rw [List.take_of_length_le (by omega)]
    rw [List.take_of_length_le (by omega)] at ih
    omega
 have HLE := hid hle
 clear hv hb hle
 go_enter Tryz.func235, Tryz.ntmps235
 go_wp2
 go_loopg [3, 8] l.length (fun gg s3 s8 wr => ∃ i : Nat, i ≤ l.length ∧ l.length - i ≤ gg ∧ s8 = .int .i64 i ∧ s3 = .int .i64 (nB (l.take i)) ∧ Hid (Below w.heap.size w wr))
 case atStart => exact ⟨0, Nat.zero_le _, by omega, rfl, rfl, hid (Below.refl _ w)⟩
 case round =>
  obtain ⟨i, hi, hgg, rfl, rfl, hB⟩ := hrel
  have hsz := hB.out.size
  by_cases hlt : i < l.length
  ·obtain ⟨g, o, c', e, hc', hg, hE⟩ := HV.out.form (by intro e; rw [e] at hlt; simp at hlt)
   injection e with e1 e2 e3
   subst e1 e3
   obtain ⟨x, hx⟩ : ∃ x, l[i]? = some x := ⟨_, List.getElem?_eq_getElem hlt⟩
   obtain ⟨a0, a1, a2⟩ := hE i x hx
   have l0 := (hB.out.cell (p := ⟨g, o + i * 3, none⟩) hg).trans a0
   have l1 := (hB.out.cell (p := ⟨g, o + i * 3 + 1, none⟩) hg).trans a1
   have l2 := (hB.out.cell (p := ⟨g, o + i * 3 + 2, none⟩) hg).trans a2
   have hltz : (i : Int) < (l.length : Int) := by omega
   have hgw : g < wr.heap.size := Nat.lt_of_lt_of_le hg hB.out.size
   have hxb : enB x ≤ 1000 := HE.out x (List.mem_of_getElem? hx)
   have hxe : enB x = x.key.length + x.val.length + 7 := rfl
   have hs : nB (l.take (i + 1)) = nB (l.take i) + enB x := by
    obtain ⟨h1, e1⟩ := List.getElem?_eq_some_iff.1 hx
    rw [nB_take_succ l i h1, e1]
   have hbd := HLE.out i
   obtain ⟨B, hBd⟩ : ∃ B, B = nB (l.take i) := ⟨_, rfl⟩
   rw [← hBd] at hs hbd ⊢
   have w1 : IntKind.i64.wrap ((x.key.length : Int) + (x.val.length : Int)) = (x.key.length : Int) + (x.val.length : Int) := by rw [IntKind.wrap_i64]; omega
   have w2 : IntKind.i64.wrap ((x.key.length : Int) + (x.val.length : Int) + 7) = (enB x : Int) := by rw [IntKind.wrap_i64]; omega
   have w3 : IntKind.i64.wrap ((B : Int) + (enB x : Int)) = ((B + enB x : Nat) : Int) := by rw [IntKind.wrap_i64]; omega
   have HS := hid hs
   clear a0 a1 a2 hE hx hs hBd hxe hxb
   go_wp2
   go_roundg (l.length - (i + 1))
   case measure => omega
   case rel => exact ⟨i + 1, by omega, by omega, by go_num, by rw [HS.out]; simp, hid (hB.out.alloc hsz _)⟩
  ·have : i = l.length := by omega
   subst this
   go_wp2
   go_ret
   exact ⟨by rw [List.take_length]; rfl, hB.out⟩
theorem rowV_mem {α : Type} (f : α → List Value) (l : List α) (u : Value) : u ∈ rowV f l ↔ ∃ x ∈ l, u ∈ f x := by
 induction l with
 | nil => simp [rowV]
 | cons a t ih =>
  have : rowV f (a :: t) = f a ++ rowV f t := rfl
  rw [this, List.mem_append, ih]; simp
theorem rowV_oneE {l : List En} (u : Value) (hu : u ∈ rowV enC l) : u.oneCell' = true := by
 obtain ⟨x, _, hu⟩ := (rowV_mem enC l u).1 hu
 exact enC_one x u hu
theorem enAt_row {w : World} {g o : Nat} {l : List En} (h : EnAt w g o l) (j : Nat) (u : Value) (hj : (rowV enC l)[j]? = some u) : w.cell? ⟨g, o + j, none⟩ = some u := by
 have hlt : j < (rowV enC l).length := (List.getElem?_eq_some_iff.1 hj).1
 rw [rowV_length enC_len] at hlt
 obtain ⟨x, hx⟩ : ∃ x, l[j / 3]? = some x := ⟨_, List.getElem?_eq_getElem (by omega)⟩
 obtain ⟨a, b, c⟩ := h (j / 3) x hx
 have hr : (enC x)[j % 3]? = some u := by
  have := rowV_get enC_len l (j / 3) x hx (j % 3) (Nat.mod_lt _ (by omega))
  rw [show j / 3 * 3 + j % 3 = j by omega, hj] at this
  exact this.symm
 have h3 : j % 3 = 0 ∨ j % 3 = 1 ∨ j % 3 = 2 := by omega
 rcases h3 with e | e | e
 ·rw [e] at hr
  have : o + j = o + j / 3 * 3 := by omega
  rw [this, a]; exact hr
 ·rw [e] at hr
  have : o + j = o + j / 3 * 3 + 1 := by omega
  rw [this, b]; exact hr
 ·rw [e] at hr
  have : o + j = o + j / 3 * 3 + 2 := by omega
  rw [this, c]; exact hr
set_option maxHeartbeats 1000000 in
theorem clone_any {w : World} {v : Value} {l : List En} (hv : EnI w v l) (hn : l.length ≤ 100000) (hne : l ≠ []) :
  Calls Tryz.prog 253 #[v] w fun e w' => ∃ v', e = .returned v' ∧ w'.ownsRow w.heap.size 299 3 v' l.length (rowV enC l) ∧ Below w.heap.size w w' := by
 obtain ⟨g, o, c, rfl, hc, hg, hE⟩ := hv.form hne
 have q22 : ∀ (w : World) (a : Option Addr) (n c n' c' : Nat), (binOp .eql 290 (.slice a n c) (.slice none n' c')).run Tryz.prog w = .ok (.bool a.isNone) w := fun w a n c n' c' => Lib.run_eql_slice_nil w _ _ a n c n' c' Tryz.underlying290
 have HE := hid hE
 have HN : Hid (l.length ≤ 100000) := hid hn
 clear hv hE
 go_enter Tryz.func253, Tryz.ntmps253
 go_wp2_with (with_reducible refine stopAt .append rfl ?_)
 with_reducible refine goOn ?_
 obtain ⟨i0, hi0, hz0, hz1, hz2⟩ := info_parts infEn
 refine wpList_append_own _ rfl _ _ 290 rfl w.heap.size 299 i0 (.agg #[.string ⟨#[]⟩, .string ⟨#[]⟩, .int .i64 0]) 3 40 Tryz.underlying290 hi0 hz0 hz1 hz2 rfl (by decide) _ _ _ rfl (World.ownsRow_made w #[] 0 (Nat.le_refl _) (Nat.zero_le _) (by simp)) ⟨g, o, none⟩ l.length c (rowV enC l) rfl (rowV_length enC_len l) ?_ ?_ (by have := HN.out; unfold maxLen; omega) (by have := HN.out; omega) (by simp) ?_
 ·intro j u hj
  rw [Addr.add_lit]
  exact Lib.cell?_alloc_some _ (enAt_row HE.out j u hj)
 ·intro u hu
  exact rowV_oneE u hu
 intro v' w1 hown hgrow hnil
 have HO := hid hown
 have HG := hid hgrow
 clear hown hgrow hnil
 go_wp2
 go_ret
 exact ⟨v', rfl, by simpa using HO.out, ((Below.refl _ w).alloc (Nat.le_refl _) _).grown HG.out (by simp) (fun k hk => by
  have hk : some w.heap.size = some k := hk
  injection hk with hk
  omega)⟩
end
section
open Go.RowKit Go.Lib
def setL (l : List Value) (o : Nat) (vs : List Value) : List Value := l.take o ++ vs ++ l.drop (o + vs.length)
theorem setL_length {l : List Value} {o : Nat} {vs : List Value} (h : o + vs.length ≤ l.length) : (setL l o vs).length = l.length := by
 simp [setL]; omega
theorem setL_cons (l : List Value) (o : Nat) (v : Value) (r : List Value) (h : o < l.length) : setL (l.set o v) (o + 1) r = setL l o (v :: r) := by
 unfold setL
 have e1 : (l.set o v).take (o + 1) = l.take o ++ [v] := by
  rw [List.take_succ_eq_append_getElem (by simpa using h)]
  simp [List.take_set_of_le]
 have e2 : (l.set o v).drop (o + 1 + r.length) = l.drop (o + (v :: r).length) := by
  rw [List.drop_set_of_lt (by omega)]
  congr 1
  simp; omega
 rw [e1, e2]
 simp
theorem heap_setCellsL (g : Nat) (T : TypeId) (fz : Nat × Nat) : ∀ (vs : List Value) (o : Nat) (w : World) (cur : Array Value), w.heap[g]? = some (.cells cur T fz) → o + vs.length ≤ cur.size →
  (w.setCells g o vs).heap[g]? = some (.cells (setL cur.toList o vs).toArray T fz)
 | [], o, w, cur, h, _ => by
  show w.heap[g]? = _
  rw [h]
  simp [setL]
 | v :: r, o, w, cur, h, hle => by
  have hle2 : o + 1 + r.length ≤ cur.size := by simpa [Nat.add_assoc, Nat.add_comm 1] using hle
  have h1 : (w.setCell ⟨g, o, none⟩ v).heap[g]? = some (.cells (cur.setIfInBounds o v) T fz) := by
   simp [World.setCell, Array.getElem?_modify, h]
  have := heap_setCellsL g T fz r (o + 1) (w.setCell ⟨g, o, none⟩ v) (cur.setIfInBounds o v) h1 (by simpa using hle2)
  show ((w.setCell ⟨g, o, none⟩ v).setCells g (o + 1) r).heap[g]? = _
  rw [this]
  rw [Array.toList_setIfInBounds, setL_cons _ _ _ _ (by simp; omega)]
theorem own_setCells {w : World} {B g n c s o : Nat} {T : TypeId} {xs : List Value} (h : w.ownsRow B T s (.slice (some ⟨g, 0, none⟩) n c) n xs) (vs : List Value) (ho : o + vs.length ≤ c * s) (m : Nat) (hm : m ≤ c) (ys : List Value)
  (hy : ∀ cur : List Value, cur.length = c * s → cur.take (n * s) = xs → (setL cur o vs).take (m * s) = ys) : (w.setCells g o vs).ownsRow B T s (.slice (some ⟨g, 0, none⟩) m c) m ys := by
 rcases h.2 with ⟨h', _⟩ | ⟨g', c', cur, e, h1, h2, h3, h4, h5, h6⟩
 ·cases h'
 ·injection e with e1 e2 e3
  injection e1 with e1
  injection e1 with e1 _ _
  subst e1 e3
  have hlen : cur.toList.length = c * s := by simpa using h5
  have hy := hy cur.toList hlen h6
  have hsl : (setL cur.toList o vs).length = c * s := by rw [setL_length (by rw [hlen]; exact ho), hlen]
  refine ⟨?_, .inr ⟨g, c, (setL cur.toList o vs).toArray, rfl, h1, heap_setCellsL g T (0, 0) vs o w cur h2 (by rw [h5]; exact ho), hm, h4, by simpa using hsl, by simpa using hy⟩⟩
  rw [← hy, List.length_take, hsl]
  have := Nat.mul_le_mul_right s hm
  omega
theorem own_some {w : World} {B g n c s j : Nat} {T : TypeId} {xs : List Value} (h : w.ownsRow B T s (.slice (some ⟨g, 0, none⟩) n c) n xs) (hj : j < c * s) : (w.cell? ⟨g, j, none⟩).isSome = true := by
 rcases h.2 with ⟨h', _⟩ | ⟨g', c', cur, e, h1, h2, h3, h4, h5, h6⟩
 ·cases h'
 ·injection e with e1 e2 e3
  injection e1 with e1
  injection e1 with e1 _ _
  subst e1 e3
  rw [cell_of_row w g j cur T (0, 0) h2]
  simp; omega
theorem zEn (w : World) : (zeroValue 299).run Tryz.prog w = .ok (.agg #[.string ⟨#[]⟩, .string ⟨#[]⟩, .int .i64 0]) w := by
 obtain ⟨i0, hi0, hz0, hz1, hz2⟩ := info_parts infEn
 simp [zeroValue, typeInfo, hi0, hz0]
def zC : List Value := [.string ⟨#[]⟩, .string ⟨#[]⟩, .int .i64 0]
theorem run_clear1 (W : World) (ty : TypeId) (g o c : Nat) (hc : ∀ j, j < 3 → (W.cell? ⟨g, o + j, none⟩).isSome = true) (hf : ∀ j, j < 3 → W.frozen? ⟨g, o + j, none⟩ = false) :
  (Builtin.clear_ #[290] ty #[.slice (some ⟨g, o, none⟩) 1 c]).run Tryz.prog W = .ok (.tuple #[]) (W.setCells g o zC) := by
 have hz := fun w => zEn w
 have hst := run_storeCells_cells (P := Tryz.prog) g o zC 0 W (by simpa [zC] using hc) (by simpa [zC] using hf) (by intro v hv; simp [zC] at hv; rcases hv with rfl | rfl | rfl <;> rfl)
 simp only [Nat.add_zero] at hst
 have hzc : (Builtin.zeroCells (Value.agg #[.string ⟨#[]⟩, .string ⟨#[]⟩, .int .i64 0]).cells 1).toList = zC := by kernel_rfl
 simp [Builtin.clear_, run_underlying Tryz.underlying290, hz, hzc, hst]
set_option maxHeartbeats 2000000 in
theorem delete_any {w : World} {B g c i : Nat} {l : List En} (h : w.ownsRow B 299 3 (.slice (some ⟨g, 0, none⟩) l.length c) l.length (rowV enC l)) (hi : i < l.length) (hn : l.length ≤ 100000) :
  Calls Tryz.prog 168 #[.slice (some ⟨g, 0, none⟩) l.length c, .int .i64 i, .int .i64 ((i : Int) + 1)] w fun e w' => e = .returned (.slice (some ⟨g, 0, none⟩) (l.length - 1) c) ∧
   w'.ownsRow B 299 3 (.slice (some ⟨g, 0, none⟩) (l.length - 1) c) (l.length - 1) (rowV enC (l.eraseIdx i)) ∧ Kp [g] w w' := by
 obtain ⟨q, c', e, hq1, hq2, hq3⟩ := own_form h (by omega)
 injection e with e1 _ e3
 injection e1 with e1
 injection e1 with e1 _ _
 subst e1 e3
 have hcm : c ≤ maxLen := by
  rcases h.2 with ⟨h', _⟩ | ⟨g', c', cur, e, h1, h2, h3, h4, h5, h6⟩
  ·cases h'
  ·injection e with _ _ e3; subst e3; exact h4
 unfold maxLen at hcm
 obtain ⟨news, hnews⟩ : ∃ news, news = rowV enC (l.drop (i + 1)) := ⟨_, rfl⟩
 have hlen : news.length = (l.length - (i + 1)) * 3 := by rw [hnews, rowV_length enC_len, List.length_drop]
 have hcell : ∀ j, j < l.length * 3 → (w.cell? ⟨g, j, none⟩).isSome = true := fun j hj => by
  obtain ⟨u, hu⟩ : ∃ u, (rowV enC l)[j]? = some u := ⟨_, List.getElem?_eq_getElem (by rw [rowV_length enC_len]; exact hj)⟩
  rw [own_at h rfl hu]; rfl
 have hfz : ∀ j, w.frozen? ⟨g, j, none⟩ = false := fun j => h.frozenAt j
 obtain ⟨A, hA, hsrc⟩ : ∃ A : Addr, (if c = i + 1 then some (⟨g, 0, none⟩ : Addr) else some ⟨g, (i + 1) * 3, none⟩) = some A ∧ Hid (∀ t u, news[t]? = some u → w.drew.cell? (A.add t) = some u) := by
  by_cases hc : c = i + 1
  ·refine ⟨⟨g, 0, none⟩, by simp [hc], hid fun t u hu => ?_⟩
   have h0 : news.length = 0 := by rw [hlen]; omega
   rw [List.length_eq_zero_iff.1 h0] at hu
   simp at hu
  ·refine ⟨⟨g, (i + 1) * 3, none⟩, by simp [hc], hid fun t u hu => ?_⟩
   rw [Addr.add_lit]
   refine own_at h rfl (j := (i + 1) * 3 + t) ?_
   have : rowV enC l = rowV enC (l.take (i + 1)) ++ news := by rw [hnews, ← rowV_append, List.take_append_drop]
   rw [this, List.getElem?_append_right (by rw [rowV_length enC_len, List.length_take]; omega), rowV_length enC_len, List.length_take, Nat.min_eq_left (by omega), Nat.add_sub_cancel_left]
   exact hu
 have s1 : Hid (news.length = (l.length - (i + 1)) * 3) := hid hlen
 have s2 : Hid (∀ u ∈ news, u.oneCell' = true) := hid (by rw [hnews]; exact fun u hu => rowV_oneE u hu)
 have s3 : Hid (∀ t, t < news.length → (w.drew.cell? ⟨g, 0 + i * 3 + t, none⟩).isSome = true ∧ w.drew.frozen? ⟨g, 0 + i * 3 + t, none⟩ = false) := hid fun t ht => by
  rw [hlen] at ht
  exact ⟨hcell _ (by omega), hfz _⟩
 obtain ⟨W1, hW1⟩ : ∃ W1, W1 = w.drew.setCells g (0 + i * 3) news := ⟨_, rfl⟩
 have hO1 : W1.ownsRow B 299 3 (.slice (some ⟨g, 0, none⟩) (l.length - 1) c) (l.length - 1) (rowV enC (l.eraseIdx i)) := by
  rw [hW1]
  refine own_setCells (w := w.drew) (n := l.length) h news (by rw [hlen]; omega) (l.length - 1) (by omega) _ (fun cur hcl hct => ?_)
  unfold setL
  have ha : cur.take (i * 3) = rowV enC (l.take i) := by
   have : (cur.take (l.length * 3)).take (i * 3) = cur.take (i * 3) := by rw [List.take_take, Nat.min_eq_left (by omega)]
   rw [← this, hct]
   have e : rowV enC l = rowV enC (l.take i) ++ rowV enC (l.drop i) := by rw [← rowV_append, List.take_append_drop]
   rw [e, List.take_append_of_le_length (by rw [rowV_length enC_len, List.length_take]; omega), List.take_of_length_le (by rw [rowV_length enC_len, List.length_take]; omega)]
  rw [Nat.zero_add, ha, List.take_append_of_le_length (by rw [List.length_append, rowV_length enC_len, hlen, List.length_take]; omega), List.take_of_length_le (by rw [List.length_append, rowV_length enC_len, hlen, List.length_take]; omega), hnews, ← rowV_append, List.eraseIdx_eq_take_drop_succ]
 have hk1 : Kp [g] w W1 := by
  rw [hW1]
  exact (Kp.refl _ w).drew.trans (kp_setCells g _ _ w.drew)
 have hcl : ∀ ty, (Builtin.clear_ #[290] ty #[.slice (some ⟨g, (l.length - 1) * 3, none⟩) 1 (c - (l.length - 1))]).run Tryz.prog W1 = .ok (.tuple #[]) (W1.setCells g ((l.length - 1) * 3) zC) := fun ty => run_clear1 W1 ty g _ _ (fun j hj => own_some hO1 (by omega)) (fun j _ => hO1.frozenAt _)
 have hO2 : (W1.setCells g ((l.length - 1) * 3) zC).ownsRow B 299 3 (.slice (some ⟨g, 0, none⟩) (l.length - 1) c) (l.length - 1) (rowV enC (l.eraseIdx i)) := by
  refine own_setCells hO1 zC (by simp [zC]; omega) _ (by omega) _ (fun cur hcl hct => ?_)
  unfold setL
  rw [List.append_assoc, List.take_append_of_le_length (by rw [List.length_take]; omega), List.take_take, Nat.min_self]
  exact hct
 have hk2 : Kp [g] w (W1.setCells g ((l.length - 1) * 3) zC) := hk1.trans (kp_setCells g _ _ W1)
 have HW := hid hW1
 have HO := hid hO2
 have HK := hid hk2
 have hic : i ≤ c := by omega
 have hjc : i + 1 ≤ c := by omega
 have hne : ¬ ((i : Int) = (i : Int) + 1) := by omega
 have hb1 : (0 : Int) ≤ (i : Int) + 1 := by omega
 have hb2 : (i : Int) + 1 ≤ (l.length : Int) := by omega
 have hb3 : ((i : Int) + 1).toNat = i + 1 := by omega
 have hl1 : l.length - 1 < c := by omega
 have hl2 : i + (l.length - (i + 1)) = l.length - 1 := by omega
 have hl3 : l.length - (l.length - 1) = 1 := by omega
 clear hW1 hO1 hO2 hk1 hk2 hnews hlen hcell hfz h
 go_enter Tryz.func168, Tryz.ntmps168
 go_wp2_with fail
 obtain ⟨i0, hi0, hz0, hz1, hz2⟩ := info_parts infEn
 go_region_law (refine step_append_room rfl (.tmp 22) (.tmp 25) 290 rfl 299 i0 3 Tryz.underlying290 hi0 hz1 g 0 i c (by simp [Act.eval, Act.put]) A (l.length - (i + 1)) (c - (i + 1)) news (by simp [Act.eval, Act.put]) s1.out hsrc.out s2.out (by omega) s3.out ?_; rw [← HW.out])
 go_wp2
 go_ret
 exact ⟨rfl, HO.out, HK.out⟩
end
section
open Go.RowKit Go.Lib
theorem wp_copyR {P : Program} (w : World) {o : Oper} {a : Act} {K : Act → World → Prop} {Q : Exit → Act → World → Prop} (d s : Operand) (t t' : TypeId)
  (ho : o.op = .call { callee := .builtin .copy, args := #[d, s], argTypes := #[t, t'] }) (v u : Value) (hd : a.eval d = v) (hs : a.eval s = u) {v' : Value} {w' : World}
  (hr : (Builtin.copy_ #[t, t'] o.type #[v, u]).run P w = .ok v' w') (h : K (a.put o.dst v') w') : o.wp P a w K Q := by
 unfold Oper.wp execOp
 simp only [ho, resolve, invoke, builtin, Sem.run_bind, Sem.run_pure, Result.andThen_ok, List.map_toArray, List.map_cons, List.map_nil, hd, hs, hr]
 exact h
theorem wpL_copyR {P : Program} (w : World) {ops : Array Oper} {rest : List Oper} {o : Oper} {a : Act} {Q : Exit → Act → World → Prop} (hgd : o.guard = none) (d s : Operand) (t t' : TypeId)
  (ho : o.op = .call { callee := .builtin .copy, args := #[d, s], argTypes := #[t, t'] }) (v u : Value) (hd : a.eval d = v) (hs : a.eval s = u) {v' : Value} {w' : World}
  (hr : (Builtin.copy_ #[t, t'] o.type #[v, u]).run P w = .ok v' w') (h : wpList P ops Q rest (a.put o.dst v') w') : wpList P ops Q (o :: rest) a w :=
 wpList_plain hgd fun _ hK => wp_copyR w d s t t' ho v u hd hs hr (hK _ _ h)
theorem step_copyR {P : Program} {ops : Array Oper} {o : Oper} {a : Act} {w : World} {K : Act → World → Prop} {Q : Exit → Act → World → Prop} {E : Prop}
  (hg : o.guard = none) (d x : Operand) (dT sT : TypeId) (hop : o.op = Op.call { callee := Callee.builtin Builtin.copy, args := #[d, x], argTypes := #[dT, sT] })
  (v u : Value) (hd : a.eval d = v) (hx : a.eval x = u) {v' : Value} {w' : World} (hr : (Builtin.copy_ #[dT, sT] o.type #[v, u]).run P w = .ok v' w') (hK : K (a.put o.dst v') w') :
  if Region.wanted o (yielded ops a.tmps) = true then Oper.wp P o a w K Q else E := by
 have hw : Region.wanted o (yielded ops a.tmps) = true := by simp [Region.wanted, hg]
 rw [if_pos hw]
 unfold Oper.wp
 simp [execOp, hop, resolve, invoke, builtin, hd, hx, hr, Result.andThen]
 exact hK
theorem run_copy3 (w : World) (ty : TypeId) (b o dLen dCap : Nat) (a : Addr) (sLen sCap : Nat) (cs : List Value) (m : Nat) (hm : m = Nat.min sLen dLen) (hn : cs.length = m * 3)
  (hsrc : ∀ j v, cs[j]? = some v → w.cell? (a.add j) = some v) (hc : ∀ j, j < cs.length → (w.cell? ⟨b, o + j, none⟩).isSome = true) (hf : ∀ j, j < cs.length → w.frozen? ⟨b, o + j, none⟩ = false) (h1 : ∀ v ∈ cs, v.oneCell' = true) :
  (Builtin.copy_ #[290, 290] ty #[.slice (some ⟨b, o, none⟩) dLen dCap, .slice (some a) sLen sCap]).run Tryz.prog w = .ok (goInt m) (w.setCells b o cs) := by
 obtain ⟨i0, hi0, hz0, hz1, hz2⟩ := info_parts infEn
 have hl := run_firstCells_some (P := Tryz.prog) w 3 m a sLen sCap cs hn hsrc
 have hst := run_storeCells_cells (P := Tryz.prog) b o cs 0 w (by simpa using hc) (by simpa using hf) h1
 simp only [Nat.add_zero] at hst
 simp [Builtin.copy_, run_underlying Tryz.underlying290, Builtin.lenOf, sizeOf, typeInfo, hi0, hz1, ← hm, hl, hst]
end
section
open Go.RowKit Go.Lib
def insL (l : List En) (i : Nat) (x : En) : List En := l.take i ++ x :: l.drop i
theorem insL_length (l : List En) (i : Nat) (x : En) (h : i ≤ l.length) : (insL l i x).length = l.length + 1 := by simp [insL]; omega
theorem row_ins (l : List En) (i : Nat) (x : En) : rowV enC (insL l i x) = rowV enC (l.take i) ++ enC x ++ rowV enC (l.drop i) := by simp [insL]
theorem row_split (l : List En) (i : Nat) : rowV enC l = rowV enC (l.take i) ++ rowV enC (l.drop i) := by rw [← rowV_append, List.take_append_drop]
theorem row_take_len (l : List En) (i : Nat) (h : i ≤ l.length) : (rowV enC (l.take i)).length = i * 3 := by rw [rowV_length enC_len, List.length_take, Nat.min_eq_left h]
theorem row_drop_len (l : List En) (i : Nat) : (rowV enC (l.drop i)).length = (l.length - i) * 3 := by rw [rowV_length enC_len, List.length_drop]
theorem two_lay {cur A X R : List Value} {i n c : Nat} (hc : cur.length = c * 3) (hA : cur.take (i * 3) = A) (hX : X.length = 3) (hR : R.length = (n - i) * 3) (hi : i ≤ n) (hn : n + 1 ≤ c) :
  (setL (setL cur (i * 3) X) ((i + 1) * 3) R).take ((n + 1) * 3) = A ++ X ++ R := by
 have hAl : A.length = i * 3 := by rw [← hA, List.length_take]; omega
 have e1 : setL cur (i * 3) X = A ++ X ++ cur.drop (i * 3 + X.length) := by unfold setL; rw [hA]
 have hAX : (A ++ X).length = (i + 1) * 3 := by rw [List.length_append]; omega
 have e2 : (A ++ X ++ cur.drop (i * 3 + X.length)).take ((i + 1) * 3) = A ++ X := by rw [← hAX, List.take_left]
 rw [e1]
 unfold setL
 rw [e2]
 rw [List.take_append_of_le_length (by simp only [List.length_append] at hAX ⊢; omega), List.take_of_length_le (by simp only [List.length_append] at hAX ⊢; omega)]
theorem two_lay' {cur A X R : List Value} {i n c : Nat} (hc : cur.length = c * 3) (hA : cur.take (i * 3) = A) (hX : X.length = 3) (hR : R.length = (n - i) * 3) (hi : i ≤ n) (hn : n + 1 ≤ c) :
  (setL (setL cur ((i + 1) * 3) R) (i * 3) X).take ((n + 1) * 3) = A ++ X ++ R := by
 have hAl : A.length = i * 3 := by rw [← hA, List.length_take]; omega
 unfold setL
 have e1 : (cur.take ((i + 1) * 3) ++ R ++ cur.drop ((i + 1) * 3 + R.length)).take (i * 3) = A := by
  rw [List.append_assoc, List.take_append_of_le_length (by rw [List.length_take]; omega), List.take_take, Nat.min_eq_left (by omega), hA]
 have e2 : (cur.take ((i + 1) * 3) ++ R ++ cur.drop ((i + 1) * 3 + R.length)).drop (i * 3 + X.length) = R ++ cur.drop ((i + 1) * 3 + R.length) := by
  have : i * 3 + X.length = (cur.take ((i + 1) * 3)).length := by rw [List.length_take]; omega
  rw [List.append_assoc, this, List.drop_left]
 rw [e1, e2, ← List.append_assoc]
 rw [List.take_append_of_le_length (by simp only [List.length_append]; omega), List.take_of_length_le (by simp only [List.length_append]; omega)]
set_option maxHeartbeats 2000000 in
theorem insert_end {w : World} {B vb : Nat} {v : Value} {l : List En} {x : En} (h : w.ownsRow B 299 3 v l.length (rowV enC l)) (hvb : Blk w vb 299 (enC x).toArray) (hB : B ≤ w.heap.size) (hn : l.length ≤ 100000) :
  Calls Tryz.prog 170 #[v, .int .i64 l.length, .slice (some ⟨vb, 0, none⟩) 1 1] w fun e w' => ∃ v', e = .returned v' ∧
   w'.ownsRow B 299 3 v' (l.length + 1) (rowV enC (insL l l.length x)) ∧ w.grownBy w' v.ownBlock ∧ (v'.ownBlock = v.ownBlock ∨ v'.ownBlock = some w.heap.size) := by
 have HO := hid h
 have HV := hid hvb
 have HBB := hid hB
 obtain ⟨tp, tc, rfl⟩ := own_slice2 h
 have hcn : l.length ≤ tc := by
  rcases h.2 with ⟨h', h0⟩ | ⟨g', c', cur, e, h1, h2, h3, _⟩
  ·injection h' with _ _ h3; omega
  ·injection e with _ _ e3; omega
 clear h hvb hB
 go_enter Tryz.func170, Tryz.ntmps170
 obtain ⟨i0, hi0, hz0, hz1, hz2⟩ := info_parts infEn
 cases tp with
 | none =>
  go_wp2_with (with_reducible refine stopAt .append rfl ?_)
  with_reducible refine goOn ?_
  refine wpList_append_own_at _ rfl _ _ 290 rfl B 299 i0 (.agg #[.string ⟨#[]⟩, .string ⟨#[]⟩, .int .i64 0]) 3 40 Tryz.underlying290 hi0 hz0 hz1 hz2 rfl (by decide) _ _ _ rfl HO.out ⟨vb, 0, none⟩ 1 1 (enC x) rfl rfl (news_of HV.out) (enC_one x) (by unfold maxLen; omega) (by omega) HBB.out ?_
  intro v' W' hO' hgr _ hat
  have HAT := hid hat
  clear hat
  have HO' := hid hO'
  have HG := hid hgr
  clear hO' hgr
  go_wp2
  go_ret
  refine ⟨v', rfl, ?_, HG.out, HAT.out⟩
  have e : rowV enC (insL l l.length x) = rowV enC l ++ enC x := by simp [insL]
  rw [e]
  exact HO'.out
 | some a =>
  by_cases htc : tc = l.length
  ·subst htc
   go_wp2_with (with_reducible refine stopAt .append rfl ?_)
   with_reducible refine goOn ?_
   refine wpList_append_own_at _ rfl _ _ 290 rfl B 299 i0 (.agg #[.string ⟨#[]⟩, .string ⟨#[]⟩, .int .i64 0]) 3 40 Tryz.underlying290 hi0 hz0 hz1 hz2 rfl (by decide) _ _ _ rfl HO.out ⟨vb, 0, none⟩ 1 1 (enC x) rfl rfl (news_of HV.out) (enC_one x) (by unfold maxLen; omega) (by omega) HBB.out ?_
   intro v' W' hO' hgr _ hat
   have HAT := hid hat
   clear hat
   have HO' := hid hO'
   have HG := hid hgr
   clear hO' hgr
   go_wp2
   go_ret
   refine ⟨v', rfl, ?_, HG.out, HAT.out⟩
   have e : rowV enC (insL l l.length x) = rowV enC l ++ enC x := by simp [insL]
   rw [e]
   exact HO'.out
  ·have htc2 : ¬ ((tc : Int) = (l.length : Int)) := by omega
   go_wp2_with (with_reducible refine stopAt .append rfl ?_)
   with_reducible refine goOn ?_
   refine wpList_append_own_at _ rfl _ _ 290 rfl B 299 i0 (.agg #[.string ⟨#[]⟩, .string ⟨#[]⟩, .int .i64 0]) 3 40 Tryz.underlying290 hi0 hz0 hz1 hz2 rfl (by decide) _ _ _ rfl HO.out ⟨vb, 0, none⟩ 1 1 (enC x) rfl rfl (news_of HV.out) (enC_one x) (by unfold maxLen; omega) (by omega) HBB.out ?_
   intro v' W' hO' hgr _ hat
   have HAT := hid hat
   clear hat
   have HO' := hid hO'
   have HG := hid hgr
   clear hO' hgr
   go_wp2
   go_ret
   refine ⟨v', rfl, ?_, HG.out, HAT.out⟩
   have e : rowV enC (insL l l.length x) = rowV enC l ++ enC x := by simp [insL]
   rw [e]
   exact HO'.out
end
end Go.Proofs.YtnnghcooidjlhaaGreat
