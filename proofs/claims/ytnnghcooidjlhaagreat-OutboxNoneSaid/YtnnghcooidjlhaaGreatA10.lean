/- Parts of the proof: Gq Gb Gc Gd Ge. -/
import Derived.Deep.Quiet
import Derived.Deep.QuietTactic
import Derived.Tactics2
import Derived.KernelRfl
import Derived.WalkKit
import Derived.Laws.Cover1
import Derived.Laws.IdiomStrings
import Derived.BigQuiet
import Derived.StillTailTactics
import Derived.Test.YtnnghcooidjlhaaGreatA08
set_option linter.all false
section
set_option linter.unusedSimpArgs false
namespace Go.Proofs.YtnnghcooidjlhaaGreat
def wpC (P : Program) (ops : Array Oper) (C : World → Prop) (Q : Act → Prop) (rest : List Oper) (a : Act) : Prop := wpQuiet P ops C Q rest a
theorem wpC_step {P : Program} {ops : Array Oper} {C : World → Prop} {Q : Act → Prop} {a : Act} {o : Oper} {rest : List Oper}
    (h : ∀ K : Act → Prop, (∀ a, wpC P ops C Q rest a → K a) → if Region.wanted o (yielded ops a.tmps) then o.quiet P a C K else K (a.put o.dst undef)) : wpC P ops C Q (o :: rest) a :=
  wpQuiet_step h
section
variable {P : Program} {l : List Oper} {C : World → Prop} {Q : Act → Prop} {a : Act} {o : Oper} {rest : List Oper}
theorem qC_want (hw : Region.wanted o (yielded l.toArray a.tmps) = true)
    (h : ∀ K : Act → Prop, (∀ a, wpC P l.toArray C Q rest a → K a) → ∃ v, (∀ w, C w → o.quietAt P a C w v) ∧ K (a.put o.dst v)) : wpC P l.toArray C Q (o :: rest) a :=
  wpC_step fun K hK => by rw [if_pos hw]; exact h K hK
theorem qC_pass (hw : Region.wanted o (yielded l.toArray a.tmps) = false)
    (h : ∀ K : Act → Prop, (∀ a, wpC P l.toArray C Q rest a → K a) → K (a.put o.dst undef)) : wpC P l.toArray C Q (o :: rest) a :=
  wpC_step fun K hK => by rw [if_neg (by rw [hw]; exact Bool.false_ne_true)]; exact h K hK
theorem qC_none (hg : o.guard = none)
    (h : ∀ K : Act → Prop, (∀ a, wpC P l.toArray C Q rest a → K a) → ∃ v, (∀ w, C w → o.quietAt P a C w v) ∧ K (a.put o.dst v)) : wpC P l.toArray C Q (o :: rest) a :=
  qC_want (by unfold Region.wanted; rw [hg]) h
theorem qwanted_of (j : Nat) (want : Bool) (d : Tmp) (b : Bool) (hg : o.guard = some (j, want)) (hd : (l[j]?).bind (·.dst) = some d)
    (hv : a.tmps.toList[d]? = some (.bool b)) : Region.wanted o (yielded l.toArray a.tmps) = (b == want) := by
  unfold Region.wanted yielded
  rw [hg]
  have h1 : l.toArray[j]? = l[j]? := by simp
  have h2 : a.tmps[d]? = a.tmps.toList[d]? := by simp
  simp only [h1, hd, Option.bind_some, h2, hv]
  cases b <;> cases want <;> rfl
theorem qC_yes (j : Nat) (want : Bool) (d : Tmp) (hg : o.guard = some (j, want)) (hd : (l[j]?).bind (·.dst) = some d) (hv : a.tmps.toList[d]? = some (.bool want))
    (h : ∀ K : Act → Prop, (∀ a, wpC P l.toArray C Q rest a → K a) → ∃ v, (∀ w, C w → o.quietAt P a C w v) ∧ K (a.put o.dst v)) : wpC P l.toArray C Q (o :: rest) a :=
  qC_want (by rw [qwanted_of j want d _ hg hd hv]; cases want <;> rfl) h
theorem qC_no (j : Nat) (want : Bool) (d : Tmp) (hg : o.guard = some (j, want)) (hd : (l[j]?).bind (·.dst) = some d) (hv : a.tmps.toList[d]? = some (.bool !want))
    (h : ∀ K : Act → Prop, (∀ a, wpC P l.toArray C Q rest a → K a) → K (a.put o.dst undef)) : wpC P l.toArray C Q (o :: rest) a :=
  qC_pass (by rw [qwanted_of j want d _ hg hd hv]; cases want <;> rfl) h
theorem qC_undef (j : Nat) (want : Bool) (d : Tmp) (hg : o.guard = some (j, want)) (hd : (l[j]?).bind (·.dst) = some d) (hv : a.tmps.toList[d]? = some undef)
    (h : ∀ K : Act → Prop, (∀ a, wpC P l.toArray C Q rest a → K a) → K (a.put o.dst undef)) : wpC P l.toArray C Q (o :: rest) a :=
  qC_pass (by
    unfold Region.wanted yielded
    rw [hg]
    have h1 : l.toArray[j]? = l[j]? := by simp
    have h2 : a.tmps[d]? = a.tmps.toList[d]? := by simp
    simp only [h1, hd, Option.bind_some, h2, hv]
    cases want <;> rfl) h
theorem qC_region {id : Nat} {Q : Exit → Act → World → Prop} {w : World} (hm : P.follows .mixedOrders = true) (hB : Region.lexB .any l.toArray = true) (C : World → Prop) (hC : C w.drew)
    (h : wpC P l.toArray C (fun a' => ∀ w', C w' → Q .normal a' w') l a) : (Code.region id l.toArray true).wp P Q a w :=
  wp_region_quiet (C := C) hm hB hC (by have h : wpQuiet P l.toArray C _ l a := h; simpa using h)
theorem qC_nil (h : Q a) : wpC P l.toArray C Q [] a := h
end
attribute [irreducible] wpC
end Go.Proofs.YtnnghcooidjlhaaGreat
end
section
set_option linter.unusedSimpArgs false
set_option maxRecDepth 100000
namespace Go.Proofs.YtnnghcooidjlhaaGreat
open Go.RowKit Go.Lib
theorem Asc.next {l : List En} (h : Asc l) {j : Nat} {x y : En} (hx : l[j]? = some x) (hy : l[j + 1]? = some y) : x.key < y.key := by
  obtain ⟨h1, e1⟩ := List.getElem?_eq_some_iff.1 hx
  obtain ⟨h2, e2⟩ := List.getElem?_eq_some_iff.1 hy
  have := List.pairwise_iff_getElem.1 h j (j + 1) h1 h2 (by omega)
  rwa [e1, e2] at this
theorem below_undrew {w w' : World} (h : Below w.drew.heap.size w.drew w') : Below w.heap.size w w' := ⟨h.os, h.tape, h.output, h.size, h.block⟩
theorem keep1 {w w' : World} {a : Addr} {x : Value} (h : w.cell? a = some x) (hB : Below w.heap.size w w') : w'.cell? a = some x := (hB.cell (block_lt_of_cell h)).trans h
set_option maxHeartbeats 2000000 in
theorem may_any {w : World} {n : Nd} {v : Value} (h : mayN n) (hv : EnI w v n.l) (hn : n.l.length ≤ 1000000) :
    Calls Tryz.prog 213 #[ndV n.leaf v] w fun e w' => e = .returned (.bool true) ∧ Below w.heap.size w w' := by
  obtain ⟨ao, c, rfl⟩ := hv.slice
  have H := hid h
  have HV := hid hv
  clear h hv
  unfold ndV
  go_enter Tryz.func213, Tryz.ntmps213
  go_wp2
  go_loopg [8] n.l.length (fun gg s8 wr => ∃ i : Nat, i ≤ n.l.length ∧ n.l.length - i ≤ gg ∧ s8 = .int .i64 i ∧ Hid (Below w.heap.size w wr) ∧ Hid (Blk wr w.heap.size 292 #[.bool n.leaf, .slice ao n.l.length c]))
  case atStart => exact ⟨0, Nat.zero_le _, by omega, rfl, hid ((Below.refl _ w).alloc (Nat.le_refl _) _), hid (Blk.new w _ _)⟩
  case round =>
    obtain ⟨i, hi, hgg, rfl, hB, hN⟩ := hrel
    by_cases hlt : i < n.l.length
    · obtain ⟨g, o, c', e, hc', hg, hE⟩ := HV.out.form (by intro e; rw [e] at hlt; simp at hlt)
      injection e with e1 e2 e3
      subst e1 e3
      obtain ⟨x, hx⟩ : ∃ x, n.l[i]? = some x := ⟨_, List.getElem?_eq_getElem hlt⟩
      have cell : Hid (∀ (W : World), Below w.heap.size w W → ∀ (j : Nat) y, n.l[j]? = some y → W.cell? ⟨g, o + j * 3, none⟩ = some (.string (S y.key)) ∧ W.cell? ⟨g, o + j * 3 + 1, none⟩ = some (.string (S y.val)) ∧ W.cell? ⟨g, o + j * 3 + 2, none⟩ = some (.int .i64 y.far)) := hid fun W hW j y hy => by
        obtain ⟨a, b, d⟩ := hE j y hy
        exact ⟨(hW.cell (p := ⟨g, _, none⟩) hg).trans a, (hW.cell (p := ⟨g, _, none⟩) hg).trans b, (hW.cell (p := ⟨g, _, none⟩) hg).trans d⟩
      obtain ⟨l0, l1, l2⟩ := cell.out wr hB.out i x hx
      have hltz : (i : Int) < (n.l.length : Int) := by omega
      have hgw : g < wr.heap.size := Nat.lt_of_lt_of_le hg hB.out.size
      have hnw : w.heap.size < wr.heap.size := hN.out.lt
      have hgne : g ≠ wr.heap.size := by omega
      have hgne2 : w.heap.size ≠ wr.heap.size := by omega
      have n0 : wr.cell? ⟨w.heap.size, 0, none⟩ = some (.bool n.leaf) := hN.out.cell 0
      have n1 : wr.cell? ⟨w.heap.size, 1, none⟩ = some (.slice (some ⟨g, o, none⟩) n.l.length c) := hN.out.cell 1
      have HRT := hid (fun W => right_any W x n.leaf (H.out.1 x (List.mem_of_getElem? hx)))
      have HX := hid hx
      clear hx hE
      obtain ⟨wo, hwo⟩ : ∃ wo, wo = wr := ⟨_, rfl⟩
      subst hwo
      have HB2 : Hid (Below w.heap.size w (wo.alloc (.cells #[.string (S x.key), .string (S x.val), .int .i64 x.far] 299))) := hid (hB.out.alloc hB.out.size _)
      have hN2 := hN.out.alloc (.cells #[.string (S x.key), .string (S x.val), .int .i64 x.far] 299)
      have hE2 := Blk.new wo 299 #[.string (S x.key), .string (S x.val), .int .i64 x.far]
      have HS0 : Hid ((wo.alloc (.cells #[.string (S x.key), .string (S x.val), .int .i64 x.far] 299)).cell? ⟨wo.heap.size, 0, none⟩ = some (.string (S x.key)) ∧ (wo.alloc (.cells #[.string (S x.key), .string (S x.val), .int .i64 x.far] 299)).cell? ⟨wo.heap.size, 1, none⟩ = some (.string (S x.val)) ∧ (wo.alloc (.cells #[.string (S x.key), .string (S x.val), .int .i64 x.far] 299)).cell? ⟨wo.heap.size, 2, none⟩ = some (.int .i64 x.far)) := hid ⟨hE2.cell 0, hE2.cell 1, hE2.cell 2⟩
      have HS1 : Hid ((wo.alloc (.cells #[.string (S x.key), .string (S x.val), .int .i64 x.far] 299)).cell? ⟨w.heap.size, 0, none⟩ = some (.bool n.leaf) ∧ (wo.alloc (.cells #[.string (S x.key), .string (S x.val), .int .i64 x.far] 299)).cell? ⟨w.heap.size, 1, none⟩ = some (.slice (some ⟨g, o, none⟩) n.l.length c)) := hid ⟨hN2.cell 0, hN2.cell 1⟩
      clear hN2 hE2
      by_cases h0 : i = 0
      · subst h0
        have m0 : wo.cell? ⟨g, o, none⟩ = some (.string (S x.key)) := by simpa using l0
        have m1 : wo.cell? ⟨g, o + 1, none⟩ = some (.string (S x.val)) := by simpa using l1
        have m2 : wo.cell? ⟨g, o + 2, none⟩ = some (.int .i64 x.far) := by simpa using l2
        clear l0 l1 l2
        go_wp2
        obtain ⟨C, hC⟩ : ∃ C : World → Prop, Hid (∀ W, C W ↔ Below (wo.heap.size + 1) (wo.alloc (.cells #[.string (S x.key), .string (S x.val), .int .i64 x.far] 299)) W) := ⟨_, hid fun _ => Iff.rfl⟩
        have HCL : Hid (∀ W, C W → W.cell? ⟨wo.heap.size, 0, none⟩ = some (.string (S x.key)) ∧ W.cell? ⟨wo.heap.size, 1, none⟩ = some (.string (S x.val)) ∧ W.cell? ⟨wo.heap.size, 2, none⟩ = some (.int .i64 x.far) ∧ W.cell? ⟨w.heap.size, 0, none⟩ = some (.bool n.leaf)) := hid fun W hW => by
          have hb := (hC.out W).1 hW
          exact ⟨(hb.cell (by simp)).trans HS0.out.1, (hb.cell (by simp)).trans HS0.out.2.1, (hb.cell (by simp)).trans HS0.out.2.2, (hb.cell (by simp; omega)).trans HS1.out.1⟩
        have HCC : Hid (∀ W, C W → Calls Tryz.prog 238 #[.agg #[.string (S x.key), .string (S x.val), .int .i64 x.far], .bool n.leaf] W fun e w' => e = .returned (.bool true) ∧ C w') := hid fun W hW => by
          refine (HRT.out W).mono ?_
          rintro e w' ⟨rfl, hb⟩
          have h1 := (hC.out W).1 hW
          exact ⟨rfl, (hC.out w').2 (h1.trans (hb.mono (by have := h1.size; simpa using this)))⟩
        refine qC_region (by kernel_rfl) (by kernel_rfl) C ((hC.out _).2 (below_drewN (Below.refl _ _) 1)) ?_
        repeat (first | (refine qC_none rfl (fun K hK => ?_); apply Exists.intro; refine ⟨fun w0 hw0 => ?_, ?_⟩; (focus (obtain ⟨q0, q1, q2, q3⟩ := HCL.out w0 hw0; go_simp; first | exact rfl | exact ⟨rfl, rfl⟩ | (exact HCC.out w0 hw0))); go_simp; refine hK _ ?_; clear hK K) | (refine qC_yes _ _ _ rfl rfl (by rfl) (fun K hK => ?_); apply Exists.intro; refine ⟨fun w0 hw0 => ?_, ?_⟩; (focus (obtain ⟨q0, q1, q2, q3⟩ := HCL.out w0 hw0; go_simp; first | exact rfl | exact ⟨rfl, rfl⟩ | (exact HCC.out w0 hw0))); go_simp; refine hK _ ?_; clear hK K) | (refine qC_no _ _ _ rfl rfl (by rfl) (fun K hK => ?_); go_simp; refine hK _ ?_; clear hK K) | (refine qC_undef _ _ _ rfl rfl (by rfl) (fun K hK => ?_); go_simp; refine hK _ ?_; clear hK K))
        refine qC_nil ?_
        intro w5 hw5
        have hb5 := (hC.out w5).1 hw5
        have hN5 : Blk w5 w.heap.size 292 #[.bool n.leaf, .slice (some ⟨g, o, none⟩) n.l.length c] := (hN.out.alloc _).below hb5 (by omega)
        have HN5 := hid hN5
        have HB5 : Hid (Below w.heap.size w w5) := hid (HB2.out.trans (hb5.mono (by omega)))
        clear hN5 hb5
        go_wp2
        go_roundg (n.l.length - 1)
        case measure => omega
        case rel => exact ⟨1, by omega, by omega, by go_num, HB5, HN5⟩
      · obtain ⟨k, hk⟩ : ∃ k, i = k + 1 := ⟨i - 1, by omega⟩
        obtain ⟨y, hy⟩ : ∃ y, n.l[k]? = some y := ⟨_, List.getElem?_eq_getElem (by omega)⟩
        have hyx : y.key < x.key := Asc.next H.out.2 hy (by rw [← hk]; exact HX.out)
        have hle : (Op.bytesLess x.key y.key || x.key == y.key) = false := by
          rw [bl]
          simp only [Bool.or_eq_false_iff, decide_eq_false_iff_not, beq_eq_false_iff_ne]
          exact ⟨blt_asymm hyx, fun e => blt_irrefl _ (e ▸ hyx)⟩
        have hw1 : IntKind.i64.wrap ((i : Int) - 1) = (k : Int) := by rw [IntKind.wrap_i64]; omega
        have hk0 : 0 < i := by omega
        have hk2 : (0 : Int) ≤ (k : Int) := by omega
        have hk1 : (k : Int) < (n.l.length : Int) := by omega
        have l3 := (cell.out wo hB.out k y hy).1
        have HS2 : Hid ((wo.alloc (.cells #[.string (S x.key), .string (S x.val), .int .i64 x.far] 299)).cell? ⟨g, o + k * 3, none⟩ = some (.string (S y.key))) := hid ((World.cell?_of_block (a := ⟨g, o + k * 3, none⟩) (Below.heap_alloc wo _ g hgw)).trans l3)
        have HY := hid hyx
        have HK := hid hk
        have HYY := hid hy
        clear l3 hyx hk hy
        go_wp2
        obtain ⟨C, hC⟩ : ∃ C : World → Prop, Hid (∀ W, C W ↔ Below (wo.heap.size + 1) (wo.alloc (.cells #[.string (S x.key), .string (S x.val), .int .i64 x.far] 299)) W) := ⟨_, hid fun _ => Iff.rfl⟩
        have HCL : Hid (∀ W, C W → W.cell? ⟨wo.heap.size, 0, none⟩ = some (.string (S x.key)) ∧ W.cell? ⟨wo.heap.size, 1, none⟩ = some (.string (S x.val)) ∧ W.cell? ⟨wo.heap.size, 2, none⟩ = some (.int .i64 x.far) ∧ W.cell? ⟨w.heap.size, 0, none⟩ = some (.bool n.leaf) ∧ W.cell? ⟨w.heap.size, 1, none⟩ = some (.slice (some ⟨g, o, none⟩) n.l.length c) ∧ W.cell? ⟨g, o + k * 3, none⟩ = some (.string (S y.key))) := hid fun W hW => by
          have hb := (hC.out W).1 hW
          exact ⟨(hb.cell (by simp)).trans HS0.out.1, (hb.cell (by simp)).trans HS0.out.2.1, (hb.cell (by simp)).trans HS0.out.2.2, (hb.cell (by simp; omega)).trans HS1.out.1, (hb.cell (by simp; omega)).trans HS1.out.2, (hb.cell (by simp; omega)).trans HS2.out⟩
        have HCC : Hid (∀ W, C W → Calls Tryz.prog 238 #[.agg #[.string (S x.key), .string (S x.val), .int .i64 x.far], .bool n.leaf] W fun e w' => e = .returned (.bool true) ∧ C w') := hid fun W hW => by
          refine (HRT.out W).mono ?_
          rintro e w' ⟨rfl, hb⟩
          have h1 := (hC.out W).1 hW
          exact ⟨rfl, (hC.out w').2 (h1.trans (hb.mono (by have := h1.size; simpa using this)))⟩
        refine qC_region (by kernel_rfl) (by kernel_rfl) C ((hC.out _).2 (below_drewN (Below.refl _ _) 1)) ?_
        repeat (first | (refine qC_none rfl (fun K hK => ?_); apply Exists.intro; refine ⟨fun w0 hw0 => ?_, ?_⟩; (focus (obtain ⟨q0, q1, q2, q3, q4, q5⟩ := HCL.out w0 hw0; go_simp; first | exact rfl | exact ⟨rfl, rfl⟩ | (exact HCC.out w0 hw0))); go_simp; refine hK _ ?_; clear hK K) | (refine qC_yes _ _ _ rfl rfl (by rfl) (fun K hK => ?_); apply Exists.intro; refine ⟨fun w0 hw0 => ?_, ?_⟩; (focus (obtain ⟨q0, q1, q2, q3, q4, q5⟩ := HCL.out w0 hw0; go_simp; first | exact rfl | exact ⟨rfl, rfl⟩ | (exact HCC.out w0 hw0))); go_simp; refine hK _ ?_; clear hK K) | (refine qC_no _ _ _ rfl rfl (by rfl) (fun K hK => ?_); go_simp; refine hK _ ?_; clear hK K) | (refine qC_undef _ _ _ rfl rfl (by rfl) (fun K hK => ?_); go_simp; refine hK _ ?_; clear hK K))
        refine qC_nil ?_
        intro w5 hw5
        have hb5 := (hC.out w5).1 hw5
        have hN5 : Blk w5 w.heap.size 292 #[.bool n.leaf, .slice (some ⟨g, o, none⟩) n.l.length c] := (hN.out.alloc _).below hb5 (by omega)
        have HN5 := hid hN5
        have HB5 : Hid (Below w.heap.size w w5) := hid (HB2.out.trans (hb5.mono (by omega)))
        clear hN5 hb5
        go_wp2
        go_roundg (n.l.length - (i + 1))
        case measure => omega
        case rel => exact ⟨i + 1, by omega, by omega, by go_num, HB5, HN5⟩
    · have : i = n.l.length := by omega
      subst this
      go_wp2
      go_ret
      exact ⟨rfl, hB.out⟩
end Go.Proofs.YtnnghcooidjlhaaGreat
end
section
set_option linter.unusedSimpArgs false
set_option maxRecDepth 100000
namespace Go.Proofs.YtnnghcooidjlhaaGreat
open Go.RowKit Go.Lib
theorem own_not {w : World} {B g s n : Nat} {T T' : TypeId} {v : Value} {xs : List Value} {cs : Array Value} (h : w.ownsRow B T s v n xs) (hB : Blk w g T' cs) (hne : T ≠ T') : v.ownBlock ≠ some g := by
  rcases h.2 with ⟨rfl, _⟩ | ⟨q, c, cur, rfl, _, h2, _⟩
  · simp [Value.ownBlock]
  · intro e
    have e2 : q = g := by simpa [Value.ownBlock] using e
    subst e2
    unfold Blk at hB
    rw [h2] at hB
    injection hB with hB
    injection hB with _ ht
    exact hne ht
theorem sC_snoc (l : List Bs) (r : Bs) : sC (l ++ [r]) = sC l ++ [.string (S r)] := by simp [sC]
theorem cv_bytes {W : World} {g : Nat} {T : TypeId} {cs : Array Value} {l : Bs} (hB : Blk W g T cs) (hc : cs = bA l) (n c : Nat) (hn : n = l.length) :
    (convert 129 9 (.slice (some ⟨g, 0, none⟩) n c)).run Tryz.prog W = .ok (.string (S l)) W := by
  subst hc
  exact bk_string (Bk.of_blk hB) hn
set_option maxHeartbeats 1000000 in
theorem putE_any {w : World} {B g0 n : Nat} {v : Value} {rs : List Bs} (x : En) (hx : rightE true x ∨ rightE false x) (hB : Blk w g0 36 #[v]) (hO : w.ownsRow B 9 1 v n (sC rs)) (hg : B ≤ g0) (hv : v.ownBlock ≠ some g0) (hn : n ≤ 1000) :
    Calls Tryz.prog 214 #[.agg #[.string (S x.key), .string (S x.val), .int .i64 x.far], .pointer (some ⟨g0, 0, none⟩)] w fun e w' => e = .returned (.tuple #[]) ∧ Below B w w' ∧ ∃ v', Blk w' g0 36 #[v'] ∧ w'.ownsRow B 9 1 v' (n + 1) (sC (rs ++ [encE x])) ∧ v'.ownBlock ≠ some g0 := by
  have hk : x.key.length ≤ 32 := by rcases hx with h | h <;> exact h.1
  have hvl : x.val.length ≤ 40 := by rcases hx with h | h <;> exact h.2.1
  have c0 : w.cell? ⟨g0, 0, none⟩ = some v := hB.cell 0
  have hfar : -1 ≤ x.far ∧ x.far < 512 := by
    rcases hx with h | h
    · have h1 := h.2.2.1; have h2 := h.2.2.2.1; simp at h1; omega
    · have := rightE_inner h; omega
  obtain ⟨f, hf, hf2⟩ : ∃ f : Nat, x.far + 1 = (f : Int) ∧ f < 65536 := ⟨(x.far + 1).toNat, by omega, by omega⟩
  have hw1 : IntKind.i64.wrap (x.far + 1) = (f : Int) := by rw [IntKind.wrap_i64]; omega
  have hcv1 := cv_bytes (l := [UInt8.ofNat x.key.length]) (Blk.new (w.alloc (.cells #[.string (S x.key), .string (S x.val), .int .i64 x.far] 299)) 5 #[.int .u8 (x.key.length : Int)]) (by simp [bA, cB]; omega) 1 1 rfl
  have hz : (w.alloc (.cells #[.string (S x.key), .string (S x.val), .int .i64 x.far] 299)).heap.size = w.heap.size + 1 := by simp
  rw [hz] at hcv1
  have hcv2 := cv_bytes (l := two f) (Blk.new ((w.alloc (.cells #[.string (S x.key), .string (S x.val), .int .i64 x.far] 299)).alloc (.cells #[.int .u8 (x.key.length : Int)] 5)) 5 #[.int .u8 ((f : Int) / 256), .int .u8 ((f : Int) % 256)]) (by simp [bA, cB, two]; omega) 2 2 rfl
  have hz2 : ((w.alloc (.cells #[.string (S x.key), .string (S x.val), .int .i64 x.far] 299)).alloc (.cells #[.int .u8 (x.key.length : Int)] 5)).heap.size = w.heap.size + 1 + 1 := by simp
  rw [hz2] at hcv2
  have hen : encE x = UInt8.ofNat x.key.length :: (x.key ++ (two f ++ x.val)) := by
    unfold encE
    rw [hf]
    simp
  have HEN := hid hen
  clear hz hz2 hen
  have HB := hid hB
  have HO := hid hO
  have HX := hid hx
  have HV := hid hv
  have hlt := hB.lt
  clear hB hO hx hv
  go_enter Tryz.func214, Tryz.ntmps214
  go_wp2_with (with_reducible refine stopAt .append rfl ?_)
  with_reducible refine goOn ?_
  obtain ⟨W3, hW3⟩ : ∃ W3, W3 = (((w.alloc (.cells #[.string (S x.key), .string (S x.val), .int .i64 x.far] 299)).alloc (.cells #[.int .u8 (x.key.length : Int)] 5)).alloc (.cells #[.int .u8 ((f : Int) / 256), .int .u8 ((f : Int) % 256)] 5)) := ⟨_, rfl⟩
  have hs3 : W3.heap.size = w.heap.size + 1 + 1 + 1 := by rw [hW3]; simp
  have hb3 : Below w.heap.size w W3 := by
    rw [hW3]
    exact (((Below.refl _ w).alloc (Nat.le_refl _) _).alloc (by simp) _).alloc (by simp; omega) _
  rw [← hW3, ← hs3]
  clear hW3 hcv1 hcv2
  obtain ⟨i0, hi0, hz0, hz1, hz2⟩ := info_parts infStr
  have hO3 : W3.ownsRow B 9 1 v n (sC rs) := row_of HO.out (fun b hb => hb3.block b (HO.out.lt b hb).2)
  refine wpList_append_own _ rfl _ _ 36 rfl B 9 i0 (.string ⟨#[]⟩) 1 16 Tryz.underlying36 hi0 hz0 hz1 hz2 rfl (by decide) v n (sC rs) rfl (hO3.alloc _) ⟨W3.heap.size, 0, none⟩ 1 1 [.string (S (UInt8.ofNat x.key.length :: (x.key ++ (two f ++ x.val))))] rfl rfl (news_of (Blk.new W3 9 #[.string (S (UInt8.ofNat x.key.length :: (x.key ++ (two f ++ x.val))))])) (sC_one [_]) (by unfold maxLen; omega) (by omega) (by have := hb3.size; simp; omega) ?_
  intro v' W' hO' hgr _
  have hg0 : some g0 ≠ v.ownBlock := fun e => HV.out e.symm
  have hB' : Blk W' g0 36 #[v] := ((HB.out.below hb3 hlt).alloc _).grown hgr hg0
  have e0 : W'.cell? ⟨g0, 0, none⟩ = some v := hB'.cell 0
  have f0 : W'.frozen? ⟨g0, 0, none⟩ = false := hB'.frozen 0
  have hlt' := hB'.lt
  have hne : v'.ownBlock ≠ some g0 := own_not hO' hB' (by decide)
  obtain ⟨q, c4, rfl, hq1, hq2, hq3⟩ := own_form hO' (by omega)
  have HNE := hid hne
  clear hne
  have HGR := hid hgr
  have HO' := hid hO'
  have HB' := hid hB'
  have HB3 := hid hb3
  clear hgr hO' hB' hb3
  go_wp2
  go_end0
  have hbB : Below B w W' := (((HB3.out.mono (Nat.le_trans hg (Nat.le_of_lt hlt))).alloc (by have := HB3.out.size; omega) _).grown HGR.out (by have := HB3.out.size; simp; omega) (fun b hb => (HO.out.lt b hb).1))
  refine ⟨rfl, hbB.setCell hg _, _, by simpa using HB'.out.set_ 0 _, ?_, HNE.out⟩
  rw [sC_snoc, HEN.out]
  refine row_of HO'.out (fun b hb => ?_)
  exact Below.heap_setCell _ ⟨g0, 0, none⟩ _ b (fun e => HNE.out (by rw [hb, e]))
end Go.Proofs.YtnnghcooidjlhaaGreat
end
section
set_option linter.unusedSimpArgs false
set_option maxRecDepth 100000
namespace Go.Proofs.YtnnghcooidjlhaaGreat
open Go.RowKit Go.Lib
abbrev putR (n : Nd) : Value := ofR (recs n)
theorem recs_get {n : Nd} {i : Nat} {x : En} (hx : n.l[i]? = some x) : (recs n).take (i + 1) ++ [encE x] = (recs n).take (i + 2) := by
  have h : (recs n)[i + 1]? = some (encE x) := by simp [recs, hx]
  obtain ⟨h1, h2⟩ := List.getElem?_eq_some_iff.1 h
  rw [List.take_succ_eq_append_getElem (i := i + 1) h1, h2]
theorem recs_length (n : Nd) : (recs n).length = n.l.length + 1 := by simp [recs]
theorem recs_pos {n : Nd} (h : mayN n) : ∀ r ∈ recs n, 0 < r.length ∧ r.length ≤ 1000000 := by
  intro r hr
  rcases List.mem_cons.1 hr with rfl | hr
  · rw [kindB_length]; omega
  · obtain ⟨x, hx, rfl⟩ := List.mem_map.1 hr
    have := rightE_enB (h.1 x hx)
    rw [encE_length]
    unfold enB at this
    omega
set_option maxHeartbeats 2000000 in
theorem nput_any {w : World} {n : Nd} {v : Value} (h : mayN n) (hv : EnI w v n.l) (hn : n.l.length ≤ 900) :
    Calls Tryz.prog 184 #[ndV n.leaf v] w fun e w' => e = .returned (putR n) ∧ Below w.heap.size w w' := by
  have HMY := hid (fun (W : World) (hW : Below w.heap.size w W) => may_any (w := W) h (hv.below hW) (by omega))
  obtain ⟨ao, c, rfl⟩ := hv.slice
  have H := hid h
  have HV := hid hv
  clear h hv
  unfold ndV at HMY ⊢
  obtain ⟨lf, l⟩ := n
  simp only at HMY HV hn ⊢
  cases lf with
  | true =>
    go_enter Tryz.func184, Tryz.ntmps184
    go_wp2_with (go_at_call 213; (with_reducible refine (HMY.out _ ((Below.refl _ w).alloc (Nat.le_refl _) _)).mono ?_); rintro e W1 ⟨rfl, hb1⟩; have hN1 : Blk W1 w.heap.size 292 #[.bool true, .slice ao l.length c] := (Blk.new w _ _).below hb1 (by simp); have n0 : W1.cell? ⟨w.heap.size, 0, none⟩ = some (.bool true) := hN1.cell 0; have n1 : W1.cell? ⟨w.heap.size, 1, none⟩ = some (.slice ao l.length c) := hN1.cell 1; have hlt1 := hN1.lt; have HB1 : Hid (Below w.heap.size w W1) := hid (((Below.refl _ w).alloc (Nat.le_refl _) _).trans (hb1.mono (by simp))); clear hb1 hN1)
    go_loopg [20] l.length (fun gg s20 wr => ∃ (i : Nat) (v' : Value), i ≤ l.length ∧ l.length - i ≤ gg ∧ s20 = .int .i64 i ∧ Hid (Below w.heap.size w wr) ∧ Hid (Blk wr (W1.heap.size + 1) 36 #[v']) ∧ Hid (wr.ownsRow W1.heap.size 9 1 v' (i + 1) (sC ((recs ⟨true, l⟩).take (i + 1)))) ∧ Hid (v'.ownBlock ≠ some (W1.heap.size + 1)))
    case atStart =>
      have hbA : Below w.heap.size w ((W1.alloc (.cells #[.string (S (kindB true))] 9)).alloc (.cells #[.slice (some ⟨W1.heap.size, 0, none⟩) 1 1] 36)) := (HB1.out.alloc HB1.out.size _).alloc (by have := HB1.out.size; simp; omega) _
      have hz : (W1.alloc (.cells #[.string (S (kindB true))] 9)).heap.size = W1.heap.size + 1 := by simp
      have hbk := Blk.new (W1.alloc (.cells #[.string (S (kindB true))] 9)) 36 #[.slice (some ⟨W1.heap.size, 0, none⟩) 1 1]
      rw [hz] at hbk
      refine ⟨0, .slice (some ⟨W1.heap.size, 0, none⟩) 1 1, Nat.zero_le _, by omega, rfl, hid hbA, hid hbk, hid ?_, hid (by simp [Value.ownBlock])⟩
      have := (World.ownsRow_lit (base := W1.heap.size) (e := 9) (size := 1) W1 #[.string (S (kindB true))] 1 (Nat.le_refl _) (by unfold maxLen; omega) rfl)
      exact this.alloc _
    case round =>
      obtain ⟨i, v', hi, hgg, rfl, hB, hK, hO, hV⟩ := hrel
      by_cases hlt : i < l.length
      · obtain ⟨g, o, c', e, hc', hg, hE⟩ := HV.out.form (by intro e; rw [e] at hlt; simp at hlt)
        injection e with e1 e2 e3
        subst e1 e3
        obtain ⟨x, hx⟩ : ∃ x, l[i]? = some x := ⟨_, List.getElem?_eq_getElem hlt⟩
        obtain ⟨a0, a1, a2⟩ := hE i x hx
        have l0 := (hB.out.cell (p := ⟨g, o + i * 3, none⟩) hg).trans a0
        have l1 := (hB.out.cell (p := ⟨g, o + i * 3 + 1, none⟩) hg).trans a1
        have l2 := (hB.out.cell (p := ⟨g, o + i * 3 + 2, none⟩) hg).trans a2
        have hltz : (i : Int) < (l.length : Int) := by omega
        have hgw : g < wr.heap.size := Nat.lt_of_lt_of_le hg hB.out.size
        have hsz := HB1.out.size
        have hsk := hK.out.lt
        obtain ⟨wo, hwo⟩ : ∃ wo, wo = wr := ⟨_, rfl⟩
        subst hwo
        have HP := hid (putE_any (w := wo.alloc (.cells #[.string (S x.key), .string (S x.val), .int .i64 x.far] 299)) (B := W1.heap.size) (g0 := W1.heap.size + 1) (n := i + 1) (v := v') (rs := (recs ⟨true, l⟩).take (i + 1)) x (Or.inl (H.out.1 x (List.mem_of_getElem? hx))) (hK.out.alloc _) (hO.out.alloc _) (by omega) hV.out (by omega))
        rw [recs_get hx] at HP
        clear a0 a1 a2 hE hx
        go_wp2_with (go_at_call 214; with_reducible refine HP.out.mono ?_; rintro e W4 ⟨rfl, hb4, v4, hk4, ho4, hv4⟩)
        go_roundg (l.length - (i + 1))
        case measure => omega
        case rel => exact ⟨i + 1, v4, by omega, by omega, by go_num, hid ((hB.out.alloc hB.out.size _).trans (hb4.mono hsz)), hid hk4, hid ho4, hid hv4⟩
      · have : i = l.length := by omega
        subst this
        obtain ⟨q, c4, rfl, hq1, hq2, hq3⟩ := own_form hO.out (by omega)
        have k0 : wr.cell? ⟨W1.heap.size + 1, 0, none⟩ = some (.slice (some ⟨q, 0, none⟩) (l.length + 1) c4) := hK.out.cell 0
        have hln := recs_length ⟨true, l⟩
        have htk : (recs ⟨true, l⟩).take (l.length + 1) = recs ⟨true, l⟩ := List.take_of_length_le (by rw [hln]; exact Nat.le_refl _)
        have hO2 := hO.out
        rw [htk] at hO2
        have HOF := of_any (w := wr) (g := q) (c := c4) (l := recs ⟨true, l⟩) hq2 (fun j r hr => own_at hO2 rfl (j := j) (by simp [sC, hr])) (recs_pos H.out) (by rw [hln]; exact hq3) (by rw [hln]; exact (Nat.le_trans (Nat.add_le_add_right hn 1) (by omega)))
        rw [hln] at HOF
        have HOF := hid HOF
        clear hO2 htk hln
        go_wp2_with (go_at_call 215; with_reducible refine HOF.out.mono ?_; rintro e W5 ⟨rfl, hb5⟩)
        go_ret2
        exact ⟨rfl, hB.out.trans (hb5.mono hB.out.size)⟩
  | false =>
    go_enter Tryz.func184, Tryz.ntmps184
    go_wp2_with (go_at_call 213; (with_reducible refine (HMY.out _ ((Below.refl _ w).alloc (Nat.le_refl _) _)).mono ?_); rintro e W1 ⟨rfl, hb1⟩; have hN1 : Blk W1 w.heap.size 292 #[.bool false, .slice ao l.length c] := (Blk.new w _ _).below hb1 (by simp); have n0 : W1.cell? ⟨w.heap.size, 0, none⟩ = some (.bool false) := hN1.cell 0; have n1 : W1.cell? ⟨w.heap.size, 1, none⟩ = some (.slice ao l.length c) := hN1.cell 1; have hlt1 := hN1.lt; have HB1 : Hid (Below w.heap.size w W1) := hid (((Below.refl _ w).alloc (Nat.le_refl _) _).trans (hb1.mono (by simp))); clear hb1 hN1)
    go_loopg [20] l.length (fun gg s20 wr => ∃ (i : Nat) (v' : Value), i ≤ l.length ∧ l.length - i ≤ gg ∧ s20 = .int .i64 i ∧ Hid (Below w.heap.size w wr) ∧ Hid (Blk wr (W1.heap.size + 1) 36 #[v']) ∧ Hid (wr.ownsRow W1.heap.size 9 1 v' (i + 1) (sC ((recs ⟨false, l⟩).take (i + 1)))) ∧ Hid (v'.ownBlock ≠ some (W1.heap.size + 1)))
    case atStart =>
      have hbA : Below w.heap.size w ((W1.alloc (.cells #[.string (S (kindB false))] 9)).alloc (.cells #[.slice (some ⟨W1.heap.size, 0, none⟩) 1 1] 36)) := (HB1.out.alloc HB1.out.size _).alloc (by have := HB1.out.size; simp; omega) _
      have hz : (W1.alloc (.cells #[.string (S (kindB false))] 9)).heap.size = W1.heap.size + 1 := by simp
      have hbk := Blk.new (W1.alloc (.cells #[.string (S (kindB false))] 9)) 36 #[.slice (some ⟨W1.heap.size, 0, none⟩) 1 1]
      rw [hz] at hbk
      refine ⟨0, .slice (some ⟨W1.heap.size, 0, none⟩) 1 1, Nat.zero_le _, by omega, rfl, hid hbA, hid hbk, hid ?_, hid (by simp [Value.ownBlock])⟩
      have := (World.ownsRow_lit (base := W1.heap.size) (e := 9) (size := 1) W1 #[.string (S (kindB false))] 1 (Nat.le_refl _) (by unfold maxLen; omega) rfl)
      exact this.alloc _
    case round =>
      obtain ⟨i, v', hi, hgg, rfl, hB, hK, hO, hV⟩ := hrel
      by_cases hlt : i < l.length
      · obtain ⟨g, o, c', e, hc', hg, hE⟩ := HV.out.form (by intro e; rw [e] at hlt; simp at hlt)
        injection e with e1 e2 e3
        subst e1 e3
        obtain ⟨x, hx⟩ : ∃ x, l[i]? = some x := ⟨_, List.getElem?_eq_getElem hlt⟩
        obtain ⟨a0, a1, a2⟩ := hE i x hx
        have l0 := (hB.out.cell (p := ⟨g, o + i * 3, none⟩) hg).trans a0
        have l1 := (hB.out.cell (p := ⟨g, o + i * 3 + 1, none⟩) hg).trans a1
        have l2 := (hB.out.cell (p := ⟨g, o + i * 3 + 2, none⟩) hg).trans a2
        have hltz : (i : Int) < (l.length : Int) := by omega
        have hgw : g < wr.heap.size := Nat.lt_of_lt_of_le hg hB.out.size
        have hsz := HB1.out.size
        have hsk := hK.out.lt
        obtain ⟨wo, hwo⟩ : ∃ wo, wo = wr := ⟨_, rfl⟩
        subst hwo
        have HP := hid (putE_any (w := wo.alloc (.cells #[.string (S x.key), .string (S x.val), .int .i64 x.far] 299)) (B := W1.heap.size) (g0 := W1.heap.size + 1) (n := i + 1) (v := v') (rs := (recs ⟨false, l⟩).take (i + 1)) x (Or.inr (H.out.1 x (List.mem_of_getElem? hx))) (hK.out.alloc _) (hO.out.alloc _) (by omega) hV.out (by omega))
        rw [recs_get hx] at HP
        clear a0 a1 a2 hE hx
        go_wp2_with (go_at_call 214; with_reducible refine HP.out.mono ?_; rintro e W4 ⟨rfl, hb4, v4, hk4, ho4, hv4⟩)
        go_roundg (l.length - (i + 1))
        case measure => omega
        case rel => exact ⟨i + 1, v4, by omega, by omega, by go_num, hid ((hB.out.alloc hB.out.size _).trans (hb4.mono hsz)), hid hk4, hid ho4, hid hv4⟩
      · have : i = l.length := by omega
        subst this
        obtain ⟨q, c4, rfl, hq1, hq2, hq3⟩ := own_form hO.out (by omega)
        have k0 : wr.cell? ⟨W1.heap.size + 1, 0, none⟩ = some (.slice (some ⟨q, 0, none⟩) (l.length + 1) c4) := hK.out.cell 0
        have hln := recs_length ⟨false, l⟩
        have htk : (recs ⟨false, l⟩).take (l.length + 1) = recs ⟨false, l⟩ := List.take_of_length_le (by rw [hln]; exact Nat.le_refl _)
        have hO2 := hO.out
        rw [htk] at hO2
        have HOF := of_any (w := wr) (g := q) (c := c4) (l := recs ⟨false, l⟩) hq2 (fun j r hr => own_at hO2 rfl (j := j) (by simp [sC, hr])) (recs_pos H.out) (by rw [hln]; exact hq3) (by rw [hln]; exact (Nat.le_trans (Nat.add_le_add_right hn 1) (by omega)))
        rw [hln] at HOF
        have HOF := hid HOF
        clear hO2 htk hln
        go_wp2_with (go_at_call 215; with_reducible refine HOF.out.mono ?_; rintro e W5 ⟨rfl, hb5⟩)
        go_ret2
        exact ⟨rfl, hB.out.trans (hb5.mono hB.out.size)⟩
end Go.Proofs.YtnnghcooidjlhaaGreat
end
section
set_option linter.unusedSimpArgs false
set_option maxRecDepth 100000
namespace Go.Proofs.YtnnghcooidjlhaaGreat
open Go.RowKit Go.Lib
set_option maxHeartbeats 1000000 in
theorem entry_any (w : World) (x : En) (hx : rightE true x ∨ rightE false x) :
    Calls Tryz.prog 246 #[.string (S (encE x))] w fun e w' => e = .returned (.tuple #[.agg (enC x).toArray, .bool true]) ∧ Below w.heap.size w w' := by
  have hk : x.key.length ≤ 32 := by rcases hx with h | h <;> exact h.1
  have hvl : x.val.length ≤ 40 := by rcases hx with h | h <;> exact h.2.1
  have hfar : -1 ≤ x.far ∧ x.far < 512 := by
    rcases hx with h | h
    · have h1 := h.2.2.1; have h2 := h.2.2.2.1; simp at h1; omega
    · have := rightE_inner h; omega
  obtain ⟨f, hf, hf2⟩ : ∃ f : Nat, x.far + 1 = (f : Int) ∧ f < 65536 := ⟨(x.far + 1).toNat, by omega, by omega⟩
  obtain ⟨L, hL⟩ : ∃ L, L = encE x := ⟨_, rfl⟩
  have e1 : L = UInt8.ofNat x.key.length :: (x.key ++ (UInt8.ofNat (f / 256) :: UInt8.ofNat f :: x.val)) := by rw [hL]; unfold encE; rw [hf]; simp [two]
  have g0 : L.getD 0 0 = UInt8.ofNat x.key.length := by rw [e1]; rfl
  have g1 : L[x.key.length + 1]? = some (UInt8.ofNat (f / 256)) := by rw [e1]; simp
  have g2 : L[x.key.length + 1 + 1]? = some (UInt8.ofNat f) := by rw [e1]; simp [List.getElem?_append_right]
  have hlen : L.length = x.key.length + x.val.length + 3 := by rw [hL, encE_length]
  have d1 : (L.drop 1).take x.key.length = x.key := by rw [e1]; simp
  have d2 : L.drop (x.key.length + 3) = x.val := by
    have : L = (UInt8.ofNat x.key.length :: x.key ++ [UInt8.ofNat (f / 256), UInt8.ofNat f]) ++ x.val := by rw [e1]; simp
    rw [this, List.drop_append_of_le_length (by simp), List.drop_of_length_le (by simp)]
    rfl
  rw [← hL]
  have HD := hid (⟨d1, d2, hf⟩ : (L.drop 1).take x.key.length = x.key ∧ L.drop (x.key.length + 3) = x.val ∧ x.far + 1 = (f : Int))
  have hne : (L == []) = false := by rw [e1]; rfl
  have HX := hid hx
  generalize hkl : x.key.length = k at *
  have k0 : (UInt8.ofNat k).toNat = k := by simp; omega
  have u0 : ((L.getD 0 0).toNat : Int) = (k : Int) := by rw [g0, k0]
  obtain ⟨u, hu⟩ : ∃ u : UInt8, u = UInt8.ofNat k := ⟨_, rfl⟩
  have hun : u.toNat = k := by rw [hu, k0]
  have z1 : ∀ h, L[0]'h = u := fun h => by
    have := g0
    simp only [List.getD, List.getElem?_eq_getElem h, Option.getD_some] at this
    rw [this, hu]
  have z2 : ∀ h, (S L)[0]'h = u := fun h => by
    have h2 : 0 < L.length := by omega
    show L.toArray[0] = _
    simp only [List.getElem_toArray]
    exact z1 h2
  have i1 : (0 : Int) ≤ (k : Int) + 1 := by omega
  have i2 : (k : Int) + 1 < (k : Int) + (x.val.length : Int) + 3 := by omega
  have i3 : (k : Int) + 1 + 1 < (k : Int) + (x.val.length : Int) + 3 := by omega
  have i4 : (0 : Int) ≤ (k : Int) + 1 + 1 := by omega
  have j1 : ((k : Int) + 1).toNat = k + 1 := by omega
  have j2 : ((k : Int) + 1 + 1).toNat = k + 1 + 1 := by omega
  have i5 : (1 : Int) ≤ (k : Int) + 1 := by omega
  have i6 : (k : Int) + 1 ≤ (k : Int) + (x.val.length : Int) + 3 := by omega
  have i7 : (0 : Int) ≤ (k : Int) + 1 + 2 := by omega
  have i8 : (k : Int) + 1 + 2 ≤ (k : Int) + (x.val.length : Int) + 3 := by omega
  have j3 : ((k : Int) + 1 + 2).toNat = k + 3 := by omega
  have w7 : IntKind.i64.wrap ((k : Int) + 1 + 2) = (k : Int) + 1 + 2 := by rw [IntKind.wrap_i64]; omega
  have w8 : IntKind.i64.wrap ((f : Int) - 1) = (f : Int) - 1 := by rw [IntKind.wrap_i64]; omega
  have w0 : IntKind.i64.wrap (k : Int) = (k : Int) := by rw [IntKind.wrap_i64]; omega
  have w1 : IntKind.i64.wrap (1 + (k : Int)) = (k : Int) + 1 := by rw [IntKind.wrap_i64]; omega
  have w2 : IntKind.i64.wrap (3 + (k : Int)) = (k : Int) + 3 := by rw [IntKind.wrap_i64]; omega
  have w3 : IntKind.i64.wrap ((k : Int) + 1 + 1) = (k : Int) + 1 + 1 := by rw [IntKind.wrap_i64]; omega
  obtain ⟨b1, hb1⟩ : ∃ b1, b1 = UInt8.ofNat (f / 256) := ⟨_, rfl⟩
  obtain ⟨b2, hb2⟩ : ∃ b2, b2 = UInt8.ofNat f := ⟨_, rfl⟩
  rw [← hb1] at g1
  rw [← hb2] at g2
  have hor : bits .or .i64 ((b1.toNat : Int) * 256) (b2.toNat : Int) = (f : Int) := by rw [or_two, hb1, hb2, un2_two hf2]
  have hb8 := b1.toNat_lt
  have hb9 := b2.toNat_lt
  have w4 : IntKind.i64.wrap (b1.toNat : Int) = (b1.toNat : Int) := by rw [IntKind.wrap_i64]; omega
  have w5 : IntKind.i64.wrap (b2.toNat : Int) = (b2.toNat : Int) := by rw [IntKind.wrap_i64]; omega
  have w6 : IntKind.i64.wrap ((b1.toNat : Int) * 256) = (b1.toNat : Int) * 256 := by rw [IntKind.wrap_i64]; omega
  clear hx e1 g0 d1 d2 hL k0 hu u0 hb1 hb2
  go_enter Tryz.func246, Tryz.ntmps246
  go_wp2
  go_quiet (fail)
  go_wp2
  go_still_tail 10, (by kernel_rfl)
  change wpList _ _ _ _ _ (World.drew ((w.alloc (.cells #[.string ⟨#[]⟩, .string ⟨#[]⟩, .int .i64 0] 299)).drewN nq))
  have hR := ((Blk.new w 299 #[.string ⟨#[]⟩, .string ⟨#[]⟩, .int .i64 0]).drewN nq).drew
  have hb : Below w.heap.size w (World.drew ((w.alloc (.cells #[.string ⟨#[]⟩, .string ⟨#[]⟩, .int .i64 0] 299)).drewN nq)) := below_drewN (below_drewN ((Below.refl _ w).alloc (Nat.le_refl _) _) nq) 1
  generalize (World.drew ((w.alloc (.cells #[.string ⟨#[]⟩, .string ⟨#[]⟩, .int .i64 0] 299)).drewN nq)) = V at hR hb ⊢
  have h1 : List.take k (List.tail L) = x.key := by rw [← List.drop_one]; exact HD.out.1
  have h2 : List.take x.val.length (List.drop (k + 3) L) = x.val := by rw [HD.out.2.1, List.take_length]
  have h3 : (f : Int) - 1 = x.far := by have := HD.out.2.2; omega
  rw [h1, h2, h3]
  clear h1 h2 h3 w0 w1 w2 w3 w4 w5 w6 w7 w8
  have r0 : V.cell? ⟨w.heap.size, 0, none⟩ = some (.string ⟨#[]⟩) := by rw [hR.cell]; rfl
  have r1 : V.cell? ⟨w.heap.size, 1, none⟩ = some (.string ⟨#[]⟩) := by rw [hR.cell]; rfl
  have r2 : V.cell? ⟨w.heap.size, 2, none⟩ = some (.int .i64 0) := by rw [hR.cell]; rfl
  have f0 := hR.frozen 0
  have f1 := hR.frozen 1
  have f2 := hR.frozen 2
  have hRS := hR.lt
  have HR := hid hR
  have HB := hid hb
  clear hR hb
  go_wp2
  have hR3 := ((HR.out.set_ 0 (.string (S x.key))).set_ 1 (.string (S x.val))).set_ 2 (.int .i64 x.far)
  have q0 := hR3.cell 0
  have q1 := hR3.cell 1
  have q2 := hR3.cell 2
  simp only [List.setIfInBounds_toArray, List.set_cons_zero, List.set_cons_succ, List.getElem?_toArray, List.getElem?_cons_zero, List.getElem?_cons_succ] at q0 q1 q2
  refine bodyPost_ret (v := .tuple #[.agg #[.string (S x.key), .string (S x.val), .int .i64 x.far], .bool true]) (by simp [results, Tryz.results246, go_sem, q0, q1, q2]) rfl ⟨rfl, ?_⟩
  exact ((HB.out.setCell (by simp) _).setCell (by simp) _).setCell (by simp) _
end Go.Proofs.YtnnghcooidjlhaaGreat
end
