/- Walk of the law: longer windows have no fewer. -/
import Derived.Test.YtjoclapnjnmlkaaLc
import Derived.Test.YtjoclapnjnmlkaaPg
import Derived.BigRegion
import Derived.Deep.RegionHeld3
import Derived.Deep.RegionHeldLaw
import Derived.Deep.AppendLies
import Derived.Deep.DeepCutAuto
set_option linter.unusedSimpArgs false
namespace Go.Proofs.Ytjoclapnjnmlkaa
open Go.RowKit

theorem below_drew_w {B : Nat} {a w : World} (h : Below B a w) : Below B a w.drew := ⟨h.os, h.tape, h.output, h.size, h.block⟩
def doneV (x : Done) : Value := .agg #[.float .f64 x.t, .int .i64 x.a, .int .i64 x.b, .int .i64 x.c, .int .i64 x.d, .int .i64 x.f]
def growO (p : Option Addr) (n cap wv vv : Nat) (x : Done) : Obj := .cells #[.slice p n cap, .float .f64 wv, .float .f64 vv, .float .f64 x.t, .int .i64 x.a, .int .i64 x.b, .int .i64 x.c, .int .i64 x.d, .int .i64 x.f] 49
def doneO (x : Done) : Obj := .cells #[.float .f64 x.t, .int .i64 x.a, .int .i64 x.b, .int .i64 x.c, .int .i64 x.d, .int .i64 x.f] 46
theorem grow_world (w : World) (o : Obj) (x : Done) : Below w.heap.size w ((w.alloc o).alloc (doneO x)).drew ∧ DoneAt ((w.alloc o).alloc (doneO x)).drew (w.heap.size + 1) 0 x ∧ w.heap.size + 1 < ((w.alloc o).alloc (doneO x)).drew.heap.size := by
  refine ⟨below_drew_w (((Below.refl _ _).alloc (Nat.le_refl _) _).alloc (by simp) _), ?_, by show _ < ((w.alloc o).alloc (doneO x)).heap.size; simp⟩
  have hh : ((w.alloc o).alloc (doneO x)).drew.heap[w.heap.size + 1]? = some (doneO x) := by
    have := heap_alloc_new (w.alloc o) (doneO x)
    rw [show (w.alloc o).heap.size = w.heap.size + 1 by simp] at this
    exact this
  have hc : ∀ j, ((w.alloc o).alloc (doneO x)).drew.cell? ⟨w.heap.size + 1, j, none⟩ = (cells6 x).toArray[j]? := fun j => cell_of_row _ _ j _ _ _ hh
  exact ⟨by rw [hc]; rfl, by rw [hc]; rfl, by rw [hc]; rfl, by rw [hc]; rfl, by rw [hc]; rfl, by rw [hc]; rfl⟩

theorem own_empty (w : World) (B g : Nat) (hg : g = w.heap.size) (hB : B ≤ g) : (w.alloc (.cells #[] 46)).ownsRow B 46 6 (.slice (some ⟨g, 0, none⟩) 0 0) 0 [] :=
  ⟨rfl, .inr ⟨g, 0, #[], rfl, hB, by rw [hg]; exact heap_alloc_new _ _, Nat.le_refl _, by decide, rfl, rfl⟩⟩
theorem blk_one (w : World) (o o' : Obj) (q : Nat) (hq : q = w.heap.size + 1) : ((w.alloc o).alloc o').drew.heap[q]? = some o' := by
  have := heap_alloc_new (w.alloc o) o'
  rw [show (w.alloc o).heap.size = w.heap.size + 1 by simp] at this
  rw [hq]
  exact this
theorem blk_two (w : World) (o o' : Obj) (q : Nat) (hq : q = w.heap.size) : ((w.alloc o').alloc o).drew.heap[q]? = some o' := by
  have h1 := heap_alloc_new w o'
  have h2 := Below.heap_alloc (w.alloc o') o w.heap.size (by simp)
  rw [hq]
  exact h2.trans h1
theorem hist_flat {w : World} {b off : Nat} {ds : List Done} (hd : ∀ i, i < ds.length → DoneAt w b (off + i * 6) (ds.getD i z0)) : ∀ j u, (flat ds)[j]? = some u → w.cell? ((⟨b, off, none⟩ : Addr).add j) = some u := by
  intro j u h
  have hj := (List.getElem?_eq_some_iff.1 h).1
  rw [flat_len] at hj
  obtain ⟨i, r, rfl, hr⟩ : ∃ i r, j = i * 6 + r ∧ r < 6 := ⟨j / 6, j % 6, by omega, by omega⟩
  have hi : i < ds.length := by omega
  rw [flat_get ds i r hi hr] at h
  have hx := hd i hi
  have e : (⟨b, off, none⟩ : Addr).add (i * 6 + r) = ⟨b, off + i * 6 + r, none⟩ := by
    unfold Addr.add
    split <;> simp_all [Nat.add_assoc]
  rw [e]
  have h6 : r = 0 ∨ r = 1 ∨ r = 2 ∨ r = 3 ∨ r = 4 ∨ r = 5 := by omega
  rcases h6 with rfl | rfl | rfl | rfl | rfl | rfl
  · rw [← h]; exact hx.c0
  · rw [← h]; exact hx.c1
  · rw [← h]; exact hx.c2
  · rw [← h]; exact hx.c3
  · rw [← h]; exact hx.c4
  · rw [← h]; exact hx.c5
theorem flat_one (ds : List Done) : ∀ u ∈ flat ds, u.oneCell' = true := by
  intro u hu
  unfold flat at hu
  rw [List.mem_flatMap] at hu
  obtain ⟨x, _, hx⟩ := hu
  simp [cells6] at hx
  rcases hx with rfl | rfl | rfl | rfl | rfl | rfl <;> rfl
structure Six (w : World) (B : Nat) (x : Done) : Prop where
  c0 : w.cell? ⟨B, 0, none⟩ = some (.float .f64 x.t)
  c1 : w.cell? ⟨B, 1, none⟩ = some (.int .i64 x.a)
  c2 : w.cell? ⟨B, 2, none⟩ = some (.int .i64 x.b)
  c3 : w.cell? ⟨B, 3, none⟩ = some (.int .i64 x.c)
  c4 : w.cell? ⟨B, 4, none⟩ = some (.int .i64 x.d)
  c5 : w.cell? ⟨B, 5, none⟩ = some (.int .i64 x.f)
theorem six_of {w : World} {B : Nat} {x : Done} (h : DoneAt w B 0 x) : Six w B x := by
  obtain ⟨c0, c1, c2, c3, c4, c5⟩ := h
  simp only [Nat.zero_add] at c1 c2 c3 c4 c5
  exact ⟨c0, c1, c2, c3, c4, c5⟩

/-- the copy of the history -/
theorem stepA {P : Program} {ops : Array Oper} {o : Oper} {a : Act} {K : Act → World → Prop} {Q : Exit → Act → World → Prop} {E : Prop} {w2 V : World} (hgd : o.guard = none) (s x : Operand) (t : TypeId)
    (ho : o.op = .call { callee := .builtin .append, args := #[s, x], argTypes := #[t, t] })
    (e : TypeId) (i : TypeInfo) (z : Value) (ht : P.underlying t = some (.slice e)) (hi : P.info? e = some i) (hz : i.zero = some z) (hsize : i.size = 6) (hby : i.bytes = 48) (hzs : z.cells.size = 6)
    (g : Nat) (hs : a.eval s = .slice (some ⟨g, 0, none⟩) 0 0) (hown : V.ownsRow w2.heap.size e 6 (.slice (some ⟨g, 0, none⟩) 0 0) 0 []) (hb : Below w2.heap.size w2 V)
    (p : Option Addr) (es : List Done) (c : Nat) (hx : a.eval x = .slice p es.length c) (hl : es.length ≤ 60) (hH : Hist w2 p es) (B : Nat) (y : Done) (hB : B < w2.heap.size) (hD : DoneAt w2 B 0 y)
    (h : ∀ g' cap w', w'.ownsRow w2.heap.size e 6 (.slice (some ⟨g', 0, none⟩) es.length cap) es.length (flat es) → Below w2.heap.size w2 w' → (∀ k, k < V.heap.size → k ≠ g → w'.heap[k]? = V.heap[k]?) → V.heap.size ≤ w'.heap.size → Six w' B y → K (a.put o.dst (.slice (some ⟨g', 0, none⟩) es.length cap)) w') :
    if Region.wanted o (yielded ops a.tmps) = true then Oper.wp P o a V K Q else E := by
  have hw : Region.wanted o (yielded ops a.tmps) = true := by simp [Region.wanted, hgd]
  rw [if_pos hw]
  have hgg : w2.heap.size ≤ g := (hown.lt g rfl).1
  cases p with
  | none =>
    have h0 : es = [] := by
      rcases hH with h1 | ⟨b, off, h1, _⟩
      · exact h1
      · cases h1
    subst h0
    have hK := h g 0 V hown hb (fun _ _ _ => rfl) (Nat.le_refl _) (six_of (hD.below hB hb))
    have hrun : (Builtin.append_ #[t, t] o.type #[.slice (some ⟨g, 0, none⟩) 0 0, .slice none 0 c]).run P V = .ok (.slice (some ⟨g, 0, none⟩) 0 0) V := by
      simp [Builtin.append_, run_underlying ht, sizeOf, typeInfo, hi, Builtin.lenOf, Builtin.firstCells, storeCells]
    unfold Oper.wp execOp
    simp only [ho, resolve, invoke, builtin, Sem.run_bind, Sem.run_pure, Result.andThen_ok, List.map_toArray, List.map_cons, List.map_nil, hs, hx, List.length_nil, hrun]
    exact hK
  | some ad =>
    have hnews : ∀ j u, (flat es)[j]? = some u → V.cell? (ad.add j) = some u := by
      rcases hH with h1 | ⟨b, off, h1, hbl, hd⟩
      · subst h1; intro j u h; simp [flat] at h
      · cases h1; exact hist_flat (fun i hi => (hd i hi).below hbl hb)
    refine wp_append_own V s x t ho w2.heap.size e i z 6 48 ht hi hz hsize hby hzs (by omega) _ 0 [] hs hown ad es.length c (flat es) hx (flat_len es) hnews (flat_one es) (by unfold maxLen; omega) (by omega) hb.size ?_
    intro v' w' hown' hgr hnil
    rw [Nat.zero_add, List.nil_append] at hown'
    have hb' : Below w2.heap.size w2 w' := hb.grown hgr hb.size (fun q hq => by cases hq; exact hgg)
    rcases hown'.2 with ⟨hv, _⟩ | ⟨g', cap, cur, rfl, _⟩
    · exact absurd (hnil.1 hv).1 (by simp)
    · exact h g' cap w' hown' hb' (fun k hk hne => hgr.block k hk (fun hc => hne (Option.some.inj hc))) hgr.size (six_of (hD.below hB hb'))

/-- one event more -/
theorem stepB {P : Program} {ops : Array Oper} {o : Oper} {a : Act} {K : Act → World → Prop} {Q : Exit → Act → World → Prop} {E : Prop} {w2 V : World} (hgd : o.guard = none) (s x : Operand) (t : TypeId)
    (ho : o.op = .call { callee := .builtin .append, args := #[s, x], argTypes := #[t, t] })
    (e : TypeId) (i : TypeInfo) (z : Value) (ht : P.underlying t = some (.slice e)) (hi : P.info? e = some i) (hz : i.zero = some z) (hsize : i.size = 6) (hby : i.bytes = 48) (hzs : z.cells.size = 6)
    (g cap : Nat) (es : List Done) (hs : a.eval s = .slice (some ⟨g, 0, none⟩) es.length cap) (hown : V.ownsRow w2.heap.size e 6 (.slice (some ⟨g, 0, none⟩) es.length cap) es.length (flat es)) (hb : Below w2.heap.size w2 V)
    (q : Nat) (y : Done) (T : TypeId) (hx : a.eval x = .slice (some ⟨q, 0, none⟩) 1 1) (hl : es.length ≤ 60) (hq : V.heap[q]? = some (.cells #[.float .f64 y.t, .int .i64 y.a, .int .i64 y.b, .int .i64 y.c, .int .i64 y.d, .int .i64 y.f] T (0, 0)))
    (h : ∀ g' cap' w', Hist w' (some ⟨g', 0, none⟩) (es ++ [y]) → Below w2.heap.size w2 w' → K (a.put o.dst (.slice (some ⟨g', 0, none⟩) (es.length + 1) cap')) w') :
    if Region.wanted o (yielded ops a.tmps) = true then Oper.wp P o a V K Q else E := by
  have hgg : w2.heap.size ≤ g := (hown.lt g rfl).1
  refine step_append_lies V hgd s x t ho w2.heap.size e i z 6 48 ht hi hz hsize hby hzs (by omega) _ es.length (flat es) hs hown ⟨q, 0, none⟩ 1 1 (cells6 y) hx rfl (World.news_of_block hq) ?_ (by omega) (by unfold maxLen; omega) (by omega) hb.size V.heap.size rfl ?_
  · intro u hu
    simp [cells6] at hu
    rcases hu with rfl | rfl | rfl | rfl | rfl | rfl <;> rfl
  intro g' cap' w' hown' hgr hat hlt
  have hb' : Below w2.heap.size w2 w' := hb.grown hgr hb.size (fun q hq => by cases hq; exact hgg)
  refine h g' cap' w' ?_ hb'
  have hl2 : (es ++ [y]).length = es.length + 1 := by simp
  have hf : flat es ++ cells6 y = flat (es ++ [y]) := by rw [flat_append]; simp [flat]
  rw [hf, ← hl2] at hown'
  obtain ⟨p, c, hv, hh⟩ := Hist.own hown'
  cases hv
  exact hh

set_option maxHeartbeats 2000000 in
theorem lgrows_any (p : Option Addr) (ds : List Done) (cap wv vv : Nat) (x : Done) (w : World) (A : Arg w p ds cap) :
    Calls Try.prog 7 #[.agg #[.slice p ds.length cap, .float .f64 wv, .float .f64 vv, .float .f64 x.t, .int .i64 x.a, .int .i64 x.b, .int .i64 x.c, .int .i64 x.d, .int .i64 x.f]] w fun e w' => e = .returned (.bool true) ∧ Below w.heap.size w w' := by
  obtain ⟨i0, hi, hz0, hz1, hz2⟩ := info_parts infDone
  have hl : (ds.take 60).length ≤ 60 := List.length_take_le 60 ds
  have hG := grow_world w (growO p ds.length cap wv vv x) x
  unfold growO doneO at hG
  go_enter Try.func7, Try.ntmps7
  go_wp2_with fail
  go_region
  generalize ((w.alloc (Obj.cells #[.slice p ds.length cap, .float .f64 wv, .float .f64 vv, .float .f64 x.t, .int .i64 x.a, .int .i64 x.b, .int .i64 x.c, .int .i64 x.d, .int .i64 x.f] 49)).alloc (Obj.cells #[.float .f64 x.t, .int .i64 x.a, .int .i64 x.b, .int .i64 x.c, .int .i64 x.d, .int .i64 x.f] 46)).drew = W at *
  obtain ⟨B0, hD, hlt⟩ := hG
  have hH := hist_take (A.hist.below B0) 60
  have HF := Lib.hid (few_any p ds cap W A.fits A.big (A.hist.below B0) A.nil)
  have hnil : p = none → ds.take 60 = [] := fun h => by rw [A.nil h]; rfl
  clear A
  generalize ds.take 60 = es at *
  generalize w.heap.size + 1 = B at *
  have HM := Lib.hid (fun wv w h => wmost_any sort_ok sort_none p es cap wv w (by omega) h)
  go_wp2_with fail
  refine HF.out.mono ?_
  rintro e w' ⟨rfl, rfl⟩
  go_wp2_with fail
  refine (HM.out wv _ hH).mono ?_
  rintro e w1 ⟨⟨xs, hp1, _, rfl⟩, b1⟩
  have B1 := B0.trans (b1.mono B0.size)
  have hH1 := hH.below b1
  have hD1 := hD.below hlt b1
  have hlt1 := Nat.lt_of_lt_of_le hlt b1.size
  clear B0 hH hD hlt b1
  go_wp2_with fail
  refine (HM.out vv _ hH1).mono ?_
  rintro e w2 ⟨⟨ys, hp2, _, rfl⟩, b2⟩
  have B2 := B1.trans (b2.mono B1.size)
  have hH2 := hH1.below b2
  have hD2 := hD1.below hlt1 b2
  have hlt2 := Nat.lt_of_lt_of_le hlt1 b2.size
  clear B1 hH1 hD1 hlt1 b2 HM HF
  go_upto_region 5 with fail
  go_cut [11, 12] from 35 to 45 (fun a b wx => ∃ (zs : List Nat), zs.Perm (keep (es ++ [x])) ∧ a = .int .i64 (top zs wv : Nat) ∧ Below w2.heap.size w2 wx)
  case first =>
    have HD := Lib.hid hD2
    have HH := Lib.hid hH2
    obtain ⟨c0, c1, c2, c3, c4, c5⟩ := six_of hD2
    clear hD2 hH2
    have HM := Lib.hid (fun q c w (h : Hist w q (es ++ [x])) => wmost_any sort_ok sort_none q (es ++ [x]) c wv w (by simp; omega) h)
    rw [show (es ++ [x]).length = es.length + 1 by simp] at HM
    go_region_law (first
      | (refine stepA (w2 := w2) rfl (Operand.tmp 36) (Operand.tmp 37) 22 rfl 46 i0 (.agg #[.float .f64 0, .int .i64 0, .int .i64 0, .int .i64 0, .int .i64 0, .int .i64 0]) Try.underlying22 hi hz0 hz1 hz2 rfl _ rfl
          (by first | exact own_empty _ _ _ (by simp) (by simp) | exact (own_empty _ _ _ (by simp) (by simp)).alloc _)
          (by first | exact below_drew_w ((Below.refl _ _).alloc (Nat.le_refl _) _) | exact below_drew_w (((Below.refl _ _).alloc (Nat.le_refl _) _).alloc (by simp) _)) p es cap rfl hl HH.out B x hlt2 HD.out ?_
         intro g3 cap3 w3 hown3 hb3 hk3 hs3 h6
         obtain ⟨k0, k1, k2, k3, k4, k5⟩ := h6)
      | (refine stepB (w2 := w2) rfl (Operand.tmp 38) (Operand.tmp 40) 22 rfl 46 i0 (.agg #[.float .f64 0, .int .i64 0, .int .i64 0, .int .i64 0, .int .i64 0, .int .i64 0]) Try.underlying22 hi hz0 hz1 hz2 rfl g3 cap3 es rfl
          (by first | exact hown3 | exact hown3.alloc _) (by first | exact hb3 | exact hb3.alloc hb3.size _) _ x 46 rfl hl
          (by first | exact heap_alloc_new _ _ | exact (hk3 _ (by simp <;> omega) (by simp)).trans (blk_one _ _ _ _ (by simp)) | exact (hk3 _ (by simp <;> omega) (by simp)).trans (blk_two _ _ _ _ (by simp))) ?_
         intro g4 cap4 w4 hh4 hb4)
      | (go_simp
         go_at_call 10
         refine (HM.out _ _ _ hh4).mono ?_
         rintro e w5 ⟨⟨zs, hp5, _, rfl⟩, b5⟩))
    all_goals
      go_wp2_with fail
      go_meet
      exact ⟨zs, hp5, rfl, hb4.trans (b5.mono hb4.size)⟩
  case rest =>
    obtain ⟨zs, hp3, rfl, b3⟩ := hcut
    have B3 := B2.trans (b3.mono B2.size)
    clear B2 b3 hH2 hD2 hlt2
    have ht1 : top xs wv ≤ es.length := by have := top_len xs wv; have := hp1.length_eq; have := keep_len es; omega
    have ht2 : top xs wv ≤ top zs wv := top_more hp1 (by rw [← keep_append]; exact hp3)
    have ht4 : top zs wv ≤ 61 := by have := top_len zs wv; have := hp3.length_eq; have := keep_len (es ++ [x]); simp at this; omega
    have ht5 : top ys vv ≤ 61 := by have := top_len ys vv; have := hp2.length_eq; have := keep_len es; omega
    have e1 : (best (many xs wv) xs (0, 0)).1 = top xs wv := rfl
    have e2 : (best (many ys vv) ys (0, 0)).1 = top ys vv := rfl
    have ht3 : fle wv vv = true → top xs wv ≤ top ys vv := fun h => top_longer hp1 hp2 h
    rw [e1, e2]
    clear e1 e2 hp1 hp2 hp3
    generalize top xs wv = n1 at *
    generalize top ys vv = n2 at *
    generalize top zs wv = n3 at *
    generalize (best (many xs wv) xs (0, 0)).2 = f1 at *
    generalize (best (many ys vv) ys (0, 0)).2 = f2 at *
    cases hle : fle wv vv
    · clear ht3
      go_wp2_with fail
      refine (awake_any _).mono ?_
      rintro e w7 ⟨rfl, b7⟩
      have B7 := B3.trans (b7.mono B3.size)
      clear B3 b7
      go_wp2_with fail
      go_ret
      exact ⟨by simp, B7⟩
    · have ht3 := ht3 hle
      go_wp2_with fail
      refine (awake_any _).mono ?_
      rintro e w7 ⟨rfl, b7⟩
      have B7 := B3.trans (b7.mono B3.size)
      clear B3 b7
      go_wp2_with fail
      go_ret
      exact ⟨by simp, B7⟩
end Go.Proofs.Ytjoclapnjnmlkaa
