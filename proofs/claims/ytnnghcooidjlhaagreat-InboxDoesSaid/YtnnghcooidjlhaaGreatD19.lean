/- Parts of the proof: Ie If Ig. -/
import Derived.Deep.AppendLies
import Derived.Test.YtnnghcooidjlhaaGreatD18
set_option linter.all false
set_option maxRecDepth 100000
namespace Go.Proofs.YtnnghcooidjlhaaGreat
section
open Go.RowKit Go.Lib
def BestTo (l : List En) (i : Nat) (best : Int) (at_ : Nat) : Prop :=
 (i = 1 ∧ best = -1 ∧ at_ = 1) ∨ (1 < i ∧ best = (apart l at_ : Nat) ∧ 0 < at_ ∧ at_ < i ∧ ∀ j, 0 < j → j < i → apart l at_ ≤ apart l j)
theorem BestTo.half {l : List En} {best : Int} {at_ : Nat} (h : BestTo l l.length best at_) (hn : 2 ≤ l.length) : HalfAt l at_ := by
 rcases h with ⟨h, _⟩ | ⟨_, _, h1, h2, h3⟩
 ·omega
 ·exact ⟨h1, h2, h3⟩
theorem BestTo.better {l : List En} {i at_ : Nat} {best : Int} (h : BestTo l i best at_) (hb : best < 0 ∨ (apart l i : Int) < best) : BestTo l (i + 1) (apart l i : Nat) i := by
 rcases h with ⟨rfl, h2, h3⟩ | ⟨h1, h2, h3, h4, h5⟩
 ·exact .inr ⟨by omega, rfl, by omega, by omega, fun j hj hj2 => by have : j = 1 := by omega
                                                                    subst this; exact Nat.le_refl _⟩
 ·refine .inr ⟨by omega, rfl, by omega, by omega, fun j hj hj2 => ?_⟩
  by_cases e : j = i
  ·subst e; exact Nat.le_refl _
  ·have := h5 j hj (by omega)
   omega
theorem BestTo.better' {l : List En} {i at_ : Nat} {best b : Int} (h : BestTo l i best at_) (hb : best < 0 ∨ (apart l i : Int) < best) (e : b = ((apart l i : Nat) : Int)) : BestTo l (i + 1) b i := by
 subst e; exact h.better hb
theorem BestTo.same {l : List En} {i at_ : Nat} {best : Int} (h : BestTo l i best at_) (hi : 0 < i) (hb : ¬ (best < 0 ∨ (apart l i : Int) < best)) : BestTo l (i + 1) best at_ := by
 rcases h with ⟨rfl, h2, h3⟩ | ⟨h1, h2, h3, h4, h5⟩
 ·omega
 ·refine .inr ⟨by omega, h2, h3, by omega, fun j hj hj2 => ?_⟩
  by_cases e : j = i
  ·subst e; omega
  ·exact h5 j hj (by omega)
theorem EnI.part {w : World} {g o : Nat} {l m : List En} (hg : g < w.heap.size) (h : EnAt w g o l) (i k c' : Nat) (hc : (l.drop i).take k = m) (hlen : m.length ≤ c') : EnI w (.slice (some ⟨g, o + i * 3, none⟩) m.length c') m := by
 refine ⟨_, c', rfl, hlen, fun g' o' e => ?_, fun _ => ⟨g, _, rfl⟩⟩
 injection e with e
 injection e with e1 e2 _
 subst e1 e2
 refine ⟨hg, fun j x hx => ?_⟩
 rw [← hc, List.getElem?_take] at hx
 split at hx
 ·rw [List.getElem?_drop] at hx
  have := h (i + j) x hx
  have e : o + (i + j) * 3 = o + i * 3 + j * 3 := by omega
  rw [e] at this
  exact this
 ·cases hx
theorem step_app {ops : Array Oper} {o : Oper} {a : Act} {W : World} {K : Act → World → Prop} {Q : Exit → Act → World → Prop} {E : Prop} (hgd : o.guard = none) (s x : Operand)
  (ho : o.op = .call { callee := .builtin .append, args := #[s, x], argTypes := #[290, 290] }) (hs : a.eval s = .slice none 0 0) (ad : Addr) (m c : Nat) (hx : a.eval x = .slice (some ad) m c)
  (l : List En) (hl : l.length = m) (hm : 0 < m) (hm2 : m ≤ 1000) (B : Nat) (hB : B ≤ W.heap.size) (hnews : ∀ (j : Nat) u, (rowV enC l)[j]? = some u → W.cell? (ad.add j) = some u)
  (h : ∀ g cap w', w'.ownsRow B 299 3 (.slice (some ⟨g, 0, none⟩) m cap) m (rowV enC l) → Below W.heap.size W w' → g = W.heap.size → g < w'.heap.size → K (a.put o.dst (.slice (some ⟨g, 0, none⟩) m cap)) w') :
  if Region.wanted o (yielded ops a.tmps) = true then Oper.wp Tryz.prog o a W K Q else E := by
 obtain ⟨i0, hi0, hz0, hz1, hz2⟩ := info_parts infEn
 refine step_append_lies (P := Tryz.prog) W hgd s x 290 ho B 299 i0 (.agg #[.string ⟨#[]⟩, .string ⟨#[]⟩, .int .i64 0]) 3 40 Tryz.underlying290 hi0 hz0 hz1 hz2 rfl (by decide) (.slice none 0 0) 0 [] hs (World.ownsRow_nil _ _ _ _) ad m c (rowV enC l) hx
  (by rw [rowV_length enC_len, hl]) hnews (fun u hu => rowV_oneE u hu) hm (by unfold maxLen; omega) (by omega) hB W.heap.size rfl ?_
 intro g cap w' h1 h2 h3 h4
 rw [Nat.zero_add, List.nil_append] at h1
 rw [Nat.zero_add]
 have hg : g = W.heap.size := by
  rcases h3 with h3 | h3
  ·cases h3
  ·exact h3
 exact h g cap w' h1 (⟨h2.os, h2.tape, h2.output, h2.size, fun b hb => h2.block b hb (by simp [Value.ownBlock])⟩) hg h4
theorem cs_ne {W : World} {b i : Nat} {v : Value} {p : Addr} (h : W.cell? ⟨b, i, none⟩ = some v) (hne : b ≠ p.block) (u : Value) : (W.setCell p u).cell? ⟨b, i, none⟩ = some v :=
 (World.cell?_of_block (a := ⟨b, i, none⟩) (Below.heap_setCell W p u b hne)).trans h
set_option maxHeartbeats 4000000 in
theorem halves_any {w : World} {n : Nd} {v : Value} (hv : EnI w v n.l) (hn : 2 ≤ n.l.length) (hn2 : n.l.length ≤ 900) (hb : ∀ x ∈ n.l, enB x ≤ 79) :
  Calls Tryz.prog 203 #[ndV n.leaf v] w fun e w' => ∃ i v1 v2, HalfAt n.l i ∧ e = .returned (.tuple #[ndV n.leaf v1, ndV n.leaf v2]) ∧ w'.ownsRow w.heap.size 299 3 v1 i (rowV enC (n.l.take i)) ∧ w'.ownsRow w.heap.size 299 3 v2 (n.l.length - i) (rowV enC (n.l.drop i)) ∧
   (∀ g, v1.ownBlock = some g → v2.ownBlock ≠ some g) ∧ Below w.heap.size w w' := by
 obtain ⟨lf, l⟩ := n
 simp only at hv hn hn2 hb ⊢
 obtain ⟨g, o, c, rfl, hc, hg, hE⟩ := hv.form (by intro e; rw [e] at hn; simp at hn)
 have HBY := hid (fun (W : World) (hW : Below w.heap.size w W) => bytes_any (w := W) (hv.below hW) (by omega) (fun x hx => by have := hb x hx; omega))
 have HE := hid hE
 have HBB := hid hb
 have hle : ∀ i, nB (l.take i) ≤ 79 * i := fun i => by
  induction i with
  | zero => simp
  | succ i ih =>
   by_cases h : i < l.length
   ·have := nB_take_succ l i h
    have := hb l[i] (List.getElem_mem h)
    omega
   ·rw [List.take_of_length_le (by omega)]
    rw [List.take_of_length_le (by omega)] at ih
    omega
 have hall : nB l ≤ 79 * 900 := by
  have := hle l.length
  rw [List.take_length] at this
  omega
 have HLE := hid hle
 have HALL := hid hall
 have HN := hid (⟨hn, hn2, hc⟩ : 2 ≤ l.length ∧ l.length ≤ 900 ∧ l.length ≤ c)
 have HMIN : ((1 : Int) ≤ (l.length : Int)) := by omega
 clear hv hE hb hle
 unfold ndV
 go_enter Tryz.func203, Tryz.ntmps203
 go_wp2_with fail
 (with_reducible refine (HBY.out _ ((((Below.refl _ w).alloc (Nat.le_refl _) _).alloc (by simp) _).alloc (by simp; omega) _)).mono ?_)
 rintro e W1 ⟨rfl, hb1⟩
 have hb1' : Below w.heap.size w W1 := ((((Below.refl _ w).alloc (Nat.le_refl _) _).alloc (by simp) _).alloc (by simp; omega) _).trans (hb1.mono (by simp; omega))
 have hN1 : Blk W1 w.heap.size 292 #[.bool lf, .slice (some ⟨g, o, none⟩) l.length c] := (((Blk.new w _ _).alloc _).alloc _).below hb1 (by simp; omega)
 have hA1 : Blk W1 (w.heap.size + 1) 292 #[.bool false, .slice none 0 0] := by
  have := (Blk.new (w.alloc (.cells #[.bool lf, .slice (some ⟨g, o, none⟩) l.length c] 292)) 292 #[.bool false, .slice none 0 0]).alloc (.cells #[.bool false, .slice none 0 0] 292)
  have := this.below hb1 (by simp)
  simpa using this
 have hA2 : Blk W1 (w.heap.size + 1 + 1) 292 #[.bool false, .slice none 0 0] := by
  have := Blk.new ((w.alloc (.cells #[.bool lf, .slice (some ⟨g, o, none⟩) l.length c] 292)).alloc (.cells #[.bool false, .slice none 0 0] 292)) 292 #[.bool false, .slice none 0 0]
  have := this.below hb1 (by simp)
  simpa using this
 have n0 : W1.cell? ⟨w.heap.size, 0, none⟩ = some (.bool lf) := hN1.cell 0
 have n1 : W1.cell? ⟨w.heap.size, 1, none⟩ = some (.slice (some ⟨g, o, none⟩) l.length c) := hN1.cell 1
 have hlt1 := hN1.lt
 have HN1 := hid hN1
 have HA1 := hid hA1
 have HA2 := hid hA2
 have HB1 := hid hb1'
 clear hb1 hb1' hN1 hA1 hA2
 go_wp2
 go_quiet (fail)
 go_wp2
 go_loopg [5, 6, 7, 8] l.length (fun gg s5 s6 s7 s8 wr => ∃ (i at_ : Nat) (best : Int), 1 ≤ i ∧ i ≤ l.length ∧ l.length - i ≤ gg ∧ s8 = .int .i64 i ∧ s7 = .int .i64 (nB (l.take (i - 1))) ∧ s5 = .int .i64 best ∧ s6 = .int .i64 at_ ∧ Hid (BestTo l i best at_ ∧ -1 ≤ best ∧ best ≤ 1000000) ∧ Hid (Below W1.heap.size W1 wr))
 case atStart => exact ⟨1, 1, -1, by omega, by omega, by omega, rfl, rfl, rfl, rfl, hid ⟨.inl ⟨rfl, rfl, rfl⟩, by omega, by omega⟩, hid (below_drewN (Below.refl _ W1) _)⟩
 case round =>
  obtain ⟨i, at_, best, hi1, hi, hgg, rfl, rfl, rfl, rfl, hBest, hB⟩ := hrel
  have k0 : wr.cell? ⟨w.heap.size, 0, none⟩ = some (.bool lf) := (hB.out.cell (p := ⟨w.heap.size, 0, none⟩) hlt1).trans n0
  have k1 : wr.cell? ⟨w.heap.size, 1, none⟩ = some (.slice (some ⟨g, o, none⟩) l.length c) := (hB.out.cell (p := ⟨w.heap.size, 1, none⟩) hlt1).trans n1
  have hsz := hB.out.size
  have hkw : w.heap.size < wr.heap.size := by omega
  have hB2 : Below w.heap.size w wr := HB1.out.trans (hB.out.mono (by omega))
  have HB2 := hid hB2
  have hgw : g < wr.heap.size := Nat.lt_of_lt_of_le hg hB2.size
  have hEw : EnAt wr g o l := fun j x hx => by
   obtain ⟨a, b, d⟩ := HE.out j x hx
   exact ⟨(hB2.cell (p := ⟨g, _, none⟩) hg).trans a, (hB2.cell (p := ⟨g, _, none⟩) hg).trans b, (hB2.cell (p := ⟨g, _, none⟩) hg).trans d⟩
  clear hB2
  by_cases hlt : i < l.length
  ·have hltz : (i : Int) < (l.length : Int) := by omega
   obtain ⟨x, hx⟩ : ∃ x, l[i - 1]? = some x := ⟨_, List.getElem?_eq_getElem (by omega)⟩
   have hone : (l.drop (i - 1)).take 1 = [x] := by
    obtain ⟨h1, h2⟩ := List.getElem?_eq_some_iff.1 hx
    rw [List.drop_eq_getElem_cons h1, h2]; rfl
   have hpart := EnI.part hgw hEw (i - 1) 1 (c - (i - 1)) hone (by simp; omega)
   have hbx0 := (bytes_any (w := wr) hpart (by simp) (fun y hy => by
    rw [List.mem_singleton.1 hy]
    have := HBB.out x (List.mem_of_getElem? hx)
    omega))
   have hnb1 : nB [x] = enB x := by simp
   rw [hnb1, show ([x] : List En).length = 1 from rfl] at hbx0
   have HBX := hid hbx0
   clear hbx0
   have hs : nB (l.take i) = nB (l.take (i - 1)) + enB x := by
    obtain ⟨h1, h2⟩ := List.getElem?_eq_some_iff.1 hx
    have := nB_take_succ l (i - 1) h1
    rw [h2, show i - 1 + 1 = i by omega] at this
    exact this
   have hbd := HLE.out i
   have hex : enB x ≤ 79 := HBB.out x (List.mem_of_getElem? hx)
   obtain ⟨A, hA⟩ : ∃ A, A = nB l := ⟨_, rfl⟩
   obtain ⟨Lp, hLp⟩ : ∃ Lp, Lp = nB (l.take (i - 1)) := ⟨_, rfl⟩
   obtain ⟨ex, hexx⟩ : ∃ ex, ex = enB x := ⟨_, rfl⟩
   have hap : ((apart l i : Nat) : Int) = max (2 * ((Lp + ex : Nat) : Int) - (A : Int)) ((A : Int) - 2 * ((Lp + ex : Nat) : Int)) := by
    unfold apart
    rw [hs, ← hLp, ← hexx, ← hA]
    omega
   have HAP := hid hap
   have HS := hid hs
   rw [← hexx] at HBX
   rw [← hLp, ← hA]
   rw [← hLp, ← hexx] at hs
   have hbp := HLE.out (i - 1)
   rw [← hLp] at hbp
   rw [← hexx] at hex
   have hAl := HALL.out
   rw [← hA] at hAl
   clear hx hone hpart hnb1 hs hap hEw
   have h11 : i - (i - 1) = 1 := by omega
   have w1 : IntKind.i64.wrap ((Lp : Int) + (ex : Int)) = (Lp : Int) + (ex : Int) := by rw [IntKind.wrap_i64]; omega
   have w2 : IntKind.i64.wrap ((A : Int) - ((Lp : Int) + (ex : Int))) = (A : Int) - ((Lp : Int) + (ex : Int)) := by rw [IntKind.wrap_i64]; omega
   have w3 : IntKind.i64.wrap ((Lp : Int) + (ex : Int) - ((A : Int) - ((Lp : Int) + (ex : Int)))) = (Lp : Int) + (ex : Int) - ((A : Int) - ((Lp : Int) + (ex : Int))) := by rw [IntKind.wrap_i64]; omega
   have w4 : IntKind.i64.wrap ((A : Int) - ((Lp : Int) + (ex : Int)) - ((Lp : Int) + (ex : Int))) = (A : Int) - ((Lp : Int) + (ex : Int)) - ((Lp : Int) + (ex : Int)) := by rw [IntKind.wrap_i64]; omega
   go_wp2_with fail
   (with_reducible refine HBX.out.mono ?_)
   rintro e W2 ⟨rfl, hb2⟩
   have HB3 := hid hb2
   clear hb2
   have hbb := hBest.out.2
   have hap2 := HAP.out
   have hs7 : nB (l.take (i + 1 - 1)) = nB (l.take (i - 1)) + enB x := by rw [Nat.add_sub_cancel]; exact HS.out
   have HS7 := hid hs7
   have HAP2 : Hid (((apart l i : Nat) : Int) = max (2 * ((nB (l.take (i - 1)) + enB x : Nat) : Int) - (nB l : Int)) ((nB l : Int) - 2 * ((nB (l.take (i - 1)) + enB x : Nat) : Int)) ∧ nB (l.take (i - 1)) + enB x ≤ 71179 ∧ nB l ≤ 71100) := hid ⟨by rw [hap2, hLp, hexx, hA], by omega, by omega⟩
   clear hap2 hs7
   go_wp2_with fail
   all_goals
    go_roundg (l.length - (i + 1))
    case measure => omega
    case rel =>
     obtain ⟨ha1, ha2, ha3⟩ := HAP2.out
     first
      | (refine ⟨i + 1, i, _, by omega, by omega, by omega, by go_num, ?_, rfl, rfl, hid ⟨?_, ?_, ?_⟩, hid (hB.out.trans (HB3.out.mono hsz))⟩
         ·rw [HS7.out]; simp
         ·refine hBest.out.1.better' ?_ ?_
          ·omega
          ·omega
         ·omega
         ·omega)
      | (refine ⟨i + 1, at_, best, by omega, by omega, by omega, by go_num, ?_, rfl, rfl, hid ⟨hBest.out.1.same hi1 ?_, hbb.1, hbb.2⟩, hid (hB.out.trans (HB3.out.mono hsz))⟩
         ·rw [HS7.out]; simp
         ·omega)
  ·have hil : i = l.length := by omega
   subst hil
   have HH := hid (hBest.out.1.half hn)
   have ha0 := HH.out.1
   have han := HH.out.2.1
   obtain ⟨i0, hi0, hz0, hz1, hz2⟩ := info_parts infEn
   have hA1 := HA1.out.below hB.out HA1.out.lt
   have hA2 := HA2.out.below hB.out HA2.out.lt
   have hlz : ((at_ : Int) ≤ (l.length : Int)) := by omega
   have hnews1 : ∀ (j : Nat) u, (rowV enC (l.take at_))[j]? = some u → wr.cell? ⟨g, o + j, none⟩ = some u := fun j u hj => enAt_row hEw j u (by rw [row_split l at_, List.getElem?_append_left (List.getElem?_eq_some_iff.1 hj).1]; exact hj)
   have hnews2 : ∀ (j : Nat) u, (rowV enC (l.drop at_))[j]? = some u → wr.cell? ⟨g, o + at_ * 3 + j, none⟩ = some u := fun j u hj => by
    have := enAt_row hEw (at_ * 3 + j) u (by rw [row_split l at_, List.getElem?_append_right (by rw [row_take_len l at_ (by omega)]; omega), row_take_len l at_ (by omega), Nat.add_sub_cancel_left]; exact hj)
    rwa [← Nat.add_assoc] at this
   have HN1' := hid hnews1
   have HN2' := hid hnews2
   have HL1 := hid (row_take_len l at_ (by omega))
   have HL2 := hid (row_drop_len l at_)
   have r0 : wr.cell? ⟨w.heap.size + 1, 0, none⟩ = some (.bool false) := hA1.cell 0
   have r1 : wr.cell? ⟨w.heap.size + 1, 1, none⟩ = some (.slice none 0 0) := hA1.cell 1
   have r2 : wr.cell? ⟨w.heap.size + 1 + 1, 0, none⟩ = some (.bool false) := hA2.cell 0
   have r3 : wr.cell? ⟨w.heap.size + 1 + 1, 1, none⟩ = some (.slice none 0 0) := hA2.cell 1
   have HA1' := hid hA1
   have HA2' := hid hA2
   have hs1 := hA1.lt
   have hs2 := hA2.lt
   have HEQ : Hid (¬ (c = at_)) := hid (by omega)
   have hceq : ¬ (c = at_) := by omega
   have hcz : (at_ : Int) ≤ (c : Int) := by omega
   clear hnews1 hnews2 hA1 hA2 hEw hgg
   have HNA : Hid (∀ W, Below wr.heap.size wr W → ∀ (j : Nat) u, (rowV enC (l.take at_))[j]? = some u → W.cell? ((⟨g, o, none⟩ : Addr).add j) = some u) := hid fun W hW j u hj => by
    rw [Addr.add_lit]
    exact (hW.cell (p := ⟨g, o + j, none⟩) hgw).trans (HN1'.out j u hj)
   have HNB : Hid (∀ W, Below wr.heap.size wr W → ∀ (j : Nat) u, (rowV enC (l.drop at_))[j]? = some u → W.cell? ((⟨g, o + at_ * 3, none⟩ : Addr).add j) = some u) := hid fun W hW j u hj => by
    rw [Addr.add_lit]
    exact (hW.cell (p := ⟨g, o + at_ * 3 + j, none⟩) hgw).trans (HN2'.out j u hj)
   have HBS : Hid (∀ W, Below wr.heap.size wr W → w.heap.size ≤ W.heap.size) := hid fun W hW => by have := hW.size; omega
   have HT1 : Hid ((l.take at_).length = at_) := hid (by rw [List.length_take]; omega)
   have HT2 : Hid ((l.drop at_).length = l.length - at_) := hid (by rw [List.length_drop])
   have HT3 : Hid (at_ ≤ 1000) := hid (by omega)
   have HT4 : Hid (0 < l.length - at_) := hid (by omega)
   have HT5 : Hid (l.length - at_ ≤ 1000) := hid (by omega)
   have hne1 : w.heap.size ≠ w.heap.size + 1 := by omega
   have hne2 : w.heap.size ≠ w.heap.size + 1 + 1 := by omega
   go_wp2_with fail
   go_region_held3 (fun W => W.cell? ⟨w.heap.size, 0, none⟩ = some (.bool lf) ∧ W.cell? ⟨w.heap.size, 1, none⟩ = some (.slice (some ⟨g, o, none⟩) l.length c)) (first | with_reducible exact ⟨k0, k1⟩ | with_reducible exact ⟨q2, q3⟩ | with_reducible exact ⟨q0, q1⟩ | with_reducible exact ⟨cs_ne (cs_ne q2 hne1 _) hne1 _, cs_ne (cs_ne q3 hne1 _) hne1 _⟩ | with_reducible exact ⟨cs_ne (cs_ne q2 hne2 _) hne2 _, cs_ne (cs_ne q3 hne2 _) hne2 _⟩ | with_reducible exact ⟨cs_ne (cs_ne (cs_ne (cs_ne q2 hne1 _) hne1 _) hne2 _) hne2 _, cs_ne (cs_ne (cs_ne (cs_ne q3 hne1 _) hne1 _) hne2 _) hne2 _⟩ | with_reducible exact ⟨cs_ne (cs_ne (cs_ne (cs_ne q2 hne2 _) hne2 _) hne1 _) hne1 _, cs_ne (cs_ne (cs_ne (cs_ne q3 hne2 _) hne2 _) hne1 _) hne1 _⟩ | go_keep) (first
    | (refine step_app rfl _ _ rfl ?hs (⟨g, o, none⟩ : Addr) at_ at_ ?hx (l.take at_) HT1.out ha0 HT3.out w.heap.size ?hb ?hn ?_; (case hs => simp [Act.eval, Act.put]); (case hx => simp [Act.eval, Act.put]); (case hb => exact (HBS.out _ hB1)); (case hn => exact (HNA.out _ hB1)); intro g2 cap2 w2 hown2 hbel2 hg2 hlt2; have hB2 : Below wr.heap.size wr w2 := hB1.trans (hbel2.mono hB1.size); have q2 : w2.cell? ⟨w.heap.size, 0, none⟩ = some (.bool lf) := (hB2.cell hkw).trans k0; have q3 : w2.cell? ⟨w.heap.size, 1, none⟩ = some (.slice (some ⟨g, o, none⟩) l.length c) := (hB2.cell hkw).trans k1; have e0 : w2.cell? ⟨w.heap.size + 1, 0, none⟩ = some (.bool false) := (hB2.cell hs1).trans r0; have e1 : w2.cell? ⟨w.heap.size + 1, 1, none⟩ = some (.slice none 0 0) := (hB2.cell hs1).trans r1; have e2 : w2.cell? ⟨w.heap.size + 1 + 1, 0, none⟩ = some (.bool false) := (hB2.cell hs2).trans r2; have e3 : w2.cell? ⟨w.heap.size + 1 + 1, 1, none⟩ = some (.slice none 0 0) := (hB2.cell hs2).trans r3; have f0 := (HA1'.out.below hB2 hs1).frozen 0; have f1 := (HA1'.out.below hB2 hs1).frozen 1; have f2 := (HA2'.out.below hB2 hs2).frozen 0; have f3 := (HA2'.out.below hB2 hs2).frozen 1; have hs1w := Nat.lt_of_lt_of_le hs1 hB2.size; have hs2w := Nat.lt_of_lt_of_le hs2 hB2.size; have HOW2 := hid hown2; have HG2 := hid hg2; have HBL2 := hid hbel2; clear hown2 hg2 hbel2)
    | (refine step_app rfl _ _ rfl ?hs (⟨g, o + at_ * 3, none⟩ : Addr) (l.length - at_) (c - at_) ?hx (l.drop at_) HT2.out HT4.out HT5.out w.heap.size ?hb ?hn ?_; (case hs => simp [Act.eval, Act.put]); (case hx => simp [Act.eval, Act.put]); (case hb => exact (HBS.out _ hB1)); (case hn => exact (HNB.out _ hB1)); intro g2 cap2 w2 hown2 hbel2 hg2 hlt2; have hB2 : Below wr.heap.size wr w2 := hB1.trans (hbel2.mono hB1.size); have q2 : w2.cell? ⟨w.heap.size, 0, none⟩ = some (.bool lf) := (hB2.cell hkw).trans k0; have q3 : w2.cell? ⟨w.heap.size, 1, none⟩ = some (.slice (some ⟨g, o, none⟩) l.length c) := (hB2.cell hkw).trans k1; have e0 : w2.cell? ⟨w.heap.size + 1, 0, none⟩ = some (.bool false) := (hB2.cell hs1).trans r0; have e1 : w2.cell? ⟨w.heap.size + 1, 1, none⟩ = some (.slice none 0 0) := (hB2.cell hs1).trans r1; have e2 : w2.cell? ⟨w.heap.size + 1 + 1, 0, none⟩ = some (.bool false) := (hB2.cell hs2).trans r2; have e3 : w2.cell? ⟨w.heap.size + 1 + 1, 1, none⟩ = some (.slice none 0 0) := (hB2.cell hs2).trans r3; have f0 := (HA1'.out.below hB2 hs1).frozen 0; have f1 := (HA1'.out.below hB2 hs1).frozen 1; have f2 := (HA2'.out.below hB2 hs2).frozen 0; have f3 := (HA2'.out.below hB2 hs2).frozen 1; have hs1w := Nat.lt_of_lt_of_le hs1 hB2.size; have hs2w := Nat.lt_of_lt_of_le hs2 hB2.size; have HOW2 := hid hown2; have HG2 := hid hg2; have HBL2 := hid hbel2; clear hown2 hg2 hbel2)
    | (refine step_app rfl _ _ rfl ?hs (⟨g, o, none⟩ : Addr) at_ at_ ?hx (l.take at_) HT1.out ha0 HT3.out w.heap.size ?hb ?hn ?_; (case hs => simp [Act.eval, Act.put]); (case hx => simp [Act.eval, Act.put]); (case hb => exact (HBS.out _ (below_drewN (Below.refl wr.heap.size wr) 1))); (case hn => exact (HNA.out _ (below_drewN (Below.refl wr.heap.size wr) 1))); intro g1 cap1 w1 hown1 hbel1 hg1 hlt1; have hB1 : Below wr.heap.size wr w1 := (below_drewN (Below.refl wr.heap.size wr) 1).trans hbel1; have q0 : w1.cell? ⟨w.heap.size, 0, none⟩ = some (.bool lf) := (hB1.cell hkw).trans k0; have q1 : w1.cell? ⟨w.heap.size, 1, none⟩ = some (.slice (some ⟨g, o, none⟩) l.length c) := (hB1.cell hkw).trans k1; have HOW1 := hid hown1; have HG1 := hid hg1; clear hown1 hg1 hbel1)
    | (refine step_app rfl _ _ rfl ?hs (⟨g, o + at_ * 3, none⟩ : Addr) (l.length - at_) (c - at_) ?hx (l.drop at_) HT2.out HT4.out HT5.out w.heap.size ?hb ?hn ?_; (case hs => simp [Act.eval, Act.put]); (case hx => simp [Act.eval, Act.put]); (case hb => exact (HBS.out _ (below_drewN (Below.refl wr.heap.size wr) 1))); (case hn => exact (HNB.out _ (below_drewN (Below.refl wr.heap.size wr) 1))); intro g1 cap1 w1 hown1 hbel1 hg1 hlt1; have hB1 : Below wr.heap.size wr w1 := (below_drewN (Below.refl wr.heap.size wr) 1).trans hbel1; have q0 : w1.cell? ⟨w.heap.size, 0, none⟩ = some (.bool lf) := (hB1.cell hkw).trans k0; have q1 : w1.cell? ⟨w.heap.size, 1, none⟩ = some (.slice (some ⟨g, o, none⟩) l.length c) := (hB1.cell hkw).trans k1; have HOW1 := hid hown1; have HG1 := hid hg1; clear hown1 hg1 hbel1))
   go_wp2
   have hP1 := ((((HA1'.out.below hB2 hs1).set_ 0 (.bool lf)).set_ 1 (.slice (some ⟨g1, 0, none⟩) at_ cap1)).far (p := ⟨w.heap.size + 1 + 1, 0, none⟩) (by show w.heap.size + 1 ≠ w.heap.size + 1 + 1; omega) (.bool lf)).far (p := ⟨w.heap.size + 1 + 1, 1, none⟩) (by show w.heap.size + 1 ≠ w.heap.size + 1 + 1; omega) (.slice (some ⟨g2, 0, none⟩) (l.length - at_) cap2)
   have hP2 := ((((HA2'.out.below hB2 hs2).far (p := ⟨w.heap.size + 1, 0, none⟩) (by show w.heap.size + 1 + 1 ≠ w.heap.size + 1; omega) (.bool lf)).far (p := ⟨w.heap.size + 1, 1, none⟩) (by show w.heap.size + 1 + 1 ≠ w.heap.size + 1; omega) (.slice (some ⟨g1, 0, none⟩) at_ cap1)).set_ 0 (.bool lf)).set_ 1 (.slice (some ⟨g2, 0, none⟩) (l.length - at_) cap2)
   obtain ⟨w3, hw3⟩ : ∃ w3, w3 = (((w2.setCell ⟨w.heap.size + 1, 0, none⟩ (.bool lf)).setCell ⟨w.heap.size + 1, 1, none⟩ (.slice (some ⟨g1, 0, none⟩) at_ cap1)).setCell ⟨w.heap.size + 1 + 1, 0, none⟩ (.bool lf)).setCell ⟨w.heap.size + 1 + 1, 1, none⟩ (.slice (some ⟨g2, 0, none⟩) (l.length - at_) cap2) := ⟨_, rfl⟩
   have hb3 : Below w.heap.size w w3 := by
    rw [hw3]
    exact ((((HB2.out.trans (hB2.mono (by omega))).setCell (p := ⟨w.heap.size + 1, 0, none⟩) (by show w.heap.size ≤ _; simp) _).setCell (p := ⟨w.heap.size + 1, 1, none⟩) (by show w.heap.size ≤ _; simp) _).setCell (p := ⟨w.heap.size + 1 + 1, 0, none⟩) (by show w.heap.size ≤ w.heap.size + 1 + 1; omega) _).setCell (p := ⟨w.heap.size + 1 + 1, 1, none⟩) (by show w.heap.size ≤ w.heap.size + 1 + 1; omega) _
   have hkeep : ∀ b, b ≠ w.heap.size + 1 → b ≠ w.heap.size + 1 + 1 → w3.heap[b]? = w2.heap[b]? := fun b h1 h2 => by
    rw [hw3, Below.heap_setCell _ ⟨w.heap.size + 1 + 1, 1, none⟩ _ b h2, Below.heap_setCell _ ⟨w.heap.size + 1 + 1, 0, none⟩ _ b h2, Below.heap_setCell _ ⟨w.heap.size + 1, 1, none⟩ _ b h1, Below.heap_setCell _ ⟨w.heap.size + 1, 0, none⟩ _ b h1]
   rw [← hw3] at hP1 hP2
   have z0 := hP1.cell 0
   have z1 := hP1.cell 1
   have z2 := hP2.cell 0
   have z3 := hP2.cell 1
   simp only [List.setIfInBounds_toArray, List.set_cons_zero, List.set_cons_succ, List.getElem?_toArray, List.getElem?_cons_zero, List.getElem?_cons_succ] at z0 z1 z2 z3
   have hg1v : g1 = wr.heap.size := HG1.out
   have hg2v : g2 = w1.heap.size := HG2.out
   have hsw1 := hB1.size
   have hg1lt : g1 < w1.heap.size := (HOW1.out.lt g1 rfl).2
   rw [← hw3]
   refine bodyPost_ret (v := .tuple #[.agg #[.bool lf, .slice (some ⟨g1, 0, none⟩) at_ cap1], .agg #[.bool lf, .slice (some ⟨g2, 0, none⟩) (l.length - at_) cap2]]) (by simp [results, Tryz.results203, go_sem, z0, z1, z2, z3]) rfl ⟨at_, _, _, HH.out, rfl, ?_, ?_, ?_, hb3⟩
   ·refine row_of (row_of HOW1.out (w' := w2) (fun b hb => HBL2.out.block b (HOW1.out.lt b hb).2)) (fun b hb => ?_)
    have e : b = g1 := by
     have : some g1 = some b := hb
     injection this with this; exact this.symm
    exact hkeep b (by omega) (by omega)
   ·refine row_of HOW2.out (fun b hb => ?_)
    have e : b = g2 := by
     have : some g2 = some b := hb
     injection this with this; exact this.symm
    exact hkeep b (by omega) (by omega)
   ·intro b hb hb2
    have e1 : some g1 = some b := hb
    have e2 : some g2 = some b := hb2
    injection e1 with e1
    injection e2 with e2
    omega
end
section
open Go.RowKit Go.Lib
theorem pg_new {pgs : List (Option Bs)} {q : Nat} {b : Bs} (h1 : q ≤ pgs.length) : pg (newAt pgs q b) = upd (pg pgs) q (some b) := by
 funext r
 unfold pg upd
 rw [newAt_get h1]
 by_cases e : r = q
 ·subst e; simp
 ·rw [if_neg e, if_neg e]
theorem pg_free {pgs : List (Option Bs)} {q : Nat} (h : pgs[q]? = some none ∨ q = pgs.length) : pg pgs q = none := pg_none.2 (h.imp id (fun e => by omega))
theorem newAt_len {pgs : List (Option Bs)} {q : Nat} {b : Bs} (h1 : q ≤ pgs.length) : q < (newAt pgs q b).length := by
 have := (List.getElem?_eq_some_iff.1 (show (newAt pgs q b)[q]? = some (some b) by rw [newAt_get h1]; simp)).1
 exact this
theorem somes_new {pgs : List (Option Bs)} {q : Nat} {b : Bs} (h : pgs[q]? = some none ∨ q = pgs.length) : somes (newAt pgs q b) = somes pgs + 1 := by
 unfold newAt
 rcases h with h | h
 ·have hlt := (List.getElem?_eq_some_iff.1 h).1
  rw [if_pos hlt, somes_set_some pgs q b h]
 ·rw [if_neg (by omega), somes_snoc]
theorem Gr.notin {O O' : List Nat} {n b : Nat} (h : Gr O n O') (hb : b < n) (ho : b ∉ O) : b ∉ O' := h.out hb ho
section
variable {w : World} {P : PL} {O : List Nat} {pgs : List (Option Bs)} {tb : Nat}
set_option maxHeartbeats 4000000 in
theorem grow_any (ht : TrI w P tb) (hto : tb ∉ O) (hp : PoI w P O pgs) {a b : Nd} {va vb : Value} {x : En} {t : List En} (ha : mayN (strip a)) (hva : EnI w va a.l) (hva2 : ∀ g, va.ownBlock = some g → g ∉ O) (hal : a.l.length ≤ 900) (haf : nB (strip a).l ≤ 223)
  (hb : mayN (strip b)) (hvb : EnI w vb b.l) (hvb2 : ∀ g, vb.ownBlock = some g → g ∉ O) (hbl : b.l.length ≤ 900) (hbf : nB (strip b).l ≤ 223) (hx : b.l = x :: t) {b0 : Bs} (h0 : pg pgs 0 = some b0) (hsm : somes pgs + 1 < 300)
  (hroot : ∀ l r, pg pgs l = none → upd (pg pgs) l (some (pgOf (strip a))) r = none → l < 512 → r < 512 → mayN (rootOf x l r) ∧ nB (rootOf x l r).l ≤ 223) :
  Calls Tryz.prog 204 #[.pointer (some ⟨tb, 0, none⟩), ndV a.leaf va, ndV b.leaf vb] w fun e w' => ∃ l r O' pgs', e = .returned (.int .i64 0) ∧ PoI w' P O' pgs' ∧ pg pgs l = none ∧ upd (pg pgs) l (some (pgOf (strip a))) r = none ∧ l < 512 ∧ r < 512 ∧
   pg pgs' = upd (upd (upd (pg pgs) l (some (pgOf (strip a)))) r (some (pgOf (strip b)))) 0 (some (pgOf (rootOf x l r))) ∧ Kp O w w' ∧ Gr O w.heap.size O' ∧ somes pgs' = somes pgs + 2 := by
 have c0 := ht.c0
 have hlt := Blk.lt ht
 obtain ⟨gb, ob, cb, rfl, hcb, hgb, hEb⟩ := hvb.form (by rw [hx]; simp)
 obtain ⟨aa, ca, rfl⟩ := hva.slice
 have HT := hid ht
 have HTO := hid hto
 have HP := hid hp
 have HLO := hid hp.lts
 have HVA := hid hva
 have HVB := hid hvb
 have HVA2 := hid hva2
 have HVB2 := hid (hvb2 gb rfl)
 have HE := hid hEb
 have HA := hid (⟨ha, hal, haf⟩ : mayN (strip a) ∧ a.l.length ≤ 900 ∧ nB (strip a).l ≤ 223)
 have HB := hid (⟨hb, hbl, hbf, hx, h0, hsm⟩ : mayN (strip b) ∧ b.l.length ≤ 900 ∧ nB (strip b).l ≤ 223 ∧ b.l = x :: t ∧ pg pgs 0 = some b0 ∧ somes pgs + 1 < 300)
 have HR := hid hroot
 have hbA : Below w.heap.size w ((w.alloc (.cells #[.bool a.leaf, .slice aa a.l.length ca] 292)).alloc (.cells #[.bool b.leaf, .slice (some ⟨gb, ob, none⟩) b.l.length cb] 292)) := ((Below.refl _ w).alloc (Nat.le_refl _) _).alloc (by simp) _
 have HM1 := hid (make_any (ht.kp (O := []) (Kp.of_below hbA) (by simp)) (hp.below hbA) ha (hva.below hbA) hal haf (by omega))
 have hposb : 0 < b.l.length := by rw [hx]; simp
 clear ht hto hp hva hvb hva2 hvb2 hEb ha hal haf hb hbl hbf hx h0 hsm hroot hcb
 unfold ndV at HM1 ⊢
 go_enter Tryz.func204, Tryz.ntmps204
 go_wp2_with fail
 (with_reducible refine HM1.out.mono ?_)
 rintro e W1 ⟨l, O1, rfl, hl1, hl2, hp1, hk1, hg1⟩
 have hK1 : Kp O w W1 := (Kp.of_below hbA).trans hk1
 have hno1 : w.heap.size + 1 ∉ O := fun h => by have := HLO.out _ h; omega
 have hN1 : Blk W1 (w.heap.size + 1) 292 #[.bool b.leaf, .slice (some ⟨gb, ob, none⟩) b.l.length cb] := by
  have := Blk.new (w.alloc (.cells #[.bool a.leaf, .slice aa a.l.length ca] 292)) 292 #[.bool b.leaf, .slice (some ⟨gb, ob, none⟩) b.l.length cb]
  have := this.kp hk1 (by simpa using hno1)
  simpa using this
 have n0 : W1.cell? ⟨w.heap.size + 1, 0, none⟩ = some (.bool b.leaf) := hN1.cell 0
 have n1 : W1.cell? ⟨w.heap.size + 1, 1, none⟩ = some (.slice (some ⟨gb, ob, none⟩) b.l.length cb) := hN1.cell 1
 have hlt1 := hN1.lt
 have hg1' : Gr O w.heap.size O1 := hg1.mono (by simp; omega)
 have hto1 : tb ∉ O1 := hg1'.notin hlt HTO.out
 have hvb1 : EnI W1 (.slice (some ⟨gb, ob, none⟩) b.l.length cb) b.l := HVB.out.kp hK1 (fun g hg => by
  have e : some gb = some g := hg
  injection e with e
  rw [← e]; exact HVB2.out)
 have HM2 := hid (make_any (HT.out.kp hK1 HTO.out) hp1 HB.out.1 hvb1 HB.out.2.1 HB.out.2.2.1 (by rw [somes_new hl2]; have := HB.out.2.2.2.2.2; omega))
 unfold ndV at HM2
 have hg1s : ∀ z ∈ O1, z ∈ O ∨ w.heap.size + 1 + 1 ≤ z := fun z hz => (hg1 z hz).imp id (fun h => by simpa using h)
 have H1 := hid (⟨hl1, hl2, hp1, hK1, hg1', hto1, hvb1, hN1, hg1s⟩ : l ≤ pgs.length ∧ (pgs[l]? = some none ∨ l = pgs.length) ∧ PoI W1 P O1 (newAt pgs l (pgOf (strip a))) ∧ Kp O w W1 ∧ Gr O w.heap.size O1 ∧ tb ∉ O1 ∧ EnI W1 (.slice (some ⟨gb, ob, none⟩) b.l.length cb) b.l ∧ Blk W1 (w.heap.size + 1) 292 #[.bool b.leaf, .slice (some ⟨gb, ob, none⟩) b.l.length cb] ∧ ∀ z ∈ O1, z ∈ O ∨ w.heap.size + 1 + 1 ≤ z)
 clear hg1s hl1 hl2 hp1 hk1 hg1 hK1 hno1 hN1 hg1' hto1 hvb1 hbA
 go_wp2_with fail
 (with_reducible refine HM2.out.mono ?_)
 rintro e W2 ⟨r, O2, rfl, hr1, hr2, hp2, hk2, hg2⟩
 obtain ⟨hl1, hl2, hp1, hK1, hg1', hto1, hvb1, hN1, hg1s⟩ := H1.out
 have hgsz : w.heap.size ≤ W1.heap.size := hK1.size
 have hno1 : w.heap.size + 1 ∉ O1 := fun h => by
  rcases hg1s _ h with h | h
  ·have := HLO.out _ h; omega
  ·omega
 have hgb1 : gb ∉ O1 := hg1'.notin hgb HVB2.out
 have hN2 : Blk W2 (w.heap.size + 1) 292 #[.bool b.leaf, .slice (some ⟨gb, ob, none⟩) b.l.length cb] := hN1.kp hk2 hno1
 have m1 : W2.cell? ⟨w.heap.size + 1, 1, none⟩ = some (.slice (some ⟨gb, ob, none⟩) b.l.length cb) := hN2.cell 1
 have hlt2 := hN2.lt
 have hk12 : Kp O w W2 := hK1.trans_gr hg1' hk2
 have m2 : W2.cell? ⟨gb, ob, none⟩ = some (.string (S x.key)) := by
  rw [hk12.cell (p := ⟨gb, ob, none⟩) hgb HVB2.out]
  have := (HE.out 0 x (by rw [HB.out.2.2.2.1]; rfl)).1
  simpa using this
 have hgb2 : gb < W2.heap.size := Nat.lt_of_lt_of_le hgb hk12.size
 have hl5 : l < 512 := Nat.lt_of_lt_of_le (newAt_len hl1) (hp1.len)
 have hr5 : r < 512 := Nat.lt_of_lt_of_le (newAt_len hr1) (hp2.len)
 have hpl : pg pgs l = none := pg_free hl2
 have hpr : upd (pg pgs) l (some (pgOf (strip a))) r = none := by
  rw [← pg_new hl1]; exact pg_free hr2
 obtain ⟨hrm, hrb⟩ := HR.out l r hpl hpr hl5 hr5
 have hgr2 : Gr O w.heap.size O2 := fun z hz => (hg2 z hz).elim (fun h => hg1' z h) (fun h => .inr (by omega))
 have hto2 : tb ∉ O2 := hgr2.notin hlt HTO.out
 have hb3 : Below W2.heap.size W2 (W2.alloc (.cells #[.string ⟨#[]⟩, .string ⟨#[]⟩, .int .i64 l, .string (S x.key), .string ⟨#[]⟩, .int .i64 r] 299)) := (Below.refl _ W2).alloc (Nat.le_refl _) _
 have hblk := Blk.new W2 299 #[.string ⟨#[]⟩, .string ⟨#[]⟩, .int .i64 l, .string (S x.key), .string ⟨#[]⟩, .int .i64 r]
 have hEn : EnI (W2.alloc (.cells #[.string ⟨#[]⟩, .string ⟨#[]⟩, .int .i64 l, .string (S x.key), .string ⟨#[]⟩, .int .i64 r] 299)) (.slice (some ⟨W2.heap.size, 0, none⟩) 2 2) (rootOf x l r).l := by
  refine EnI.of_ownAt (l := (rootOf x l r).l) hblk.lt (Nat.le_refl _) (fun j y hy => ?_)
  match j with
  | 0 =>
   have : y = ⟨[], [], l⟩ := by simpa [rootOf] using hy.symm
   subst this
   exact ⟨hblk.cell 0, hblk.cell 1, hblk.cell 2⟩
  | 1 =>
   have : y = ⟨x.key, [], r⟩ := by simpa [rootOf] using hy.symm
   subst this
   exact ⟨hblk.cell 3, hblk.cell 4, hblk.cell 5⟩
  | j + 2 => simp [rootOf] at hy
 have hst : strip (rootOf x l r) = rootOf x l r := rfl
 have h0' : (newAt (newAt pgs l (pgOf (strip a))) r (pgOf (strip b)))[0]? = some (some b0) := by
  have h0 := HB.out.2.2.2.2.1
  have hl0 : (0 : Nat) ≠ l := fun e => by rw [← e, h0] at hpl; cases hpl
  have hr0 : (0 : Nat) ≠ r := fun e => by rw [← e, upd_ne _ _ hl0, h0] at hpr; cases hpr
  refine pg_some.1 ?_
  rw [pg_new hr1, pg_new hl1, upd_ne _ _ hr0, upd_ne _ _ hl0]
  exact h0
 have hW := write_fits (w := W2.alloc (.cells #[.string ⟨#[]⟩, .string ⟨#[]⟩, .int .i64 l, .string (S x.key), .string ⟨#[]⟩, .int .i64 r] 299)) (O := O2) (q := 0) (n := rootOf x l r) ((HT.out.kp hk12 HTO.out).below hb3 (Nat.lt_of_lt_of_le hlt hk12.size)) (hp2.below hb3) h0' (by rw [hst]; exact hrm) hEn (by simp [rootOf]) (by rw [hst]; exact hrb)
 rw [hst] at hW
 have HW : Hid (Calls Tryz.prog 201 #[.pointer (some ⟨tb, 0, none⟩), .int .i64 0, .agg #[.bool false, .slice (some ⟨W2.heap.size, 0, none⟩) 2 2]] _ _) := hid hW
 have HF := hid (⟨hl1, hr1, hpl, hpr, hl5, hr5, hk12, hgr2⟩ : l ≤ pgs.length ∧ r ≤ (newAt pgs l (pgOf (strip a))).length ∧ pg pgs l = none ∧ upd (pg pgs) l (some (pgOf (strip a))) r = none ∧ l < 512 ∧ r < 512 ∧ Kp O w W2 ∧ Gr O w.heap.size O2)
 have HB3 := hid hb3
 have H0 := hid h0'
 have HG2 := hid hgr2
 clear hl1 hl2 hp1 hK1 hg1' hto1 hvb1 hN1 hg1s hno1 hgb1 hN2 hk12 hl5 hr5 hpl hpr hrm hrb hgr2 hto2 hb3 hblk hEn hst h0' hW hr1 hr2 hp2 hk2 hg2 hgsz n0 n1
 go_wp2_with fail
 (with_reducible refine HW.out.mono ?_)
 rintro e W4 ⟨rfl, hk4, hp4⟩
 have HK4 := hid hk4
 have HP4 := hid hp4
 clear hk4 hp4
 go_wp2
 go_ret
 obtain ⟨hl1, hr1, hpl, hpr, hl5, hr5, hk12, hgr2⟩ := HF.out
 refine ⟨l, r, O2, _, rfl, HP4.out, hpl, hpr, hl5, hr5, ?_, ?_, hgr2, ?_⟩
 ·rw [pg_set (pg_lt (pg_some.2 H0.out)), pg_new hr1, pg_new hl1]
 ·exact (hk12.trans (Kp.of_below HB3.out)).trans_gr (hgr2) HK4.out
 ·rw [somes_set_same _ _ b0 _ H0.out, somes_new ((pg_none.1 (by rw [pg_new hl1]; exact hpr)).imp id (fun e => Nat.le_antisymm hr1 e)), somes_new ((pg_none.1 hpl).imp id (fun e => Nat.le_antisymm hl1 e))]
end
end
section
open Go.RowKit Go.Lib
structure Kb (B : Nat) (O : List Nat) (w w' : World) : Prop where
 os : w'.os = w.os
 tape : w'.tape = w.tape
 output : w'.output = w.output
 size : w.heap.size ≤ w'.heap.size
 block : ∀ b, b < B → b ∉ O → w'.heap[b]? = w.heap[b]?
namespace Kb
variable {B n : Nat} {O O' : List Nat} {w w' w'' : World}
theorem of_kp (h : Kp O w w') (hB : B ≤ w.heap.size) : Kb B O w w' := ⟨h.os, h.tape, h.output, h.size, fun b hb ho => h.block b (by omega) ho⟩
theorem to_kp (h : Kb w.heap.size O w w') : Kp O w w' := ⟨h.os, h.tape, h.output, h.size, h.block⟩
theorem trans_gr (h : Kb B O w w') (hg : Gr O n O') (hn : B ≤ n) (k : Kb B O' w' w'') : Kb B O w w'' :=
 ⟨k.os.trans h.os, k.tape.trans h.tape, k.output.trans h.output, Nat.le_trans h.size k.size, fun b hb ho => (k.block b hb (hg.out (by omega) ho)).trans (h.block b hb ho)⟩
theorem setCell (h : Kb B O w w') {p : Addr} (hp : B ≤ p.block) (u : Value) : Kb B O w (w'.setCell p u) :=
 ⟨h.os, h.tape, h.output, by simpa [World.setCell] using h.size, fun b hb ho => (Below.heap_setCell w' p u b (by omega)).trans (h.block b hb ho)⟩
end Kb
theorem own_take {w : World} {B g n c s m : Nat} {T : TypeId} {xs : List Value} (h : w.ownsRow B T s (.slice (some ⟨g, 0, none⟩) n c) n xs) (hm : m ≤ n) : w.ownsRow B T s (.slice (some ⟨g, 0, none⟩) m c) m (xs.take (m * s)) := by
 rcases h.2 with ⟨h', _⟩ | ⟨g', c', cur, e, h1, h2, h3, h4, h5, h6⟩
 ·cases h'
 ·injection e with e1 e2 e3
  injection e1 with e1
  injection e1 with e1 _ _
  subst e1 e3
  have hms : m * s ≤ n * s := Nat.mul_le_mul_right s hm
  refine ⟨by rw [List.length_take, h.1]; omega, .inr ⟨g, c, cur, rfl, h1, h2, by omega, h4, h5, ?_⟩⟩
  rw [← h6, List.take_take, Nat.min_eq_left hms]
theorem WayI.init {w : World} {B g c n : Nat} {sts : List St} {s : St} (h : WayI w B (.slice (some ⟨g, 0, none⟩) n c) (sts ++ [s])) (hn : n = sts.length + 1) : WayI w B (.slice (some ⟨g, 0, none⟩) sts.length c) sts := by
 have hl : (sts ++ [s]).length = sts.length + 1 := by simp
 have ho := h.own
 rw [hl] at ho
 subst hn
 have := own_take ho (Nat.le_succ _)
 rw [rowV_append, List.take_append_of_le_length (by rw [rowV_length stC_len]; exact Nat.le_refl _), List.take_of_length_le (by rw [rowV_length stC_len]; exact Nat.le_refl _)] at this
 refine ⟨this, fun t ht => h.row t (by simp [ht]), ?_⟩
 have := h.nd
 rw [List.pairwise_append] at this
 exact this.1
theorem WayI.setv {w w' : World} {B g c : Nat} {sts : List St} {s : St} {n2 : Nd} {v2 : Value} (h : WayI w B (.slice (some ⟨g, 0, none⟩) (sts.length + 1) c) (sts ++ [s])) (hb : n2.leaf = s.n.leaf)
  (hrow : w'.ownsRow B 299 3 v2 n2.l.length (rowV enC n2.l)) (hk : ∀ b, B ≤ b → b < w.heap.size → s.v.ownBlock ≠ some b → w'.heap[b]? = w.heap[b]?) (hv2 : ∀ t ∈ sts, ∀ b, t.v.ownBlock = some b → v2.ownBlock ≠ some b) (hg2 : v2.ownBlock ≠ some g) :
  WayI (w'.setCell ⟨g, sts.length * 4 + 2, none⟩ v2) B (.slice (some ⟨g, 0, none⟩) (sts.length + 1) c) (sts ++ [⟨s.page, n2, v2, s.at_⟩]) := by
 have hl : (sts ++ [s]).length = sts.length + 1 := by simp
 have ho := h.own
 rw [hl] at ho
 have hgs : s.v.ownBlock ≠ some g := fun e => own_apart (h.row s (by simp)) h.own (by decide) g e rfl
 have ho' : w'.ownsRow B 294 4 (.slice (some ⟨g, 0, none⟩) (sts.length + 1) c) (sts.length + 1) (rowV stC (sts ++ [s])) := row_of ho (fun b hb => hk b (ho.lt b hb).1 (ho.lt b hb).2 (by
  have e : some g = some b := hb
  rw [← e]; exact hgs))
 have hst := (ho'.stored (sts.length * 4 + 2) v2).1
 have hset : (rowV stC (sts ++ [s])).set (sts.length * 4 + 2) v2 = rowV stC (sts ++ [⟨s.page, n2, v2, s.at_⟩]) := by
  have hln := rowV_length stC_len sts
  rw [rowV_append, rowV_append, List.set_append_right _ _ (by rw [hln]; omega), hln, Nat.add_sub_cancel_left]
  simp only [rowV_cons, rowV_nil, List.append_nil]
  congr 1
  simp [stC, hb]
 rw [hset] at hst
 have far : ∀ {v : Value} {k : Nat} {xs : List Value}, w'.ownsRow B 299 3 v k xs → v.ownBlock ≠ some g → (w'.setCell ⟨g, sts.length * 4 + 2, none⟩ v2).ownsRow B 299 3 v k xs := fun hv hne => row_of hv (fun b hb => Below.heap_setCell _ ⟨g, _, none⟩ _ b (fun e => hne (by rw [hb]; exact congrArg some e)))
 have hnd := h.nd
 rw [List.pairwise_append] at hnd
 refine ⟨by simpa using hst, fun t ht => ?_, ?_⟩
 ·rcases List.mem_append.1 ht with ht | ht
  ·have hr := h.row t (by simp [ht])
   refine far (row_of hr (fun b hb => hk b (hr.lt b hb).1 (hr.lt b hb).2 (fun e => hnd.2.2 t ht s (by simp) b hb e))) (fun e => own_apart hr h.own (by decide) g e rfl)
  ·rw [List.mem_singleton.1 ht]
   exact far hrow hg2
 ·rw [List.pairwise_append]
  exact ⟨hnd.1, by simp, fun t ht u hu b hb => by rw [List.mem_singleton.1 hu]; exact hv2 t ht b hb⟩
theorem Fms.inv {sts : List St} {f : Fm} {up : List Fm} (h : Fms sts (f :: up)) : ∃ sts' v, sts = sts' ++ [⟨f.page, f.nd, v, f.L.length⟩] ∧ Fms sts' up := by
 unfold Fms at h
 rw [List.reverse_cons, List.map_append] at h
 obtain ⟨s1, s2, rfl, e1, e2⟩ := List.map_eq_append_iff.1 h
 match s2, e2 with
 | [⟨p, n, v, a⟩], e2 =>
  simp at e2
  obtain ⟨rfl, rfl, rfl⟩ := e2
  exact ⟨s1, v, rfl, e1⟩
 | [], e2 => simp at e2
 | _ :: _ :: _, e2 => simp at e2
theorem Fms.nil_inv {sts : List St} (h : Fms sts []) : sts = [] := by
 unfold Fms at h
 simpa using h
end
end Go.Proofs.YtnnghcooidjlhaaGreat
