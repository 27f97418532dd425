/- Parts of the proof: Jc Jd Jf Kc. -/
import Derived.Test.YtnnghcooidjlhaaGreatD01
import Derived.Test.YtnnghcooidjlhaaGreatD13
import Derived.Test.YtnnghcooidjlhaaGreatD14
import Derived.Test.YtnnghcooidjlhaaGreatD20
set_option linter.all false
set_option maxRecDepth 100000
namespace Go.Proofs.YtnnghcooidjlhaaGreat
section
open Go.RowKit Go.Lib
def enV (x : En) : Value := .agg #[.string (S x.key), .string (S x.val), .int .i64 x.far]
section
variable {w : World} {P : PL} {O : List Nat} {pgs : List (Option Bs)} {tb : Nat}
set_option maxHeartbeats 2000000 in
theorem value_any (ht : TrI w P tb) (hto : tb ∉ O) (hp : PoI w P O pgs) {x : En} (hx : ChAt (pg pgs) x) :
  Calls Tryz.prog 175 #[.pointer (some ⟨tb, 0, none⟩), enV x] w fun e w' => e = .returned (.tuple #[.string (S (kvOf (pg pgs) x).2), .int .i64 0]) ∧ Kp O w w' ∧ PoI w' P O pgs := by
 have hno : w.heap.size ∉ O := fun h => by have := hp.lts _ h; omega
 have hbA : Below w.heap.size w (w.alloc (.cells #[.string (S x.key), .string (S x.val), .int .i64 x.far] 299)) := (Below.refl _ w).alloc (Nat.le_refl _) _
 have hblk := Blk.new w 299 #[.string (S x.key), .string (S x.val), .int .i64 x.far]
 have k1 : (w.alloc (.cells #[.string (S x.key), .string (S x.val), .int .i64 x.far] 299)).cell? ⟨w.heap.size, 1, none⟩ = some (.string (S x.val)) := hblk.cell 1
 have k2 : (w.alloc (.cells #[.string (S x.key), .string (S x.val), .int .i64 x.far] 299)).cell? ⟨w.heap.size, 2, none⟩ = some (.int .i64 x.far) := hblk.cell 2
 have hpA := hp.below hbA
 have htA : TrI _ P tb := Blk.below ht hbA (Blk.lt ht)
 unfold enV kvOf
 by_cases hf : x.far < 0
 ·rw [if_pos hf]
  have HP := hid hpA
  have HB := hid hbA
  clear hp ht hpA htA hbA hblk
  go_enter Tryz.func175, Tryz.ntmps175
  go_wp2
  go_ret2
  exact ⟨rfl, Kp.of_below HB.out, HP.out⟩
 ·rw [if_neg hf]
  obtain ⟨v, hv1, hv2, hv3⟩ := hx (by omega)
  obtain ⟨q, hq⟩ : ∃ q : Nat, x.far = q := ⟨x.far.toNat, by omega⟩
  rw [hq, Int.toNat_natCast] at hv3
  rw [hq] at k2 hf ⊢
  have hres : unCh ((pg pgs ((q : Int).toNat)).getD []) = v := by
   rw [Int.toNat_natCast, hv3]
   exact unCh_chB hv2
  simp only [hres]
  obtain ⟨W0, hW0⟩ : ∃ W0, W0 = w.alloc (.cells #[.string (S x.key), .string (S x.val), .int .i64 q] 299) := ⟨_, rfl⟩
  obtain ⟨C, hC⟩ : ∃ C : World → Prop, Hid (∀ W, C W ↔ Kp O W0 W ∧ PoI W P O pgs) := ⟨_, hid fun _ => Iff.rfl⟩
  rw [hq, ← hW0] at hblk hpA htA hbA
  have HCL : Hid (∀ W, C W → W.cell? ⟨tb, 0, none⟩ = some (.pointer (some ⟨P.p, 0, none⟩)) ∧ W.cell? ⟨w.heap.size, 2, none⟩ = some (.int .i64 q)) := hid fun W hW => by
   obtain ⟨h1, _⟩ := (hC.out W).1 hW
   exact ⟨(Blk.kp htA h1 hto).cell 0, (hblk.kp h1 hno).cell 2⟩
  have HCC : Hid (∀ W, C W → Calls Tryz.prog 207 #[.pointer (some ⟨P.p, 0, none⟩), .int .i64 q] W fun e w' => e = .returned (.tuple #[.string (S v), .int .i64 0]) ∧ C w') := hid fun W hW => by
   obtain ⟨h1, h2⟩ := (hC.out W).1 hW
   refine (cget_any h2 (pg_some.1 hv3) hv2).mono ?_
   rintro e w' ⟨rfl, h3, h4⟩
   exact ⟨rfl, (hC.out w').2 ⟨h1.trans h3, h4⟩⟩
  have HC0 : Hid (C W0.drew) := hid ((hC.out _).2 ⟨(Kp.refl O W0).drew, hpA.of_blocks (fun _ _ => rfl)⟩)
  have HF : Hid (∀ W, C W → Kp O w W ∧ PoI W P O pgs) := hid fun W hW => by
   obtain ⟨h1, h2⟩ := (hC.out W).1 hW
   exact ⟨(Kp.of_below hbA).trans h1, h2⟩
  have HBD := hid (fun W => bad0 W)
  clear hp ht hpA htA hbA hblk hres hx k1
  go_enter Tryz.func175, Tryz.ntmps175
  go_wp2
  rw [← hW0]
  refine qC_region (by kernel_rfl) (by kernel_rfl) C HC0.out ?_
  repeat (first | (refine qC_none rfl (fun K hK => ?_); apply Exists.intro; refine ⟨fun w0 hw0 => ?_, ?_⟩; (focus (obtain ⟨q0, q1⟩ := HCL.out w0 hw0; go_simp; first | exact rfl | exact ⟨rfl, rfl⟩ | (exact HCC.out w0 hw0))); go_simp; refine hK _ ?_; clear hK K) | (refine qC_yes _ _ _ rfl rfl (by rfl) (fun K hK => ?_); apply Exists.intro; refine ⟨fun w0 hw0 => ?_, ?_⟩; (focus (obtain ⟨q0, q1⟩ := HCL.out w0 hw0; go_simp; first | exact rfl | exact ⟨rfl, rfl⟩ | (exact HCC.out w0 hw0))); go_simp; refine hK _ ?_; clear hK K) | (refine qC_no _ _ _ rfl rfl (by rfl) (fun K hK => ?_); go_simp; refine hK _ ?_; clear hK K) | (refine qC_undef _ _ _ rfl rfl (by rfl) (fun K hK => ?_); go_simp; refine hK _ ?_; clear hK K))
  refine qC_nil ?_
  intro w5 hw5
  have H5 := hid (HF.out w5 hw5)
  clear hw5
  go_wp2_with (go_at_call 196; (with_reducible refine (HBD.out _).mono ?_); rintro e w1 ⟨rfl, rfl⟩)
  go_ret2
  exact ⟨rfl, H5.out.1, H5.out.2⟩
set_option maxHeartbeats 2000000 in
theorem store_any (ht : TrI w P tb) (hto : tb ∉ O) (hp : PoI w P O pgs) {k v : Bs} (hv : v.length ≤ 228) (hsm : somes pgs < 300) :
  Calls Tryz.prog 169 #[.pointer (some ⟨tb, 0, none⟩), .string (S k), .string (S v)] w fun e w' => ∃ x O' pgs', e = .returned (.tuple #[enV x, .int .i64 0]) ∧ x.key = k ∧
   ((v.length ≤ 40 ∧ x = ⟨k, v, -1⟩ ∧ O' = O ∧ pgs' = pgs) ∨ (40 < v.length ∧ ∃ q : Nat, x = ⟨k, [], q⟩ ∧ pg pgs q = none ∧ q < 512 ∧ pg pgs' = upd (pg pgs) q (some (chB v)) ∧ somes pgs' = somes pgs + 1)) ∧ PoI w' P O' pgs' ∧ Kp O w w' ∧ Gr O w.heap.size O' := by
 have hno : w.heap.size ∉ O := fun h => by have := hp.lts _ h; omega
 have hbA : Below w.heap.size w (w.alloc (.cells #[.string ⟨#[]⟩, .string ⟨#[]⟩, .int .i64 0] 299)) := (Below.refl _ w).alloc (Nat.le_refl _) _
 have hblk := Blk.new w 299 #[.string ⟨#[]⟩, .string ⟨#[]⟩, .int .i64 0]
 have hpA := hp.below hbA
 have htA : TrI _ P tb := Blk.below ht hbA (Blk.lt ht)
 have hlt := Blk.lt ht
 have c0 := htA.c0
 have f0 := hblk.frozen 0
 have f1 := hblk.frozen 1
 have f2 := hblk.frozen 2
 have k0 := hblk.cell 0
 have k1 := hblk.cell 1
 have k2 := hblk.cell 2
 simp only [List.getElem?_toArray, List.getElem?_cons_zero, List.getElem?_cons_succ] at k0 k1 k2
 have HNO := hid hno
 have HBA := hid hbA
 have HBLK := hid hblk
 have HP0 := hid hp
 by_cases hs : v.length ≤ 40
 ·have hsi : (v.length : Int) ≤ 40 := by omega
  clear hno hbA hblk hpA htA hp ht
  go_enter Tryz.func169, Tryz.ntmps169
  go_wp2
  have hR3 := Blk.new w 299 #[.string (S k), .string (S v), .int .i64 (-1)]
  have q0 := hR3.cell 0
  have q1 := hR3.cell 1
  have q2 := hR3.cell 2
  simp only [List.getElem?_toArray, List.getElem?_cons_zero, List.getElem?_cons_succ] at q0 q1 q2
  have hb3 : Below w.heap.size w (w.alloc (.cells #[.string (S k), .string (S v), .int .i64 (-1)] 299)) := (Below.refl _ w).alloc (Nat.le_refl _) _
  exact bodyPost_ret (v := .tuple #[enV ⟨k, v, -1⟩, .int .i64 0]) (by simp [enV, results, Tryz.results169, go_sem, q0, q1, q2]) rfl ⟨⟨k, v, -1⟩, O, pgs, rfl, rfl, .inl ⟨hs, rfl, rfl, rfl⟩, HP0.out.below hb3, Kp.of_below hb3, Gr.refl _ _⟩
 ·have hsi : ¬ (v.length : Int) ≤ 40 := by omega
  have HPUT := hid (cput_any hpA hv hsm)
  clear hno hbA hblk hpA htA hp ht k0 k1 k2 f0 f1 f2
  go_enter Tryz.func169, Tryz.ntmps169
  go_wp2_with fail
  (with_reducible refine HPUT.out.mono ?_)
  rintro e W1 ⟨q, O', rfl, hq1, hq2, hp1, hk1, hg1⟩
  have hB1 := HBLK.out.kp hk1 HNO.out
  have hno1 : w.heap.size ∉ O' := fun h => by
   rcases hg1 _ h with h' | h'
   ·exact HNO.out h'
   ·simp at h'
    omega
  have f0 := hB1.frozen 0
  have f1 := hB1.frozen 1
  have f2 := hB1.frozen 2
  have k0 := hB1.cell 0
  have k1 := hB1.cell 1
  have k2 := hB1.cell 2
  simp only [List.getElem?_toArray, List.getElem?_cons_zero, List.getElem?_cons_succ] at k0 k1 k2
  have HB1 := hid hB1
  have H1 := hid (⟨hq1, hq2, hp1, (Kp.of_below HBA.out).trans hk1, hg1.mono HBA.out.size, hno1⟩ : q ≤ pgs.length ∧ (pgs[q]? = some none ∨ q = pgs.length) ∧ PoI W1 P O' (newAt pgs q (chB v)) ∧ Kp O w W1 ∧ Gr O w.heap.size O' ∧ w.heap.size ∉ O')
  clear hB1 hq1 hq2 hp1 hk1 hg1 hno1
  go_wp2
  have hR3 := ((HB1.out.set_ 0 (.string (S k))).set_ 1 (.string ⟨#[]⟩)).set_ 2 (.int .i64 q)
  have q0 := hR3.cell 0
  have q1 := hR3.cell 1
  have q2 := hR3.cell 2
  simp only [List.setIfInBounds_toArray, List.set_cons_zero, List.set_cons_succ, List.getElem?_toArray, List.getElem?_cons_zero, List.getElem?_cons_succ] at q0 q1 q2
  obtain ⟨hq1, hq2, hp1, hk1, hg1, hno1⟩ := H1.out
  have hkk := ((hk1.setCell (p := ⟨w.heap.size, 0, none⟩) (.inr (Nat.le_refl _)) (.string (S k))).setCell (p := ⟨w.heap.size, 1, none⟩) (.inr (Nat.le_refl _)) (.string ⟨#[]⟩)).setCell (p := ⟨w.heap.size, 2, none⟩) (.inr (Nat.le_refl _)) (.int .i64 q)
  refine bodyPost_ret (v := .tuple #[enV ⟨k, [], q⟩, .int .i64 0]) (by simp [enV, show S [] = ⟨#[]⟩ from rfl, results, Tryz.results169, go_sem, q0, q1, q2]) rfl ⟨⟨k, [], q⟩, O', newAt pgs q (chB v), rfl, rfl, .inr ⟨by omega, q, rfl, pg_free hq2, ?_, pg_new hq1, somes_new hq2⟩, ?_, hkk, hg1⟩
  ·exact Nat.lt_of_lt_of_le (newAt_len hq1) hp1.len
  ·refine hp1.of_blocks fun b hb => ?_
   have hb1 : b ≠ w.heap.size := fun e => hno1 (e ▸ hb)
   rw [Below.heap_setCell _ ⟨w.heap.size, 2, none⟩ _ b hb1, Below.heap_setCell _ ⟨w.heap.size, 1, none⟩ _ b hb1, Below.heap_setCell _ ⟨w.heap.size, 0, none⟩ _ b hb1]
set_option maxHeartbeats 2000000 in
theorem away_any (ht : TrI w P tb) (hto : tb ∉ O) (hp : PoI w P O pgs) {x : En} (hx : ChAt (pg pgs) x) :
  Calls Tryz.prog 167 #[.pointer (some ⟨tb, 0, none⟩), enV x] w fun e w' => ∃ pgs', e = .returned (.int .i64 0) ∧ pg pgs' = (if x.far < 0 then pg pgs else upd (pg pgs) x.far.toNat none) ∧ somes pgs' ≤ somes pgs ∧ Kp O w w' ∧ PoI w' P O pgs' := by
 have hno : w.heap.size ∉ O := fun h => by have := hp.lts _ h; omega
 have hbA : Below w.heap.size w (w.alloc (.cells #[.string (S x.key), .string (S x.val), .int .i64 x.far] 299)) := (Below.refl _ w).alloc (Nat.le_refl _) _
 have hblk := Blk.new w 299 #[.string (S x.key), .string (S x.val), .int .i64 x.far]
 have k2 : (w.alloc (.cells #[.string (S x.key), .string (S x.val), .int .i64 x.far] 299)).cell? ⟨w.heap.size, 2, none⟩ = some (.int .i64 x.far) := hblk.cell 2
 have hpA := hp.below hbA
 have htA : TrI _ P tb := Blk.below ht hbA (Blk.lt ht)
 unfold enV
 by_cases hf : x.far < 0
 ·rw [if_pos hf]
  have HP := hid hpA
  have HB := hid hbA
  clear hp ht hpA htA hbA hblk
  go_enter Tryz.func167, Tryz.ntmps167
  go_wp2
  go_ret
  exact ⟨pgs, rfl, rfl, Nat.le_refl _, Kp.of_below HB.out, HP.out⟩
 ·rw [if_neg hf]
  obtain ⟨v, hv1, hv2, hv3⟩ := hx (by omega)
  obtain ⟨q, hq⟩ : ∃ q : Nat, x.far = q := ⟨x.far.toNat, by omega⟩
  rw [hq, Int.toNat_natCast] at hv3
  rw [hq] at k2 hf hpA htA hbA hblk ⊢
  rw [Int.toNat_natCast]
  have c0 := htA.c0
  obtain ⟨W0, hW0⟩ : ∃ W0, W0 = w.alloc (.cells #[.string (S x.key), .string (S x.val), .int .i64 q] 299) := ⟨_, rfl⟩
  rw [← hW0] at hpA htA hbA hblk c0
  have k2' : W0.cell? ⟨w.heap.size, 2, none⟩ = some (.int .i64 q) := hW0 ▸ k2
  have HD := hid (fun W hW => cdrop_any (hpA.below (w' := W) hW) (pg_some.1 hv3) hv2)
  have HBD := hid (fun W => bad0 W)
  have HB := hid hbA
  have HPG := hid hv3
  have HS := hid (⟨c0, k2'⟩ : _ ∧ _)
  have HS2 : Hid (∀ W W', Below W0.heap.size W0 W → Kp O W W' → W'.cell? ⟨tb, 0, none⟩ = some (.pointer (some ⟨P.p, 0, none⟩)) ∧ W'.cell? ⟨w.heap.size, 2, none⟩ = some (.int .i64 q)) := hid fun W W' hW hk =>
   ⟨(Blk.kp (htA.below hW (Blk.lt htA)) hk hto).cell 0, ((hblk.below hW hblk.lt).kp hk hno).cell 2⟩
  clear hp ht hpA htA hbA hblk hx hv3 c0 k2'
  go_enter Tryz.func167, Tryz.ntmps167
  go_wp2
  rw [← hW0]
  clear k2 hW0
  go_region_held3 (fun W => W.cell? ⟨tb, 0, none⟩ = some (.pointer (some ⟨P.p, 0, none⟩)) ∧ W.cell? ⟨w.heap.size, 2, none⟩ = some (.int .i64 q)) (first | exact HS.out | exact HS3)
   (first
    | (go_at_call 197; refine (HD.out _ (Below.refl _ _).drew).mono ?_; rintro e w1 ⟨rfl, hk1, hp1⟩; have HS3 := HS2.out _ _ (Below.refl _ _).drew hk1; have hb1 := (Below.refl W0.heap.size W0).drew)
    | (go_at_call 197; refine (HD.out _ (Below.refl _ _)).mono ?_; rintro e w1 ⟨rfl, hk1, hp1⟩; have HS3 := HS2.out _ _ (Below.refl _ _) hk1; have hb1 := Below.refl W0.heap.size W0)
    | (go_at_call 196; refine (HBD.out _).mono ?_; rintro e w2 ⟨rfl, rfl⟩))
  all_goals
   have hF : Hid (Kp O w w1 ∧ PoI w1 P O (pgs.set q none)) := hid ⟨((Kp.of_below HB.out).trans (Kp.of_below hb1)).trans hk1, hp1⟩
   clear hk1 hp1 hb1 HS3
   go_wp2
   go_ret
   refine ⟨pgs.set q none, rfl, pg_set (pg_lt HPG.out), ?_, hF.out.1, hF.out.2⟩
   have hlt := pg_lt HPG.out
   have := somes_set_none pgs q _ (pg_some.1 HPG.out)
   omega
end
end
section
open Go.RowKit Go.Lib
def TreeI (w : World) (P : PL) (O : List Nat) (tb N : Nat) (M : List KV) : Prop :=
 ∃ pgs D E ps, PoI w P O pgs ∧ TrI w P tb ∧ tb ∉ O ∧ MapI (pg pgs) D E ps N ∧ N ≤ 246 ∧ kvs (pg pgs) E = M
theorem TreeI.of_blocks {w w' : World} {P : PL} {O : List Nat} {tb N : Nat} {M : List KV} (h : TreeI w P O tb N M) (e : ∀ b ∈ tb :: O, w'.heap[b]? = w.heap[b]?) : TreeI w' P O tb N M := by
 obtain ⟨pgs, D, E, ps, hp, ht, hto, hm, hN, hM⟩ := h
 exact ⟨pgs, D, E, ps, hp.of_blocks (fun b hb => e b (by simp [hb])), (e tb (by simp)).trans ht, hto, hm, hN, hM⟩
theorem TreeI.lts {w : World} {P : PL} {O : List Nat} {tb N : Nat} {M : List KV} (h : TreeI w P O tb N M) : ∀ b ∈ tb :: O, b < w.heap.size := by
 obtain ⟨pgs, D, E, ps, hp, ht, hto, hm, hN, hM⟩ := h
 intro b hb
 rcases List.mem_cons.1 hb with rfl | hb
 ·exact Blk.lt ht
 ·exact hp.lts b hb
theorem TreeI.below {w w' : World} {P : PL} {O : List Nat} {tb N : Nat} {M : List KV} (h : TreeI w P O tb N M) (hb : Below w.heap.size w w') : TreeI w' P O tb N M := h.of_blocks fun b hx => hb.block b (h.lts b hx)
theorem TreeI.asc {w : World} {P : PL} {O : List Nat} {tb N : Nat} {M : List KV} (h : TreeI w P O tb N M) : AscM M := by
 obtain ⟨pgs, D, E, ps, hp, ht, hto, hm, hN, rfl⟩ := h
 exact kvs_asc hm.rep.asc
def getR : Option Bs → Value
 | some v => .tuple #[.string (S v), .int .i64 0]
 | none => .tuple #[.string ⟨#[]⟩, .int .i64 9]
theorem leaf_len {es : List En} (h : nB es ≤ 223) : es.length ≤ 40 := by
 have : ∀ l : List En, 7 * l.length ≤ nB l := fun l => by
  induction l with
  | nil => simp
  | cons x t ih => simp [enB]; omega
 have := this es
 omega
theorem hasB_iff (k : Bs) (l : List En) : hasB k l = true ↔ hasK k l := by
 unfold hasB hasK
 cases h : l[cnt k l]? with
 | none => simp
 | some x => simp
section
variable {w : World} {P : PL} {O : List Nat} {tb N : Nat} {M : List KV}
set_option maxHeartbeats 4000000 in
theorem tget_any (h : TreeI w P O tb N M) (k : Bs) :
  Calls Tryz.prog 154 #[.pointer (some ⟨tb, 0, none⟩), .string (S k)] w fun e w' => e = .returned (getR (getM M k)) ∧ Kp O w w' ∧ TreeI w' P O tb N M := by
 obtain ⟨pgs, D, E, ps, hp, ht, hto, hm, hN, rfl⟩ := h
 have hD := hm.deep (by omega)
 have HW := hid (way_any ht hto hp hm.rep (by omega) k)
 have HM := hid hm
 have HT := hid ht
 have HTO := hid hto
 have HNN := hid hN
 have HLT := hid hp.lts
 clear hp ht hto hm hN
 go_enter Tryz.func154, Tryz.ntmps154
 go_wp2_with fail
 (with_reducible refine HW.out.mono ?_)
 rintro e W1 ⟨v, sts, up, q, es, vl, pre, post, psl, psc, rfl, hk1, hp1, hway, hfms, hul, hctx, hrep, hE, hperm, hin, hin2, hne⟩
 obtain ⟨g, c, tp, tc, rfl, hvl, hg1, hg2, hg3, cell, hEn⟩ := way_last hway
 simp only at hvl hEn
 subst hvl
 have l1 := cell 1 _ rfl
 have l2 := cell 2 _ rfl
 simp only at l1 l2
 have hsl := hfms.length
 have hsz : (sts.length : Int) + 1 < 1000 := by omega
 have w9 : IntKind.i64.wrap ((sts.length : Int) + 1 - 1) = (sts.length : Int) := by rw [IntKind.wrap_i64]; omega
 obtain ⟨hnd, rfl⟩ := hrep
 have hlen : es.length ≤ 40 := leaf_len hnd.2.2
 have hsid := hctx.sides hin
 have hget := get_kvs (m := pg pgs) hE hsid.1 hsid.2 hnd.2.1.2
 have hK1 : Kp O w W1 := hk1
 have hlO : ∀ b ∈ O, b < W1.heap.size := hp1.lts
 have ht1 : TrI W1 P tb := Blk.kp HT.out hK1 HTO.out
 have hT1 : TreeI W1 P O tb N (kvs (pg pgs) E) := ⟨pgs, D, _, ps, hp1, ht1, HTO.out, HM.out, HNN.out, rfl⟩
 have hbA : Below W1.heap.size W1 (W1.alloc (.cells #[.bool true, .slice tp es.length tc] 292)) := (Below.refl _ W1).alloc (Nat.le_refl _) _
 have HBA := hid hbA
 have HFI := hid (find_any (leaf := true) (l := es) hnd.2.1.2 (hEn.below hbA) (by omega) k)
 unfold ndV at HFI
 have HK1 := hid hK1
 have HT1 := hid hT1
 have HGET := hid hget
 have HCH := hid (fun x (hx : x ∈ es) => HM.out.ch x (by rw [hE]; simp [hx]))
 have hlt1 : W1.heap.size < (W1.alloc (.cells #[.bool true, .slice tp es.length tc] 292)).heap.size := by simp
 have HVA := hid (fun W x (hx : x ∈ es) (hW : Below W1.heap.size W1 W) => value_any (w := W) (Blk.below ht1 hW (Blk.lt ht1)) HTO.out (hp1.below hW) (HCH.out x hx))
 have hn0 := Blk.new W1 292 #[.bool true, .slice tp es.length tc]
 have HN0 := hid hn0
 have HEN := hid hEn
 have hlen2 : (es.length : Int) ≤ 40 := by omega
 have HFIN : Hid (∀ W W', Below W1.heap.size W1 W → Kp O W W' → PoI W' P O pgs → Kp O w W' ∧ TreeI W' P O tb N (kvs (pg pgs) E)) := hid fun W W' hW hk hp => ⟨(hK1.trans (Kp.of_below hW)).trans hk, pgs, D, _, ps, hp, Blk.kp (Blk.below ht1 hW (Blk.lt ht1)) hk HTO.out, HTO.out, HM.out, HNN.out, rfl⟩
 clear hE hsl hul hk1 hp1 hway hfms hctx hperm hin hin2 hne hEn cell hnd hsid hget hK1 hT1 ht1 hbA hn0 hg1 hg2 hg3
 go_wp2_with fail
 (with_reducible refine HFI.out.mono ?_)
 rintro e W3 ⟨rfl, hb3⟩
 have hb13 : Below W1.heap.size W1 W3 := HBA.out.trans (hb3.mono HBA.out.size)
 have hN3 := HN0.out.below hb3 HN0.out.lt
 have n1 : W3.cell? ⟨W1.heap.size, 1, none⟩ = some (.slice tp es.length tc) := hN3.cell 1
 have hE3 := HEN.out.below hb13
 have hc1 := cnt_le k es
 have HB13 := hid hb13
 clear hb3 hb13 hN3
 by_cases hk : hasK k es
 ·have hb := (hasB_iff k es).2 hk
  rw [hb]
  obtain ⟨x, hx, hxk⟩ := hk
  have hlt := (List.getElem?_eq_some_iff.1 hx).1
  obtain ⟨gx, ox, cx, e1, e2, e3, e4⟩ := hE3.form (by rintro rfl; simp at hlt)
  injection e1 with e5 _ e6
  subst e5 e6
  obtain ⟨m0, m1, m2⟩ := e4 _ x hx
  have HGT := hid (HGET.out.1 x hx hxk)
  have hlti : ((cnt k es : Nat) : Int) < (es.length : Int) := by omega
  have HV := hid (HVA.out W3 x (List.mem_of_getElem? hx) HB13.out)
  unfold enV at HV
  clear hE3 hx hb e4 hxk
  go_wp2_with fail
  (with_reducible refine HV.out.mono ?_)
  rintro e W4 ⟨rfl, hk4, hp4⟩
  have HF := hid (HFIN.out W3 W4 HB13.out hk4 hp4)
  clear hk4 hp4
  go_wp2
  go_ret2
  exact ⟨by rw [HGT.out]; rfl, HF.out.1, HF.out.2⟩
 ·have hb : hasB k es = false := by
   cases h : hasB k es
   ·rfl
   ·exact absurd ((hasB_iff k es).1 h) hk
  rw [hb]
  have HGT := hid (HGET.out.2 hk)
  clear hE3
  go_wp2
  go_ret2
  exact ⟨by rw [HGT.out]; rfl, HK1.out.trans (Kp.of_below HB13.out), HT1.out.below HB13.out⟩
end
end
section
open Go.RowKit Go.Lib
theorem KSt.leafd {m : Mp} {d q : Nat} {n : Nd} {up : List Fm} {E : List En} {ps : List PN} (h : KSt m d q n up E ps) : n.leaf = decide (d = 0) := by
 obtain ⟨_, _, _, _, _, _, h2, _⟩ := h.x
 have := h2.leaf_iff
 rwa [strip_leaf_eq] at this
theorem KSt.root0 {m : Mp} {d q : Nat} {n : Nd} {E : List En} {ps : List PN} (h : KSt m d q n [] E ps) : q = 0 := by
 obtain ⟨_, _, _, _, _, h1, _⟩ := h.x
 exact h1.root
theorem KSt.len {m : Mp} {d q : Nat} {n : Nd} {up : List Fm} {E : List En} {ps : List PN} (h : KSt m d q n up E ps) : n.l.length ≤ 40 := leaf_len h.big
section
variable {w : World} {P : PL} {O : List Nat} {pgs : List (Option Bs)} {tb : Nat}
set_option maxHeartbeats 8000000 in
theorem lower_any (ht : TrI w P tb) (hto : tb ∉ O) (hp : PoI w P O pgs) {d : Nat} {n : Nd} {v : Value} {E : List En} {ps : List PN} (hK : KSt (pg pgs) d 0 n [] E ps) (hv : EnI w v n.l) (hv2 : ∀ g, v.ownBlock = some g → g ∉ O) :
  Calls Tryz.prog 222 #[.pointer (some ⟨tb, 0, none⟩), ndV n.leaf v] w fun e w' => ∃ pgs' D ps', e = .returned (.int .i64 0) ∧ PoI w' P O pgs' ∧ KDn (pg pgs) d ps (pg pgs') D E ps' ∧ Kp O w w' := by
 have HT := hid ht
 have HTO := hid hto
 have HLT := hid hp.lts
 have hlt := Blk.lt ht
 have c0 := ht.c0
 have hbA : Below w.heap.size w (w.alloc (.cells #[.bool n.leaf, v] 292)) := (Below.refl _ w).alloc (Nat.le_refl _) _
 have hno : w.heap.size ∉ O := fun h => by have := hp.lts _ h; omega
 have HNO := hid hno
 have HI0 : Hid (Blk (w.alloc (.cells #[.bool n.leaf, v] 292)) w.heap.size 292 #[.bool n.leaf, v] ∧ EnI (w.alloc (.cells #[.bool n.leaf, v] 292)) v n.l ∧ (∀ g, v.ownBlock = some g → g ∉ O) ∧ KSt (pg pgs) d 0 n [] E ps ∧ Turn (pg pgs) (pgsOf ps) (pg pgs) (pgsOf ps) ∧ (∀ p : Pot, p.sum ps ≤ p.sum ps) ∧ PoI (w.alloc (.cells #[.bool n.leaf, v] 292)) P O pgs ∧ Kp O w (w.alloc (.cells #[.bool n.leaf, v] 292))) :=
  hid ⟨Blk.new w _ _, hv.below hbA, hv2, hK, Turn.refl _ _, fun _ => Nat.le_refl _, hp.below hbA, Kp.of_below hbA⟩
 clear ht hto hp hK hv hv2 hbA hno c0
 unfold ndV
 go_enter Tryz.func222, Tryz.ntmps222
 go_wp2
 go_loopg [] d (fun gg wr => ∃ (dd : Nat) (n1 : Nd) (v1 : Value) (pgs1 : List (Option Bs)) (ps1 : List PN), dd ≤ gg ∧ dd ≤ d ∧ Hid (Blk wr w.heap.size 292 #[.bool n1.leaf, v1] ∧ EnI wr v1 n1.l ∧ (∀ g, v1.ownBlock = some g → g ∉ O) ∧ KSt (pg pgs1) dd 0 n1 [] E ps1 ∧ Turn (pg pgs) (pgsOf ps) (pg pgs1) (pgsOf ps1) ∧ (∀ p : Pot, p.sum ps1 ≤ p.sum ps) ∧ PoI wr P O pgs1 ∧ Kp O w wr))
 case atStart => exact ⟨d, n, v, pgs, ps, Nat.le_refl _, Nat.le_refl _, HI0⟩
 case round =>
  obtain ⟨dd, n1, v1, pgs1, ps1, hgg, hdd, HI⟩ := hrel
  obtain ⟨hB, hE, hE2, hK, hT, hpot, hP, hKp⟩ := HI.out
  obtain ⟨lf, l⟩ := n1
  simp only at hB hE hE2
  obtain ⟨ao, c1, rfl⟩ := hE.slice
  have b0 : wr.cell? ⟨w.heap.size, 0, none⟩ = some (.bool lf) := hB.cell 0
  have b1 : wr.cell? ⟨w.heap.size, 1, none⟩ = some (.slice ao l.length c1) := hB.cell 1
  have f0 := hB.frozen 0
  have f1 := hB.frozen 1
  have hltB := hB.lt
  have hll : (l.length : Int) ≤ 40 := by have : l.length ≤ 40 := hK.len; omega
  have htr : TrI wr P tb := Blk.kp HT.out hKp HTO.out
  have c0 := htr.c0
  by_cases hone : lf = false ∧ l.length = 1
  ·-- one node alone: it is pulled up
   obtain ⟨rfl, hl1⟩ := hone
   obtain ⟨x, rfl⟩ : ∃ x, l = [x] := by
    match l, hl1 with
    | [x], _ => exact ⟨x, rfl⟩
   have hd0 : dd ≠ 0 := fun e => by have := hK.leafd; simp [e] at this
   obtain ⟨d', rfl⟩ : ∃ d', dd = d' + 1 := ⟨dd - 1, by omega⟩
   obtain ⟨q, n2, hxq, hnd2, ps2, hK2, hT2, hpot2⟩ := hK.pull rfl
   obtain ⟨g1, o1, c2, e1, _, hg1, hA1⟩ := hE.form (by simp)
   injection e1 with e1 _ e2
   subst e1 e2
   have m2 := (hA1 0 x rfl).2.2
   rw [hxq] at m2
   have hRD := read_any htr hP (pg_some.1 hnd2.1) hnd2.2.1 hnd2.2.2
   have HRD := hid hRD
   have hsz := hKp.size
   have HX := hid (⟨hnd2, hK2, hT.trans hT2, fun p => Nat.le_trans (hpot2 p) (hpot p), hKp, hB, hsz⟩ : NdAt (pg pgs1) q n2 ∧ KSt (upd (pg pgs1) q none) d' 0 n2 [] E ps2 ∧ Turn (pg pgs) (pgsOf ps) (upd (pg pgs1) q none) (pgsOf ps2) ∧ (∀ p : Pot, p.sum ps2 ≤ p.sum ps) ∧ Kp O w wr ∧ Blk wr w.heap.size 292 _ ∧ _)
   clear hB hE hE2 hK hT hpot hP hKp hd0 hnd2 hK2 hT2 hpot2 hA1 htr hRD hsz
   go_wp2_with fail
   (with_reducible refine HRD.out.mono ?_)
   rintro e W1 ⟨v2, rfl, hO1, hk1, hp1⟩
   unfold ndV
   obtain ⟨hnd2, hK2, hT2, hpot2, hKp, hB, hsz⟩ := HX.out
   obtain ⟨a2, c2, rfl⟩ := own_slice2 hO1
   have htr1 : TrI W1 P tb := Blk.kp HT.out (hKp.trans hk1) HTO.out
   have hbA : Below W1.heap.size W1 (W1.alloc (.cells #[.bool n2.leaf, .slice a2 n2.l.length c2] 292)) := (Below.refl _ W1).alloc (Nat.le_refl _) _
   have HD := hid (pi_drop (hp1.below hbA) (pg_some.1 hnd2.1))
   have d0 : (W1.alloc (.cells #[.bool n2.leaf, .slice a2 n2.l.length c2] 292)).cell? ⟨tb, 0, none⟩ = some (.pointer (some ⟨P.p, 0, none⟩)) := (hbA.cell (p := ⟨tb, 0, none⟩) (Blk.lt htr1)).trans htr1.c0
   have hB1 := hB.kp hk1 HNO.out
   have hsz1 := hk1.size
   have HY := hid (⟨hO1, hk1, hB1, htr1, hbA, hsz1, Blk.new W1 292 #[.bool n2.leaf, .slice a2 n2.l.length c2]⟩ : _ ∧ _ ∧ _ ∧ _ ∧ _ ∧ _ ∧ _)
   clear hnd2 hK2 hT2 hpot2 hKp hB hsz hO1 hk1 hp1 htr1 hbA hB1 hsz1 c0 b0 b1 f0 f1 m2 hltB
   go_wp2_with fail
   (with_reducible refine HD.out.mono ?_)
   rintro e W2 ⟨rfl, hk2, hp2⟩
   obtain ⟨hnd2, hK2, hT2, hpot2, hKp, hB, hsz⟩ := HX.out
   obtain ⟨hO1, hk1, hB1, htr1, hbA, hsz1, hN1⟩ := HY.out
   have hno1 : W1.heap.size ∉ O := fun h => by have := HLT.out _ h; omega
   have hN2 := hN1.kp hk2 hno1
   have hlt1 : w.heap.size < W1.heap.size := hB1.lt
   have hB2 := (hB1.below hbA hlt1).kp hk2 HNO.out
   have e0 : W2.cell? ⟨W1.heap.size, 0, none⟩ = some (.bool n2.leaf) := hN2.cell 0
   have e1 : W2.cell? ⟨W1.heap.size, 1, none⟩ = some (.slice a2 n2.l.length c2) := hN2.cell 1
   have b0 : W2.cell? ⟨w.heap.size, 0, none⟩ = some (.bool false) := hB2.cell 0
   have b1 : W2.cell? ⟨w.heap.size, 1, none⟩ = some (.slice (some ⟨g1, o1, none⟩) 1 c1) := hB2.cell 1
   have f0 := hB2.frozen 0
   have f1 := hB2.frozen 1
   have hltN := hN2.lt
   have hltB := hB2.lt
   have hB3 := (hB2.set_ 0 (.bool n2.leaf)).set_ 1 (.slice a2 n2.l.length c2)
   have hk02 : Kp O w W2 := ((hKp.trans hk1).trans (Kp.of_below hbA)).trans hk2
   have hk03 := (hk02.setCell (p := ⟨w.heap.size, 0, none⟩) (.inr (Nat.le_refl _)) (.bool n2.leaf)).setCell (p := ⟨w.heap.size, 1, none⟩) (.inr (Nat.le_refl _)) (.slice a2 n2.l.length c2)
   have hfar : ∀ b, b ≠ w.heap.size → ((W2.setCell ⟨w.heap.size, 0, none⟩ (.bool n2.leaf)).setCell ⟨w.heap.size, 1, none⟩ (.slice a2 n2.l.length c2)).heap[b]? = W2.heap[b]? := fun b hb => by
    rw [Below.heap_setCell _ ⟨w.heap.size, 1, none⟩ _ b hb, Below.heap_setCell _ ⟨w.heap.size, 0, none⟩ _ b hb]
   have hrow2 : W2.ownsRow wr.heap.size 299 3 (.slice a2 n2.l.length c2) n2.l.length (rowV enC n2.l) := row_of hO1 (fun b hb => by
    have h1 := hO1.lt b hb
    rw [hk2.block b (by have := hbA.size; omega) (fun h => by have := HLT.out b h; omega)]
    exact hbA.block b h1.2)
   have hE3 := EnI.of_own (row_of hrow2 (fun b hb => hfar b (by have := (hrow2.lt b hb).1; have := hB.lt; omega)))
   have HI3 : Hid (Blk ((W2.setCell ⟨w.heap.size, 0, none⟩ (.bool n2.leaf)).setCell ⟨w.heap.size, 1, none⟩ (.slice a2 n2.l.length c2)) w.heap.size 292 #[.bool n2.leaf, .slice a2 n2.l.length c2] ∧ EnI ((W2.setCell ⟨w.heap.size, 0, none⟩ (.bool n2.leaf)).setCell ⟨w.heap.size, 1, none⟩ (.slice a2 n2.l.length c2)) (.slice a2 n2.l.length c2) n2.l ∧ (∀ g, (Value.slice a2 n2.l.length c2).ownBlock = some g → g ∉ O) ∧ KSt (pg (pgs1.set q none)) d' 0 n2 [] E ps2 ∧ Turn (pg pgs) (pgsOf ps) (pg (pgs1.set q none)) (pgsOf ps2) ∧ (∀ p : Pot, p.sum ps2 ≤ p.sum ps) ∧ PoI ((W2.setCell ⟨w.heap.size, 0, none⟩ (.bool n2.leaf)).setCell ⟨w.heap.size, 1, none⟩ (.slice a2 n2.l.length c2)) P O (pgs1.set q none) ∧ Kp O w ((W2.setCell ⟨w.heap.size, 0, none⟩ (.bool n2.leaf)).setCell ⟨w.heap.size, 1, none⟩ (.slice a2 n2.l.length c2))) := by
    refine hid ⟨hB3, hE3, fun g hg h => ?_, ?_, ?_, hpot2, hp2.of_blocks (fun b hb => hfar b (fun e => HNO.out (e ▸ hb))), hk03⟩
    ·have := (hrow2.lt g hg).1
     have := HLT.out g h
     omega
    ·rw [pg_set (pg_lt hnd2.1)]; exact hK2
    ·rw [pg_set (pg_lt hnd2.1)]; exact hT2
   clear hnd2 hK2 hT2 hpot2 hKp hB hsz hO1 hk1 hp2 htr1 hbA hB1 hsz1 hk2 hN1 hno1 hN2 hlt1 hB2 hB3 hk02 hk03 hfar hrow2 hE3
   go_wp2
   go_roundg d'
   case measure => omega
   case rel => exact ⟨d', n2, _, _, ps2, Nat.le_refl _, by omega, HI3⟩
  ·have h00 := hK.al
   obtain ⟨b00, hb00⟩ := h00
   by_cases hnil : l = []
   ·-- nothing is left
    subst hnil
    obtain ⟨_, ps2, hK2⟩ := hK.bare rfl
    have hbA : Below wr.heap.size wr wr := Below.refl _ _
    have hfin := hK2.after hT hpot hdd
    have hB3 := (hB.set_ 0 (.bool true)).set_ 1 (.slice none 0 0)
    have hfar : ∀ b, b ≠ w.heap.size → ((wr.setCell ⟨w.heap.size, 0, none⟩ (.bool true)).setCell ⟨w.heap.size, 1, none⟩ (.slice none 0 0)).heap[b]? = wr.heap[b]? := fun b hb => by
     rw [Below.heap_setCell _ ⟨w.heap.size, 1, none⟩ _ b hb, Below.heap_setCell _ ⟨w.heap.size, 0, none⟩ _ b hb]
    have htr3 : TrI ((wr.setCell ⟨w.heap.size, 0, none⟩ (.bool true)).setCell ⟨w.heap.size, 1, none⟩ (.slice none 0 0)) P tb := (hfar tb (by omega)).trans htr
    have hp3 := hP.of_blocks (w' := (wr.setCell ⟨w.heap.size, 0, none⟩ (.bool true)).setCell ⟨w.heap.size, 1, none⟩ (.slice none 0 0)) (fun b hb => hfar b (fun e => HNO.out (e ▸ hb)))
    have hk3 := (hKp.setCell (p := ⟨w.heap.size, 0, none⟩) (.inr (Nat.le_refl _)) (.bool true)).setCell (p := ⟨w.heap.size, 1, none⟩) (.inr (Nat.le_refl _)) (.slice none 0 0)
    have hWF := write_fits (n := ⟨true, []⟩) (v := .slice none 0 0) (q := 0) htr3 hp3 (pg_some.1 hb00) ⟨by simp [strip], List.Pairwise.nil⟩ ⟨none, 0, rfl, by simp, fun _ _ e => (by cases e), fun e => absurd rfl e⟩ (by simp) (by simp [strip])
    unfold ndV at hWF
    rw [show ((0 : Nat) : Int) = 0 from rfl] at hWF
    have HWF := hid hWF
    have HF := hid (⟨hfin, hk3, pg_set (v := some (pgOf (strip ⟨true, []⟩))) (pg_lt hb00)⟩ : _ ∧ _ ∧ _)
    have d0 : ((wr.setCell ⟨w.heap.size, 0, none⟩ (.bool true)).setCell ⟨w.heap.size, 1, none⟩ (.slice none 0 0)).cell? ⟨w.heap.size, 0, none⟩ = some (.bool true) := by rw [hB3.cell]; rfl
    have d1 : ((wr.setCell ⟨w.heap.size, 0, none⟩ (.bool true)).setCell ⟨w.heap.size, 1, none⟩ (.slice none 0 0)).cell? ⟨w.heap.size, 1, none⟩ = some (.slice none 0 0) := by rw [hB3.cell]; rfl
    clear hB hE hE2 hK hT hpot hP hKp htr hbA hfin hB3 hfar htr3 hp3 hk3 hWF hK2 hb00 hone
    cases lf
    ·go_wp2_with fail
     (with_reducible refine HWF.out.mono ?_)
     rintro e W5 ⟨rfl, hk5, hp5⟩
     have H5 := hid (⟨hk5, hp5⟩ : _ ∧ _)
     clear hk5 hp5
     go_wp2
     go_ret
     obtain ⟨hk5, hp5⟩ := H5.out
     obtain ⟨h1, h2, h3⟩ := HF.out
     exact ⟨_, 0, ps2, rfl, hp5, by rw [h3]; exact h1, h2.trans hk5⟩
    ·go_wp2_with fail
     (with_reducible refine HWF.out.mono ?_)
     rintro e W5 ⟨rfl, hk5, hp5⟩
     have H5 := hid (⟨hk5, hp5⟩ : _ ∧ _)
     clear hk5 hp5
     go_wp2
     go_ret
     obtain ⟨hk5, hp5⟩ := H5.out
     obtain ⟨h1, h2, h3⟩ := HF.out
     exact ⟨_, 0, ps2, rfl, hp5, by rw [h3]; exact h1, h2.trans hk5⟩
   ·-- it is written
    obtain ⟨hmy, hnb, ps2, hK2⟩ := hK.write (.inl hnil)
    have hfin := hK2.after hT hpot (Nat.le_trans (by simp) hdd)
    have hWF := write_fits (n := ⟨lf, l⟩) (q := 0) htr hP (pg_some.1 hb00) hmy hE (by simp only; omega) hnb
    unfold ndV at hWF
    rw [show ((0 : Nat) : Int) = 0 from rfl] at hWF
    have HWF := hid hWF
    have HF := hid (⟨hfin, hKp, pg_set (v := some (pgOf (strip ⟨lf, l⟩))) (pg_lt hb00)⟩ : _ ∧ _ ∧ _)
    have hne0 : ¬ l.length = 0 := fun e => hnil (List.eq_nil_of_length_eq_zero e)
    have hzi : ((l.length : Int) == 0) = false := by simp; omega
    clear hB hE hE2 hK hT hpot hP hKp htr hfin hWF hK2 hb00 hmy hnb hnil
    cases lf
    ·have h1i : ((l.length : Int) == 1) = false := by
      have : ¬ l.length = 1 := fun e => hone ⟨rfl, e⟩
      simp
      omega
     have h1n : ¬ l.length = 1 := fun e => hone ⟨rfl, e⟩
     clear hone
     go_wp2_with fail
     (with_reducible refine HWF.out.mono ?_)
     rintro e W5 ⟨rfl, hk5, hp5⟩
     have H5 := hid (⟨hk5, hp5⟩ : _ ∧ _)
     clear hk5 hp5
     go_wp2
     go_ret
     obtain ⟨hk5, hp5⟩ := H5.out
     obtain ⟨h1, h2, h3⟩ := HF.out
     exact ⟨_, _, ps2, rfl, hp5, by rw [h3]; exact h1, h2.trans hk5⟩
    ·clear hone
     go_wp2_with fail
     (with_reducible refine HWF.out.mono ?_)
     rintro e W5 ⟨rfl, hk5, hp5⟩
     have H5 := hid (⟨hk5, hp5⟩ : _ ∧ _)
     clear hk5 hp5
     go_wp2
     go_ret
     obtain ⟨hk5, hp5⟩ := H5.out
     obtain ⟨h1, h2, h3⟩ := HF.out
     exact ⟨_, _, ps2, rfl, hp5, by rw [h3]; exact h1, h2.trans hk5⟩
end
end
section
theorem erase_eq {α : Type} (l : List α) (i : Nat) : l.eraseIdx i = l.take i ++ l.drop (i + 1) := List.eraseIdx_eq_take_drop_succ l i
theorem split_at {es : List En} {i : Nat} {x : En} (h : es[i]? = some x) : es = es.take i ++ x :: es.drop (i + 1) := by
 have hlt := (List.getElem?_eq_some_iff.1 h).1
 conv => lhs; rw [← List.take_append_drop i es]
 rw [List.drop_eq_getElem_cons hlt, (List.getElem?_eq_some_iff.1 h).2]
def awayM (m : Mp) (x : En) : Mp := if x.far < 0 then m else upd m x.far.toNat none
section
variable {m : Mp} {q N : Nat} {up : List Fm} {pre es post : List En} {psc : List PN}
theorem HoI.away (h : HoI m q up pre es post psc N) {a b : List En} {x : En} (he : es = a ++ x :: b) :
  HoI (awayM m x) q up pre (a ++ b) post psc N ∧ ∀ r ∈ fars (pre ++ (a ++ b) ++ post), awayM m x r = m r := by
 unfold awayM
 by_cases hf : x.far < 0
 ·rw [if_pos hf]
  exact ⟨h.less he hf, fun _ _ => rfl⟩
 ·rw [if_neg hf]
  refine ⟨h.lessC he (by omega), fun r hr => upd_ne _ _ (fun e => ?_)⟩
  subst he e
  have h0 : 0 ≤ x.far := by omega
  have hn := h.nd
  rw [nodup_app] at hn
  have h2 := (fars_perm (perm_mid pre a b post x)).nodup_iff.1 hn.2.1
  rw [fars_cons_pos h0, List.nodup_cons] at h2
  exact h2.1 hr
def Laid (m : Mp) (k v : Bs) (x : En) (m2 : Mp) : Prop :=
 (v.length ≤ 40 ∧ x = ⟨k, v, -1⟩ ∧ m2 = m) ∨ (40 < v.length ∧ ∃ p : Nat, x = ⟨k, [], p⟩ ∧ m p = none ∧ p < 512 ∧ m2 = upd m p (some (chB v)))
theorem Laid.kv {m m2 : Mp} {k v : Bs} {x : En} (h : Laid m k v x m2) (hv : v.length ≤ 228) : kvOf m2 x = (k, v) := by
 rcases h with ⟨_, rfl, rfl⟩ | ⟨_, p, rfl, _, _, rfl⟩
 ·simp [kvOf]
 ·have : ¬ ((p : Int) < 0) := by omega
  simp only [kvOf, if_neg this, Int.toNat_natCast, upd_same, Option.getD_some, unCh_chB hv]
theorem Laid.right {m m2 : Mp} {k v : Bs} {x : En} (h : Laid m k v x m2) (hk : k.length ≤ 32) : rightE true x ∧ x.key = k := by
 rcases h with ⟨h1, rfl, rfl⟩ | ⟨_, p, rfl, _, h2, rfl⟩
 ·refine ⟨⟨hk, h1, ?_, ?_, .inl ?_⟩, rfl⟩ <;> simp
 ·refine ⟨⟨hk, by simp, ?_, ?_, .inr rfl⟩, rfl⟩
  ·simp
   try omega
  ·simp
   try omega
theorem HoI.put (h : HoI m q up pre es post psc N) {m2 : Mp} {k v : Bs} {x : En} {a b : List En} (he : es = a ++ b) (hl : Laid m k v x m2) (hk : k.length ≤ 32) (hv : v.length ≤ 228) (ha : ∀ y ∈ a, y.key < k) (hb : ∀ y ∈ b, k < y.key) (hin : InB up k) :
  HoI m2 q up pre (a ++ x :: b) post psc N ∧ ∀ r ∈ fars (pre ++ (a ++ b) ++ post), m2 r = m r := by
 obtain ⟨hr, hxk⟩ := hl.right hk
 rcases hl with ⟨h1, rfl, rfl⟩ | ⟨h0, p, rfl, h1, h2, rfl⟩
 ·exact ⟨h.more he (by simp) hr ha hb hin, fun _ _ => rfl⟩
 ·refine ⟨h.moreC (x := ⟨k, [], p⟩) (v := v) he (by simp) (by simpa using h1) h0 hv hr ha hb hin, fun r hr' => upd_ne _ _ (fun e => ?_)⟩
  subst he
  obtain ⟨y, hy, h3, h4⟩ := mem_fars.1 hr'
  obtain ⟨_, _, _, h5⟩ := h.ch y hy h3
  rw [h4, e, h1] at h5
  cases h5
end
theorem fars_sub {a b : List En} (h : ∀ x ∈ a, x ∈ b) {r : Nat} (hr : r ∈ fars a) : r ∈ fars b := by
 obtain ⟨x, hx, h0, e⟩ := mem_fars.1 hr
 exact mem_fars.2 ⟨x, h x hx, h0, e⟩
theorem kvs_parts {m : Mp} {E pre es post : List En} {k : Bs} {is : Bool} (he : E = pre ++ es ++ post) (h1 : ∀ x ∈ pre, x.key < k) (h2 : ∀ x ∈ post, k < x.key) (ha : Asc es) (his : is = true ↔ hasK k es) :
  (kvs m E).filter (fun a => decide (a.1 < k)) = kvs m (pre ++ es.take (cnt k es)) ∧ (kvs m E).filter (fun a => decide (k < a.1)) = kvs m (es.drop (cntE k es is) ++ post) := by
 have e1 := kvs_filter m E (fun y => decide (y < k))
 have e2 := kvs_filter m E (fun y => decide (k < y))
 rw [part_lt he h1 h2 ha] at e1
 rw [part_gt he h1 h2 ha his] at e2
 exact ⟨e1.symm, e2.symm⟩
theorem kvs_set {m m2 m' : Mp} {E pre es post : List En} {k v : Bs} {is : Bool} {x : En} (he : E = pre ++ es ++ post) (h1 : ∀ x ∈ pre, x.key < k) (h2 : ∀ x ∈ post, k < x.key) (ha : Asc es) (his : is = true ↔ hasK k es)
  (g1 : ∀ r ∈ fars (pre ++ (es.take (cnt k es) ++ es.drop (cntE k es is)) ++ post), m2 r = m r)
  (g2 : ∀ r ∈ fars (pre ++ (es.take (cnt k es) ++ x :: es.drop (cntE k es is)) ++ post), m' r = m2 r) (hx : kvOf m2 x = (k, v)) :
  kvs m' (pre ++ (es.take (cnt k es) ++ x :: es.drop (cntE k es is)) ++ post) = setM (kvs m E) k v := by
 obtain ⟨e1, e2⟩ := kvs_parts (m := m) he h1 h2 ha his
 unfold setM
 rw [e1, e2]
 rw [kvs_congr g2]
 have e3 : pre ++ (es.take (cnt k es) ++ x :: es.drop (cntE k es is)) ++ post = (pre ++ es.take (cnt k es)) ++ x :: (es.drop (cntE k es is) ++ post) := by simp
 rw [e3, kvs_append, kvs_cons, hx]
 rw [kvs_congr (m := m) (m' := m2) (E := pre ++ es.take (cnt k es)) (fun r hr => g1 r (fars_sub (fun y hy => by
  simp only [List.mem_append] at hy ⊢
  rcases hy with hy | hy
  ·exact .inl (.inl hy)
  ·exact .inl (.inr (.inl hy))) hr))]
 rw [kvs_congr (m := m) (m' := m2) (E := es.drop (cntE k es is) ++ post) (fun r hr => g1 r (fars_sub (fun y hy => by
  simp only [List.mem_append] at hy ⊢
  rcases hy with hy | hy
  ·exact .inl (.inr (.inr hy))
  ·exact .inr hy) hr))]
theorem kvs_del {m m' : Mp} {E pre es post : List En} {k : Bs} {is : Bool} (he : E = pre ++ es ++ post) (h1 : ∀ x ∈ pre, x.key < k) (h2 : ∀ x ∈ post, k < x.key) (hE : Asc E) (ha : Asc es) (his : is = true ↔ hasK k es)
  (g1 : ∀ r ∈ fars (pre ++ (es.take (cnt k es) ++ es.drop (cntE k es is)) ++ post), m' r = m r) :
  kvs m' (pre ++ (es.take (cnt k es) ++ es.drop (cntE k es is)) ++ post) = delM (kvs m E) k := by
 obtain ⟨e1, e2⟩ := kvs_parts (m := m) he h1 h2 ha his
 rw [delM_eq (kvs_asc hE), e1, e2, kvs_congr g1, ← kvs_append]
 congr 1
 simp
def longs (M : List KV) : Nat := M.countP fun a => decide (40 < a.2.length)
theorem longs_kvs {m : Mp} {E : List En} (hr : ∀ x ∈ E, rightE true x) (hc : ∀ x ∈ E, ChAt m x) : longs (kvs m E) = (fars E).length := by
 unfold longs kvs
 induction E with
 | nil => rfl
 | cons x t ih =>
  have ih := ih (fun y hy => hr y (by simp [hy])) (fun y hy => hc y (by simp [hy]))
  rw [List.map_cons, List.countP_cons, ih]
  by_cases h : x.far < 0
  ·have h1 : ¬ 40 < (kvOf m x).2.length := by
    have := (hr x (by simp)).2.1
    simp only [kvOf, if_pos h]
    omega
   rw [fars_cons_neg h, if_neg (by simpa using h1), Nat.add_zero]
  ·obtain ⟨v, hv1, hv2, hv3⟩ := hc x (by simp) (by omega)
   have h1 : 40 < (kvOf m x).2.length := by
    simp only [kvOf, if_neg h, hv3, Option.getD_some, unCh_chB hv2]
    exact hv1
   rw [fars_cons_pos (by omega), if_pos (by simpa using h1), List.length_cons]
theorem MapI.roomM {pgs : List (Option Bs)} {D N : Nat} {E : List En} {ps : List PN} (h : MapI (pg pgs) D E ps N) (hr : Roomy N (kvs (pg pgs) E).length (longs (kvs (pg pgs) E))) : somes pgs + D + 3 ≤ 300 ∧ D ≤ 9 := by
 refine h.room ?_ ?_ hr
 ·simp [kvs]
 ·rw [longs_kvs h.rep.right h.ch]
  exact Nat.le_refl _
end
end Go.Proofs.YtnnghcooidjlhaaGreat
