/- Parts of the proof: Gd Ge Gf. -/
import Derived.Deep.QuietTactic
import Derived.BigQuiet
import Derived.StillTailTactics
import Derived.Test.YtnnghcooidjlhaaGreatD14
set_option linter.all false
set_option maxRecDepth 100000
namespace Go.Proofs.YtnnghcooidjlhaaGreat
section
open Go.RowKit Go.Lib
abbrev putR (n : Nd) : Value := ofR (recs n)
theorem recs_get {n : Nd} {i : Nat} {x : En} (hx : n.l[i]? = some x) : (recs n).take (i + 1) ++ [encE x] = (recs n).take (i + 2) := by
 have h : (recs n)[i + 1]? = some (encE x) := by simp [recs, hx]
 obtain ⟨h1, h2⟩ := List.getElem?_eq_some_iff.1 h
 rw [List.take_succ_eq_append_getElem (i := i + 1) h1, h2]
theorem recs_length (n : Nd) : (recs n).length = n.l.length + 1 := by simp [recs]
theorem recs_pos {n : Nd} (h : mayN n) : ∀ r ∈ recs n, 0 < r.length ∧ r.length ≤ 1000000 := by
 intro r hr
 rcases List.mem_cons.1 hr with rfl | hr
 ·rw [kindB_length]; omega
 ·obtain ⟨x, hx, rfl⟩ := List.mem_map.1 hr
  have := rightE_enB (h.1 x hx)
  rw [encE_length]
  unfold enB at this
  omega
set_option maxHeartbeats 2000000 in
theorem nput_any {w : World} {n : Nd} {v : Value} (h : mayN n) (hv : EnI w v n.l) (hn : n.l.length ≤ 900) :
  Calls Tryz.prog 184 #[ndV n.leaf v] w fun e w' => e = .returned (putR n) ∧ Below w.heap.size w w' := by
 have HMY := hid (fun (W : World) (hW : Below w.heap.size w W) => may_any (w := W) h (hv.below hW) (by omega))
 obtain ⟨ao, c, rfl⟩ := hv.slice
 have H := hid h
 have HV := hid hv
 clear h hv
 unfold ndV at HMY ⊢
 obtain ⟨lf, l⟩ := n
 simp only at HMY HV hn ⊢
 cases lf with
 | true =>
  go_enter Tryz.func184, Tryz.ntmps184
  go_wp2_with (go_at_call 213; (with_reducible refine (HMY.out _ ((Below.refl _ w).alloc (Nat.le_refl _) _)).mono ?_); rintro e W1 ⟨rfl, hb1⟩; have hN1 : Blk W1 w.heap.size 292 #[.bool true, .slice ao l.length c] := (Blk.new w _ _).below hb1 (by simp); have n0 : W1.cell? ⟨w.heap.size, 0, none⟩ = some (.bool true) := hN1.cell 0; have n1 : W1.cell? ⟨w.heap.size, 1, none⟩ = some (.slice ao l.length c) := hN1.cell 1; have hlt1 := hN1.lt; have HB1 : Hid (Below w.heap.size w W1) := hid (((Below.refl _ w).alloc (Nat.le_refl _) _).trans (hb1.mono (by simp))); clear hb1 hN1)
  go_loopg [20] l.length (fun gg s20 wr => ∃ (i : Nat) (v' : Value), i ≤ l.length ∧ l.length - i ≤ gg ∧ s20 = .int .i64 i ∧ Hid (Below w.heap.size w wr) ∧ Hid (Blk wr (W1.heap.size + 1) 36 #[v']) ∧ Hid (wr.ownsRow W1.heap.size 9 1 v' (i + 1) (sC ((recs ⟨true, l⟩).take (i + 1)))) ∧ Hid (v'.ownBlock ≠ some (W1.heap.size + 1)))
  case atStart =>
   have hbA : Below w.heap.size w ((W1.alloc (.cells #[.string (S (kindB true))] 9)).alloc (.cells #[.slice (some ⟨W1.heap.size, 0, none⟩) 1 1] 36)) := (HB1.out.alloc HB1.out.size _).alloc (by have := HB1.out.size; simp; omega) _
   have hz : (W1.alloc (.cells #[.string (S (kindB true))] 9)).heap.size = W1.heap.size + 1 := by simp
   have hbk := Blk.new (W1.alloc (.cells #[.string (S (kindB true))] 9)) 36 #[.slice (some ⟨W1.heap.size, 0, none⟩) 1 1]
   rw [hz] at hbk
   refine ⟨0, .slice (some ⟨W1.heap.size, 0, none⟩) 1 1, Nat.zero_le _, by omega, rfl, hid hbA, hid hbk, hid ?_, hid (by simp [Value.ownBlock])⟩
   have := (World.ownsRow_lit (base := W1.heap.size) (e := 9) (size := 1) W1 #[.string (S (kindB true))] 1 (Nat.le_refl _) (by unfold maxLen; omega) rfl)
   exact this.alloc _
  case round =>
   obtain ⟨i, v', hi, hgg, rfl, hB, hK, hO, hV⟩ := hrel
   by_cases hlt : i < l.length
   ·obtain ⟨g, o, c', e, hc', hg, hE⟩ := HV.out.form (by intro e; rw [e] at hlt; simp at hlt)
    injection e with e1 e2 e3
    subst e1 e3
    obtain ⟨x, hx⟩ : ∃ x, l[i]? = some x := ⟨_, List.getElem?_eq_getElem hlt⟩
    obtain ⟨a0, a1, a2⟩ := hE i x hx
    have l0 := (hB.out.cell (p := ⟨g, o + i * 3, none⟩) hg).trans a0
    have l1 := (hB.out.cell (p := ⟨g, o + i * 3 + 1, none⟩) hg).trans a1
    have l2 := (hB.out.cell (p := ⟨g, o + i * 3 + 2, none⟩) hg).trans a2
    have hltz : (i : Int) < (l.length : Int) := by omega
    have hgw : g < wr.heap.size := Nat.lt_of_lt_of_le hg hB.out.size
    have hsz := HB1.out.size
    have hsk := hK.out.lt
    obtain ⟨wo, hwo⟩ : ∃ wo, wo = wr := ⟨_, rfl⟩
    subst hwo
    have HP := hid (putE_any (w := wo.alloc (.cells #[.string (S x.key), .string (S x.val), .int .i64 x.far] 299)) (B := W1.heap.size) (g0 := W1.heap.size + 1) (n := i + 1) (v := v') (rs := (recs ⟨true, l⟩).take (i + 1)) x (Or.inl (H.out.1 x (List.mem_of_getElem? hx))) (hK.out.alloc _) (hO.out.alloc _) (by omega) hV.out (by omega))
    rw [recs_get hx] at HP
    clear a0 a1 a2 hE hx
    go_wp2_with (go_at_call 214; with_reducible refine HP.out.mono ?_; rintro e W4 ⟨rfl, hb4, v4, hk4, ho4, hv4⟩)
    go_roundg (l.length - (i + 1))
    case measure => omega
    case rel => exact ⟨i + 1, v4, by omega, by omega, by go_num, hid ((hB.out.alloc hB.out.size _).trans (hb4.mono hsz)), hid hk4, hid ho4, hid hv4⟩
   ·have : i = l.length := by omega
    subst this
    obtain ⟨q, c4, rfl, hq1, hq2, hq3⟩ := own_form hO.out (by omega)
    have k0 : wr.cell? ⟨W1.heap.size + 1, 0, none⟩ = some (.slice (some ⟨q, 0, none⟩) (l.length + 1) c4) := hK.out.cell 0
    have hln := recs_length ⟨true, l⟩
    have htk : (recs ⟨true, l⟩).take (l.length + 1) = recs ⟨true, l⟩ := List.take_of_length_le (by rw [hln]; exact Nat.le_refl _)
    have hO2 := hO.out
    rw [htk] at hO2
    have HOF := of_any (w := wr) (g := q) (c := c4) (l := recs ⟨true, l⟩) hq2 (fun j r hr => own_at hO2 rfl (j := j) (by simp [sC, hr])) (recs_pos H.out) (by rw [hln]; exact hq3) (by rw [hln]; exact (Nat.le_trans (Nat.add_le_add_right hn 1) (by omega)))
    rw [hln] at HOF
    have HOF := hid HOF
    clear hO2 htk hln
    go_wp2_with (go_at_call 215; with_reducible refine HOF.out.mono ?_; rintro e W5 ⟨rfl, hb5⟩)
    go_ret2
    exact ⟨rfl, hB.out.trans (hb5.mono hB.out.size)⟩
 | false =>
  go_enter Tryz.func184, Tryz.ntmps184
  go_wp2_with (go_at_call 213; (with_reducible refine (HMY.out _ ((Below.refl _ w).alloc (Nat.le_refl _) _)).mono ?_); rintro e W1 ⟨rfl, hb1⟩; have hN1 : Blk W1 w.heap.size 292 #[.bool false, .slice ao l.length c] := (Blk.new w _ _).below hb1 (by simp); have n0 : W1.cell? ⟨w.heap.size, 0, none⟩ = some (.bool false) := hN1.cell 0; have n1 : W1.cell? ⟨w.heap.size, 1, none⟩ = some (.slice ao l.length c) := hN1.cell 1; have hlt1 := hN1.lt; have HB1 : Hid (Below w.heap.size w W1) := hid (((Below.refl _ w).alloc (Nat.le_refl _) _).trans (hb1.mono (by simp))); clear hb1 hN1)
  go_loopg [20] l.length (fun gg s20 wr => ∃ (i : Nat) (v' : Value), i ≤ l.length ∧ l.length - i ≤ gg ∧ s20 = .int .i64 i ∧ Hid (Below w.heap.size w wr) ∧ Hid (Blk wr (W1.heap.size + 1) 36 #[v']) ∧ Hid (wr.ownsRow W1.heap.size 9 1 v' (i + 1) (sC ((recs ⟨false, l⟩).take (i + 1)))) ∧ Hid (v'.ownBlock ≠ some (W1.heap.size + 1)))
  case atStart =>
   have hbA : Below w.heap.size w ((W1.alloc (.cells #[.string (S (kindB false))] 9)).alloc (.cells #[.slice (some ⟨W1.heap.size, 0, none⟩) 1 1] 36)) := (HB1.out.alloc HB1.out.size _).alloc (by have := HB1.out.size; simp; omega) _
   have hz : (W1.alloc (.cells #[.string (S (kindB false))] 9)).heap.size = W1.heap.size + 1 := by simp
   have hbk := Blk.new (W1.alloc (.cells #[.string (S (kindB false))] 9)) 36 #[.slice (some ⟨W1.heap.size, 0, none⟩) 1 1]
   rw [hz] at hbk
   refine ⟨0, .slice (some ⟨W1.heap.size, 0, none⟩) 1 1, Nat.zero_le _, by omega, rfl, hid hbA, hid hbk, hid ?_, hid (by simp [Value.ownBlock])⟩
   have := (World.ownsRow_lit (base := W1.heap.size) (e := 9) (size := 1) W1 #[.string (S (kindB false))] 1 (Nat.le_refl _) (by unfold maxLen; omega) rfl)
   exact this.alloc _
  case round =>
   obtain ⟨i, v', hi, hgg, rfl, hB, hK, hO, hV⟩ := hrel
   by_cases hlt : i < l.length
   ·obtain ⟨g, o, c', e, hc', hg, hE⟩ := HV.out.form (by intro e; rw [e] at hlt; simp at hlt)
    injection e with e1 e2 e3
    subst e1 e3
    obtain ⟨x, hx⟩ : ∃ x, l[i]? = some x := ⟨_, List.getElem?_eq_getElem hlt⟩
    obtain ⟨a0, a1, a2⟩ := hE i x hx
    have l0 := (hB.out.cell (p := ⟨g, o + i * 3, none⟩) hg).trans a0
    have l1 := (hB.out.cell (p := ⟨g, o + i * 3 + 1, none⟩) hg).trans a1
    have l2 := (hB.out.cell (p := ⟨g, o + i * 3 + 2, none⟩) hg).trans a2
    have hltz : (i : Int) < (l.length : Int) := by omega
    have hgw : g < wr.heap.size := Nat.lt_of_lt_of_le hg hB.out.size
    have hsz := HB1.out.size
    have hsk := hK.out.lt
    obtain ⟨wo, hwo⟩ : ∃ wo, wo = wr := ⟨_, rfl⟩
    subst hwo
    have HP := hid (putE_any (w := wo.alloc (.cells #[.string (S x.key), .string (S x.val), .int .i64 x.far] 299)) (B := W1.heap.size) (g0 := W1.heap.size + 1) (n := i + 1) (v := v') (rs := (recs ⟨false, l⟩).take (i + 1)) x (Or.inr (H.out.1 x (List.mem_of_getElem? hx))) (hK.out.alloc _) (hO.out.alloc _) (by omega) hV.out (by omega))
    rw [recs_get hx] at HP
    clear a0 a1 a2 hE hx
    go_wp2_with (go_at_call 214; with_reducible refine HP.out.mono ?_; rintro e W4 ⟨rfl, hb4, v4, hk4, ho4, hv4⟩)
    go_roundg (l.length - (i + 1))
    case measure => omega
    case rel => exact ⟨i + 1, v4, by omega, by omega, by go_num, hid ((hB.out.alloc hB.out.size _).trans (hb4.mono hsz)), hid hk4, hid ho4, hid hv4⟩
   ·have : i = l.length := by omega
    subst this
    obtain ⟨q, c4, rfl, hq1, hq2, hq3⟩ := own_form hO.out (by omega)
    have k0 : wr.cell? ⟨W1.heap.size + 1, 0, none⟩ = some (.slice (some ⟨q, 0, none⟩) (l.length + 1) c4) := hK.out.cell 0
    have hln := recs_length ⟨false, l⟩
    have htk : (recs ⟨false, l⟩).take (l.length + 1) = recs ⟨false, l⟩ := List.take_of_length_le (by rw [hln]; exact Nat.le_refl _)
    have hO2 := hO.out
    rw [htk] at hO2
    have HOF := of_any (w := wr) (g := q) (c := c4) (l := recs ⟨false, l⟩) hq2 (fun j r hr => own_at hO2 rfl (j := j) (by simp [sC, hr])) (recs_pos H.out) (by rw [hln]; exact hq3) (by rw [hln]; exact (Nat.le_trans (Nat.add_le_add_right hn 1) (by omega)))
    rw [hln] at HOF
    have HOF := hid HOF
    clear hO2 htk hln
    go_wp2_with (go_at_call 215; with_reducible refine HOF.out.mono ?_; rintro e W5 ⟨rfl, hb5⟩)
    go_ret2
    exact ⟨rfl, hB.out.trans (hb5.mono hB.out.size)⟩
end
section
open Go.RowKit Go.Lib
set_option maxHeartbeats 1000000 in
theorem entry_any (w : World) (x : En) (hx : rightE true x ∨ rightE false x) :
  Calls Tryz.prog 246 #[.string (S (encE x))] w fun e w' => e = .returned (.tuple #[.agg (enC x).toArray, .bool true]) ∧ Below w.heap.size w w' := by
 have hk : x.key.length ≤ 32 := by rcases hx with h | h <;> exact h.1
 have hvl : x.val.length ≤ 40 := by rcases hx with h | h <;> exact h.2.1
 have hfar : -1 ≤ x.far ∧ x.far < 512 := by
  rcases hx with h | h
  ·have h1 := h.2.2.1; have h2 := h.2.2.2.1; simp at h1; omega
  ·have := rightE_inner h; omega
 obtain ⟨f, hf, hf2⟩ : ∃ f : Nat, x.far + 1 = (f : Int) ∧ f < 65536 := ⟨(x.far + 1).toNat, by omega, by omega⟩
 obtain ⟨L, hL⟩ : ∃ L, L = encE x := ⟨_, rfl⟩
 have e1 : L = UInt8.ofNat x.key.length :: (x.key ++ (UInt8.ofNat (f / 256) :: UInt8.ofNat f :: x.val)) := by rw [hL]; unfold encE; rw [hf]; simp [two]
 have g0 : L.getD 0 0 = UInt8.ofNat x.key.length := by rw [e1]; rfl
 have g1 : L[x.key.length + 1]? = some (UInt8.ofNat (f / 256)) := by rw [e1]; simp
 have g2 : L[x.key.length + 1 + 1]? = some (UInt8.ofNat f) := by rw [e1]; simp [List.getElem?_append_right]
 have hlen : L.length = x.key.length + x.val.length + 3 := by rw [hL, encE_length]
 have d1 : (L.drop 1).take x.key.length = x.key := by rw [e1]; simp
 have d2 : L.drop (x.key.length + 3) = x.val := by
  have : L = (UInt8.ofNat x.key.length :: x.key ++ [UInt8.ofNat (f / 256), UInt8.ofNat f]) ++ x.val := by rw [e1]; simp
  rw [this, List.drop_append_of_le_length (by simp), List.drop_of_length_le (by simp)]
  rfl
 rw [← hL]
 have HD := hid (⟨d1, d2, hf⟩ : (L.drop 1).take x.key.length = x.key ∧ L.drop (x.key.length + 3) = x.val ∧ x.far + 1 = (f : Int))
 have hne : (L == []) = false := by rw [e1]; rfl
 have HX := hid hx
 generalize hkl : x.key.length = k at *
 have k0 : (UInt8.ofNat k).toNat = k := by simp; omega
 have u0 : ((L.getD 0 0).toNat : Int) = (k : Int) := by rw [g0, k0]
 obtain ⟨u, hu⟩ : ∃ u : UInt8, u = UInt8.ofNat k := ⟨_, rfl⟩
 have hun : u.toNat = k := by rw [hu, k0]
 have z1 : ∀ h, L[0]'h = u := fun h => by
  have := g0
  simp only [List.getD, List.getElem?_eq_getElem h, Option.getD_some] at this
  rw [this, hu]
 have z2 : ∀ h, (S L)[0]'h = u := fun h => by
  have h2 : 0 < L.length := by omega
  show L.toArray[0] = _
  simp only [List.getElem_toArray]
  exact z1 h2
 have i1 : (0 : Int) ≤ (k : Int) + 1 := by omega
 have i2 : (k : Int) + 1 < (k : Int) + (x.val.length : Int) + 3 := by omega
 have i3 : (k : Int) + 1 + 1 < (k : Int) + (x.val.length : Int) + 3 := by omega
 have i4 : (0 : Int) ≤ (k : Int) + 1 + 1 := by omega
 have j1 : ((k : Int) + 1).toNat = k + 1 := by omega
 have j2 : ((k : Int) + 1 + 1).toNat = k + 1 + 1 := by omega
 have i5 : (1 : Int) ≤ (k : Int) + 1 := by omega
 have i6 : (k : Int) + 1 ≤ (k : Int) + (x.val.length : Int) + 3 := by omega
 have i7 : (0 : Int) ≤ (k : Int) + 1 + 2 := by omega
 have i8 : (k : Int) + 1 + 2 ≤ (k : Int) + (x.val.length : Int) + 3 := by omega
 have j3 : ((k : Int) + 1 + 2).toNat = k + 3 := by omega
 have w7 : IntKind.i64.wrap ((k : Int) + 1 + 2) = (k : Int) + 1 + 2 := by rw [IntKind.wrap_i64]; omega
 have w8 : IntKind.i64.wrap ((f : Int) - 1) = (f : Int) - 1 := by rw [IntKind.wrap_i64]; omega
 have w0 : IntKind.i64.wrap (k : Int) = (k : Int) := by rw [IntKind.wrap_i64]; omega
 have w1 : IntKind.i64.wrap (1 + (k : Int)) = (k : Int) + 1 := by rw [IntKind.wrap_i64]; omega
 have w2 : IntKind.i64.wrap (3 + (k : Int)) = (k : Int) + 3 := by rw [IntKind.wrap_i64]; omega
 have w3 : IntKind.i64.wrap ((k : Int) + 1 + 1) = (k : Int) + 1 + 1 := by rw [IntKind.wrap_i64]; omega
 obtain ⟨b1, hb1⟩ : ∃ b1, b1 = UInt8.ofNat (f / 256) := ⟨_, rfl⟩
 obtain ⟨b2, hb2⟩ : ∃ b2, b2 = UInt8.ofNat f := ⟨_, rfl⟩
 rw [← hb1] at g1
 rw [← hb2] at g2
 have hor : bits .or .i64 ((b1.toNat : Int) * 256) (b2.toNat : Int) = (f : Int) := by rw [or_two, hb1, hb2, un2_two hf2]
 have hb8 := b1.toNat_lt
 have hb9 := b2.toNat_lt
 have w4 : IntKind.i64.wrap (b1.toNat : Int) = (b1.toNat : Int) := by rw [IntKind.wrap_i64]; omega
 have w5 : IntKind.i64.wrap (b2.toNat : Int) = (b2.toNat : Int) := by rw [IntKind.wrap_i64]; omega
 have w6 : IntKind.i64.wrap ((b1.toNat : Int) * 256) = (b1.toNat : Int) * 256 := by rw [IntKind.wrap_i64]; omega
 clear hx e1 g0 d1 d2 hL k0 hu u0 hb1 hb2
 go_enter Tryz.func246, Tryz.ntmps246
 go_wp2
 go_quiet (fail)
 go_wp2
 go_still_tail 10, (by kernel_rfl)
 change wpList _ _ _ _ _ (World.drew ((w.alloc (.cells #[.string ⟨#[]⟩, .string ⟨#[]⟩, .int .i64 0] 299)).drewN nq))
 have hR := ((Blk.new w 299 #[.string ⟨#[]⟩, .string ⟨#[]⟩, .int .i64 0]).drewN nq).drew
 have hb : Below w.heap.size w (World.drew ((w.alloc (.cells #[.string ⟨#[]⟩, .string ⟨#[]⟩, .int .i64 0] 299)).drewN nq)) := below_drewN (below_drewN ((Below.refl _ w).alloc (Nat.le_refl _) _) nq) 1
 generalize (World.drew ((w.alloc (.cells #[.string ⟨#[]⟩, .string ⟨#[]⟩, .int .i64 0] 299)).drewN nq)) = V at hR hb ⊢
 have h1 : List.take k (List.tail L) = x.key := by rw [← List.drop_one]; exact HD.out.1
 have h2 : List.take x.val.length (List.drop (k + 3) L) = x.val := by rw [HD.out.2.1, List.take_length]
 have h3 : (f : Int) - 1 = x.far := by have := HD.out.2.2; omega
 rw [h1, h2, h3]
 clear h1 h2 h3 w0 w1 w2 w3 w4 w5 w6 w7 w8
 have r0 : V.cell? ⟨w.heap.size, 0, none⟩ = some (.string ⟨#[]⟩) := by rw [hR.cell]; rfl
 have r1 : V.cell? ⟨w.heap.size, 1, none⟩ = some (.string ⟨#[]⟩) := by rw [hR.cell]; rfl
 have r2 : V.cell? ⟨w.heap.size, 2, none⟩ = some (.int .i64 0) := by rw [hR.cell]; rfl
 have f0 := hR.frozen 0
 have f1 := hR.frozen 1
 have f2 := hR.frozen 2
 have hRS := hR.lt
 have HR := hid hR
 have HB := hid hb
 clear hR hb
 go_wp2
 have hR3 := ((HR.out.set_ 0 (.string (S x.key))).set_ 1 (.string (S x.val))).set_ 2 (.int .i64 x.far)
 have q0 := hR3.cell 0
 have q1 := hR3.cell 1
 have q2 := hR3.cell 2
 simp only [List.setIfInBounds_toArray, List.set_cons_zero, List.set_cons_succ, List.getElem?_toArray, List.getElem?_cons_zero, List.getElem?_cons_succ] at q0 q1 q2
 refine bodyPost_ret (v := .tuple #[.agg #[.string (S x.key), .string (S x.val), .int .i64 x.far], .bool true]) (by simp [results, Tryz.results246, go_sem, q0, q1, q2]) rfl ⟨rfl, ?_⟩
 exact ((HB.out.setCell (by simp) _).setCell (by simp) _).setCell (by simp) _
end
section
open Go.RowKit Go.Lib
theorem own_snoc_en {l : List En} {i : Nat} {x : En} (hx : l[i]? = some x) : rowV enC (l.take (i + 1)) = rowV enC (l.take i) ++ enC x := by
 obtain ⟨h, e⟩ := List.getElem?_eq_some_iff.1 hx
 rw [List.take_succ_eq_append_getElem h, rowV_append, e]; simp
theorem k21 : (({ data := #[2] } : ByteArray).toList == ({ data := #[1] } : ByteArray).toList) = false := by rw [ByteArray.toList_eq, ByteArray.toList_eq]; rfl
set_option maxHeartbeats 4000000 in
theorem nget_any {n : Nd} (h : mayN n) (hf : nB n.l ≤ 223) (w : World) :
  Calls Tryz.prog 218 #[.string (S (pgOf n))] w fun e w' => ∃ v, e = .returned (.tuple #[ndV n.leaf v, .int .i64 0]) ∧ w'.ownsRow w.heap.size 299 3 v n.l.length (rowV enC n.l) ∧ Below w.heap.size w w' := by
 have hu : used (recs n) ≤ 232 := by rw [used_recs]; omega
 have hn : n.l.length ≤ 32 := by
  have : 7 * n.l.length ≤ nB n.l := by
   have : ∀ l : List En, 7 * l.length ≤ nB l := fun l => by
    induction l with
    | nil => simp
    | cons x t ih => simp [enB]; omega
   exact this n.l
  omega
 have HA := hid (fun w => all_any hu w)
 have hln := recs_length n
 have H := hid h
 have k21 := k21
 unfold pgOf
 clear h
 obtain ⟨lf, l⟩ := n
 simp only at hn hln ⊢
 cases lf with
 | true =>
  go_enter Tryz.func218, Tryz.ntmps218
  go_wp2_with fail
  (with_reducible refine (HA.out _).mono ?_)
  rintro e W1 ⟨v, rfl, hO, hb⟩
  rw [hln] at hO
  obtain ⟨q, c, rfl, hq1, hq2, hq3⟩ := own_form hO (by omega)
  have s0 : W1.cell? ⟨q, 0, none⟩ = some (.string ⟨#[1]⟩) := own_at hO rfl (j := 0) rfl
  have hR1 : Blk W1 w.heap.size 292 #[.bool false, .slice none 0 0] := (Blk.new w _ _).below hb (by simp)
  have HB1 : Hid (Below w.heap.size w W1) := hid (((Below.refl _ w).alloc (Nat.le_refl _) _).trans (hb.mono (by simp)))
  have hwq : w.heap.size < q := by simp at hq1; omega
  have HO := hid hO
  have HR1 := hid hR1
  clear hO hb hR1 hq1
  go_wp2
  ·have hl0 : Hid (l.length = 0) := hid (by omega)
   go_loopg [46] l.length (fun gg s46 wr => ∃ (i : Nat) (v' : Value), i ≤ l.length ∧ l.length - i ≤ gg ∧ s46 = .int .i64 i ∧ Hid (Below W1.heap.size W1 wr) ∧ Hid (Blk wr W1.heap.size 292 #[.bool true, v']) ∧ Hid (wr.ownsRow W1.heap.size 299 3 v' i (rowV enC (l.take i))))
   case atStart => exact ⟨0, .slice none 0 0, Nat.zero_le _, by omega, rfl, hid ((Below.refl _ W1).alloc (Nat.le_refl _) _), hid (Blk.new W1 _ _), hid (by simpa using World.ownsRow_nil _ _ _ _)⟩
   case round =>
    obtain ⟨i, v', hi, hgg, rfl, hB, hK, hE⟩ := hrel
    have hws : w.heap.size < W1.heap.size := HR1.out.lt
    have hsz := hB.out.size
    by_cases hlt : i < l.length
    ·have := hl0.out; omega
    ·have : i = l.length := by omega
     subst this
     rw [List.take_length] at hE
     have HE := hid hE.out
     obtain ⟨tp, tc, rfl⟩ := own_slice2 hE.out
     have k0 : wr.cell? ⟨W1.heap.size, 0, none⟩ = some (.bool true) := hK.out.cell 0
     have k1 : wr.cell? ⟨W1.heap.size, 1, none⟩ = some (.slice tp l.length tc) := hK.out.cell 1
     have hks := hK.out.lt
     have HM := hid (may_any (w := wr) (n := ⟨true, l⟩) H.out (EnI.of_own HE.out) (by show l.length ≤ _; omega))
     unfold ndV at HM
     clear hE
     go_wp2_with fail
     (with_reducible refine HM.out.mono ?_)
     rintro e W5 ⟨rfl, hb5⟩
     have k2 : W5.cell? ⟨W1.heap.size, 0, none⟩ = some (.bool true) := (hb5.cell hks).trans k0
     have k3 : W5.cell? ⟨W1.heap.size, 1, none⟩ = some (.slice tp l.length tc) := (hb5.cell hks).trans k1
     have hR5 : Blk W5 w.heap.size 292 #[.bool false, .slice none 0 0] := (HR1.out.below hB.out (by omega)).below hb5 (by omega)
     have r0 : W5.cell? ⟨w.heap.size, 0, none⟩ = some (.bool false) := hR5.cell 0
     have r1 : W5.cell? ⟨w.heap.size, 1, none⟩ = some (.slice none 0 0) := hR5.cell 1
     have f0 := hR5.frozen 0
     have f1 := hR5.frozen 1
     have hs5 := hR5.lt
     have hs6 : W1.heap.size < W5.heap.size := Nat.lt_of_lt_of_le hks hb5.size
     have HB5 := hid hb5
     have HR5 := hid hR5
     clear hb5 hR5 k0 k1
     go_wp2
     have hR3 := (HR5.out.set_ 0 (.bool true)).set_ 1 (.slice tp l.length tc)
     have q0 := hR3.cell 0
     have q1 := hR3.cell 1
     simp only [List.setIfInBounds_toArray, List.set_cons_zero, List.set_cons_succ, List.getElem?_toArray, List.getElem?_cons_zero, List.getElem?_cons_succ] at q0 q1
     refine bodyPost_ret (v := .tuple #[.agg #[.bool true, .slice tp l.length tc], .int .i64 0]) (by simp [results, Tryz.results218, go_sem, q0, q1]) rfl ⟨_, rfl, ?_, ?_⟩
     ·refine row_of (own_base (row_of HE.out (fun b hb => HB5.out.block b (HE.out.lt b hb).2)) (Nat.le_of_lt hws)) (fun b hb => ?_)
      have hb1 : W1.heap.size ≤ b := (HE.out.lt b hb).1
      rw [Below.heap_setCell _ ⟨w.heap.size, 1, none⟩ _ b (by simp; omega), Below.heap_setCell _ ⟨w.heap.size, 0, none⟩ _ b (by simp; omega)]
     ·exact (((HB1.out.trans (hB.out.mono (by omega))).trans (HB5.out.mono (by omega))).setCell (by simp) _).setCell (by simp) _
  ·go_loopg [46] l.length (fun gg s46 wr => ∃ (i : Nat) (v' : Value), i ≤ l.length ∧ l.length - i ≤ gg ∧ s46 = .int .i64 i ∧ Hid (Below W1.heap.size W1 wr) ∧ Hid (Blk wr W1.heap.size 292 #[.bool true, v']) ∧ Hid (wr.ownsRow W1.heap.size 299 3 v' i (rowV enC (l.take i))))
   case atStart => exact ⟨0, .slice none 0 0, Nat.zero_le _, by omega, rfl, hid ((Below.refl _ W1).alloc (Nat.le_refl _) _), hid (Blk.new W1 _ _), hid (by simpa using World.ownsRow_nil _ _ _ _)⟩
   case round =>
    obtain ⟨i, v', hi, hgg, rfl, hB, hK, hE⟩ := hrel
    have hws : w.heap.size < W1.heap.size := HR1.out.lt
    have hsz := hB.out.size
    by_cases hlt : i < l.length
    ·obtain ⟨x, hx⟩ : ∃ x, l[i]? = some x := ⟨_, List.getElem?_eq_getElem hlt⟩
     have s1 : wr.cell? ⟨q, 1 + i, none⟩ = some (.string (S (encE x))) := (hB.out.cell (p := ⟨q, 1 + i, none⟩) hq2).trans (own_at HO.out rfl (j := 1 + i) (by
      rw [Nat.add_comm]
      simp [sC, recs, hx]))
     have hltz : (i : Int) < (l.length : Int) := by omega
     have hqw : q < wr.heap.size := Nat.lt_of_lt_of_le hq2 hB.out.size
     have HEN := hid (entry_any wr x (Or.inl (H.out.1 x (List.mem_of_getElem? hx))))
     have HX := hid (own_snoc_en hx)
     have hks := hK.out.lt
     clear hx
     go_wp2_with fail
     (with_reducible refine HEN.out.mono ?_)
     rintro e W2 ⟨rfl, hb2⟩
     obtain ⟨tp, tc, rfl⟩ := own_slice2 hE.out
     have hK2 : Blk W2 W1.heap.size 292 #[.bool true, .slice tp i tc] := hK.out.below hb2 hks
     have k1 : W2.cell? ⟨W1.heap.size, 1, none⟩ = some (.slice tp i tc) := hK2.cell 1
     have hs2 := hK2.lt
     have HK2 := hid hK2
     have HB2 := hid hb2
     have hs2w : wr.heap.size ≤ W2.heap.size := hb2.size
     unfold enC
     clear hK2 hb2
     go_wp2_with (with_reducible refine stopAt .append rfl ?_)
     with_reducible refine goOn ?_
     obtain ⟨W3, hW3⟩ : ∃ W3, W3 = W2.alloc (.cells #[.string (S x.key), .string (S x.val), .int .i64 x.far] 299) := ⟨_, rfl⟩
     have hs3 : W3.heap.size = W2.heap.size + 1 := by rw [hW3]; simp
     have hb3 : Below W2.heap.size W2 W3 := by rw [hW3]; exact (Below.refl _ W2).alloc (Nat.le_refl _) _
     rw [← hW3, ← hs3]
     clear hW3
     obtain ⟨i0, hi0, hz0, hz1, hz2⟩ := info_parts infEn
     have hO3 : W3.ownsRow W1.heap.size 299 3 (.slice tp i tc) i (rowV enC (l.take i)) := row_of hE.out (fun b hb => by
      have hb9 := (hE.out.lt b hb).2
      exact (hb3.block b (by omega)).trans (HB2.out.block b hb9))
     refine wpList_append_own _ rfl _ _ 290 rfl W1.heap.size 299 i0 (.agg #[.string ⟨#[]⟩, .string ⟨#[]⟩, .int .i64 0]) 3 40 Tryz.underlying290 hi0 hz0 hz1 hz2 rfl (by decide) _ _ _ rfl (hO3.alloc _) ⟨W3.heap.size, 0, none⟩ 1 1 (enC x) rfl rfl (news_of (Blk.new W3 299 (enC x).toArray)) (enC_one x) (by unfold maxLen; omega) (by omega) (by simp; omega) ?_
     intro v' W' hO' hgr _
     have hgrn : some W1.heap.size ≠ (Value.slice tp i tc).ownBlock := fun e => own_not hE.out hK.out (by decide) e.symm
     have hK' : Blk W' W1.heap.size 292 #[.bool true, .slice tp i tc] := ((HK2.out.below hb3 hs2).alloc _).grown hgr hgrn
     have hne := own_not hO' hK' (by decide)
     obtain ⟨q2, c4, rfl, hq21, hq22, hq23⟩ := own_form hO' (by omega)
     have m1 : W'.cell? ⟨W1.heap.size, 1, none⟩ = some (.slice tp i tc) := hK'.cell 1
     have mf := hK'.frozen 1
     have hks' := hK'.lt
     have HB' : Hid (Below W1.heap.size W1 W') := hid ((((hB.out.trans (HB2.out.mono hsz)).trans (hb3.mono (by omega))).alloc (by omega) _).grown hgr (by simp; omega) (fun b hb => (hE.out.lt b hb).1))
     have HO' := hid hO'
     have HK' := hid hK'
     have HNE := hid hne
     clear hgr hO' hK' hne hgrn k1 hb3 hO3
     go_wp2
     go_roundg (l.length - (i + 1))
     case measure => omega
     case rel =>
      refine ⟨i + 1, .slice (some ⟨q2, 0, none⟩) (i + 1) c4, by omega, by omega, by go_num, hid (HB'.out.setCell (by simp) _), hid (by simpa using HK'.out.set_ 1 (.slice (some ⟨q2, 0, none⟩) (i + 1) c4)), hid ?_⟩
      rw [HX.out]
      refine row_of HO'.out (fun b hb => Below.heap_setCell _ ⟨W1.heap.size, 1, none⟩ _ b (fun e => HNE.out (by rw [hb]; exact congrArg some e)))
    ·have : i = l.length := by omega
     subst this
     rw [List.take_length] at hE
     have HE := hid hE.out
     obtain ⟨tp, tc, rfl⟩ := own_slice2 hE.out
     have k0 : wr.cell? ⟨W1.heap.size, 0, none⟩ = some (.bool true) := hK.out.cell 0
     have k1 : wr.cell? ⟨W1.heap.size, 1, none⟩ = some (.slice tp l.length tc) := hK.out.cell 1
     have hks := hK.out.lt
     have HM := hid (may_any (w := wr) (n := ⟨true, l⟩) H.out (EnI.of_own HE.out) (by show l.length ≤ _; omega))
     unfold ndV at HM
     clear hE
     go_wp2_with fail
     (with_reducible refine HM.out.mono ?_)
     rintro e W5 ⟨rfl, hb5⟩
     have k2 : W5.cell? ⟨W1.heap.size, 0, none⟩ = some (.bool true) := (hb5.cell hks).trans k0
     have k3 : W5.cell? ⟨W1.heap.size, 1, none⟩ = some (.slice tp l.length tc) := (hb5.cell hks).trans k1
     have hR5 : Blk W5 w.heap.size 292 #[.bool false, .slice none 0 0] := (HR1.out.below hB.out (by omega)).below hb5 (by omega)
     have r0 : W5.cell? ⟨w.heap.size, 0, none⟩ = some (.bool false) := hR5.cell 0
     have r1 : W5.cell? ⟨w.heap.size, 1, none⟩ = some (.slice none 0 0) := hR5.cell 1
     have f0 := hR5.frozen 0
     have f1 := hR5.frozen 1
     have hs5 := hR5.lt
     have hs6 : W1.heap.size < W5.heap.size := Nat.lt_of_lt_of_le hks hb5.size
     have HB5 := hid hb5
     have HR5 := hid hR5
     clear hb5 hR5 k0 k1
     go_wp2
     have hR3 := (HR5.out.set_ 0 (.bool true)).set_ 1 (.slice tp l.length tc)
     have q0 := hR3.cell 0
     have q1 := hR3.cell 1
     simp only [List.setIfInBounds_toArray, List.set_cons_zero, List.set_cons_succ, List.getElem?_toArray, List.getElem?_cons_zero, List.getElem?_cons_succ] at q0 q1
     refine bodyPost_ret (v := .tuple #[.agg #[.bool true, .slice tp l.length tc], .int .i64 0]) (by simp [results, Tryz.results218, go_sem, q0, q1]) rfl ⟨_, rfl, ?_, ?_⟩
     ·refine row_of (own_base (row_of HE.out (fun b hb => HB5.out.block b (HE.out.lt b hb).2)) (Nat.le_of_lt hws)) (fun b hb => ?_)
      have hb1 : W1.heap.size ≤ b := (HE.out.lt b hb).1
      rw [Below.heap_setCell _ ⟨w.heap.size, 1, none⟩ _ b (by simp; omega), Below.heap_setCell _ ⟨w.heap.size, 0, none⟩ _ b (by simp; omega)]
     ·exact (((HB1.out.trans (hB.out.mono (by omega))).trans (HB5.out.mono (by omega))).setCell (by simp) _).setCell (by simp) _
 | false =>
  go_enter Tryz.func218, Tryz.ntmps218
  go_wp2_with fail
  (with_reducible refine (HA.out _).mono ?_)
  rintro e W1 ⟨v, rfl, hO, hb⟩
  rw [hln] at hO
  obtain ⟨q, c, rfl, hq1, hq2, hq3⟩ := own_form hO (by omega)
  have s0 : W1.cell? ⟨q, 0, none⟩ = some (.string ⟨#[2]⟩) := own_at hO rfl (j := 0) rfl
  have hR1 : Blk W1 w.heap.size 292 #[.bool false, .slice none 0 0] := (Blk.new w _ _).below hb (by simp)
  have HB1 : Hid (Below w.heap.size w W1) := hid (((Below.refl _ w).alloc (Nat.le_refl _) _).trans (hb.mono (by simp)))
  have hwq : w.heap.size < q := by simp at hq1; omega
  have HO := hid hO
  have HR1 := hid hR1
  clear hO hb hR1 hq1
  go_wp2
  ·have hl0 : Hid (l.length = 0) := hid (by omega)
   go_loopg [46] l.length (fun gg s46 wr => ∃ (i : Nat) (v' : Value), i ≤ l.length ∧ l.length - i ≤ gg ∧ s46 = .int .i64 i ∧ Hid (Below W1.heap.size W1 wr) ∧ Hid (Blk wr W1.heap.size 292 #[.bool false, v']) ∧ Hid (wr.ownsRow W1.heap.size 299 3 v' i (rowV enC (l.take i))))
   case atStart => exact ⟨0, .slice none 0 0, Nat.zero_le _, by omega, rfl, hid ((Below.refl _ W1).alloc (Nat.le_refl _) _), hid (Blk.new W1 _ _), hid (by simpa using World.ownsRow_nil _ _ _ _)⟩
   case round =>
    obtain ⟨i, v', hi, hgg, rfl, hB, hK, hE⟩ := hrel
    have hws : w.heap.size < W1.heap.size := HR1.out.lt
    have hsz := hB.out.size
    by_cases hlt : i < l.length
    ·have := hl0.out; omega
    ·have : i = l.length := by omega
     subst this
     rw [List.take_length] at hE
     have HE := hid hE.out
     obtain ⟨tp, tc, rfl⟩ := own_slice2 hE.out
     have k0 : wr.cell? ⟨W1.heap.size, 0, none⟩ = some (.bool false) := hK.out.cell 0
     have k1 : wr.cell? ⟨W1.heap.size, 1, none⟩ = some (.slice tp l.length tc) := hK.out.cell 1
     have hks := hK.out.lt
     have HM := hid (may_any (w := wr) (n := ⟨false, l⟩) H.out (EnI.of_own HE.out) (by show l.length ≤ _; omega))
     unfold ndV at HM
     clear hE
     go_wp2_with fail
     (with_reducible refine HM.out.mono ?_)
     rintro e W5 ⟨rfl, hb5⟩
     have k2 : W5.cell? ⟨W1.heap.size, 0, none⟩ = some (.bool false) := (hb5.cell hks).trans k0
     have k3 : W5.cell? ⟨W1.heap.size, 1, none⟩ = some (.slice tp l.length tc) := (hb5.cell hks).trans k1
     have hR5 : Blk W5 w.heap.size 292 #[.bool false, .slice none 0 0] := (HR1.out.below hB.out (by omega)).below hb5 (by omega)
     have r0 : W5.cell? ⟨w.heap.size, 0, none⟩ = some (.bool false) := hR5.cell 0
     have r1 : W5.cell? ⟨w.heap.size, 1, none⟩ = some (.slice none 0 0) := hR5.cell 1
     have f0 := hR5.frozen 0
     have f1 := hR5.frozen 1
     have hs5 := hR5.lt
     have hs6 : W1.heap.size < W5.heap.size := Nat.lt_of_lt_of_le hks hb5.size
     have HB5 := hid hb5
     have HR5 := hid hR5
     clear hb5 hR5 k0 k1
     go_wp2
     have hR3 := (HR5.out.set_ 0 (.bool false)).set_ 1 (.slice tp l.length tc)
     have q0 := hR3.cell 0
     have q1 := hR3.cell 1
     simp only [List.setIfInBounds_toArray, List.set_cons_zero, List.set_cons_succ, List.getElem?_toArray, List.getElem?_cons_zero, List.getElem?_cons_succ] at q0 q1
     refine bodyPost_ret (v := .tuple #[.agg #[.bool false, .slice tp l.length tc], .int .i64 0]) (by simp [results, Tryz.results218, go_sem, q0, q1]) rfl ⟨_, rfl, ?_, ?_⟩
     ·refine row_of (own_base (row_of HE.out (fun b hb => HB5.out.block b (HE.out.lt b hb).2)) (Nat.le_of_lt hws)) (fun b hb => ?_)
      have hb1 : W1.heap.size ≤ b := (HE.out.lt b hb).1
      rw [Below.heap_setCell _ ⟨w.heap.size, 1, none⟩ _ b (by simp; omega), Below.heap_setCell _ ⟨w.heap.size, 0, none⟩ _ b (by simp; omega)]
     ·exact (((HB1.out.trans (hB.out.mono (by omega))).trans (HB5.out.mono (by omega))).setCell (by simp) _).setCell (by simp) _
  ·go_loopg [46] l.length (fun gg s46 wr => ∃ (i : Nat) (v' : Value), i ≤ l.length ∧ l.length - i ≤ gg ∧ s46 = .int .i64 i ∧ Hid (Below W1.heap.size W1 wr) ∧ Hid (Blk wr W1.heap.size 292 #[.bool false, v']) ∧ Hid (wr.ownsRow W1.heap.size 299 3 v' i (rowV enC (l.take i))))
   case atStart => exact ⟨0, .slice none 0 0, Nat.zero_le _, by omega, rfl, hid ((Below.refl _ W1).alloc (Nat.le_refl _) _), hid (Blk.new W1 _ _), hid (by simpa using World.ownsRow_nil _ _ _ _)⟩
   case round =>
    obtain ⟨i, v', hi, hgg, rfl, hB, hK, hE⟩ := hrel
    have hws : w.heap.size < W1.heap.size := HR1.out.lt
    have hsz := hB.out.size
    by_cases hlt : i < l.length
    ·obtain ⟨x, hx⟩ : ∃ x, l[i]? = some x := ⟨_, List.getElem?_eq_getElem hlt⟩
     have s1 : wr.cell? ⟨q, 1 + i, none⟩ = some (.string (S (encE x))) := (hB.out.cell (p := ⟨q, 1 + i, none⟩) hq2).trans (own_at HO.out rfl (j := 1 + i) (by
      rw [Nat.add_comm]
      simp [sC, recs, hx]))
     have hltz : (i : Int) < (l.length : Int) := by omega
     have hqw : q < wr.heap.size := Nat.lt_of_lt_of_le hq2 hB.out.size
     have HEN := hid (entry_any wr x (Or.inr (H.out.1 x (List.mem_of_getElem? hx))))
     have HX := hid (own_snoc_en hx)
     have hks := hK.out.lt
     clear hx
     go_wp2_with fail
     (with_reducible refine HEN.out.mono ?_)
     rintro e W2 ⟨rfl, hb2⟩
     obtain ⟨tp, tc, rfl⟩ := own_slice2 hE.out
     have hK2 : Blk W2 W1.heap.size 292 #[.bool false, .slice tp i tc] := hK.out.below hb2 hks
     have k1 : W2.cell? ⟨W1.heap.size, 1, none⟩ = some (.slice tp i tc) := hK2.cell 1
     have hs2 := hK2.lt
     have HK2 := hid hK2
     have HB2 := hid hb2
     have hs2w : wr.heap.size ≤ W2.heap.size := hb2.size
     unfold enC
     clear hK2 hb2
     go_wp2_with (with_reducible refine stopAt .append rfl ?_)
     with_reducible refine goOn ?_
     obtain ⟨W3, hW3⟩ : ∃ W3, W3 = W2.alloc (.cells #[.string (S x.key), .string (S x.val), .int .i64 x.far] 299) := ⟨_, rfl⟩
     have hs3 : W3.heap.size = W2.heap.size + 1 := by rw [hW3]; simp
     have hb3 : Below W2.heap.size W2 W3 := by rw [hW3]; exact (Below.refl _ W2).alloc (Nat.le_refl _) _
     rw [← hW3, ← hs3]
     clear hW3
     obtain ⟨i0, hi0, hz0, hz1, hz2⟩ := info_parts infEn
     have hO3 : W3.ownsRow W1.heap.size 299 3 (.slice tp i tc) i (rowV enC (l.take i)) := row_of hE.out (fun b hb => by
      have hb9 := (hE.out.lt b hb).2
      exact (hb3.block b (by omega)).trans (HB2.out.block b hb9))
     refine wpList_append_own _ rfl _ _ 290 rfl W1.heap.size 299 i0 (.agg #[.string ⟨#[]⟩, .string ⟨#[]⟩, .int .i64 0]) 3 40 Tryz.underlying290 hi0 hz0 hz1 hz2 rfl (by decide) _ _ _ rfl (hO3.alloc _) ⟨W3.heap.size, 0, none⟩ 1 1 (enC x) rfl rfl (news_of (Blk.new W3 299 (enC x).toArray)) (enC_one x) (by unfold maxLen; omega) (by omega) (by simp; omega) ?_
     intro v' W' hO' hgr _
     have hgrn : some W1.heap.size ≠ (Value.slice tp i tc).ownBlock := fun e => own_not hE.out hK.out (by decide) e.symm
     have hK' : Blk W' W1.heap.size 292 #[.bool false, .slice tp i tc] := ((HK2.out.below hb3 hs2).alloc _).grown hgr hgrn
     have hne := own_not hO' hK' (by decide)
     obtain ⟨q2, c4, rfl, hq21, hq22, hq23⟩ := own_form hO' (by omega)
     have m1 : W'.cell? ⟨W1.heap.size, 1, none⟩ = some (.slice tp i tc) := hK'.cell 1
     have mf := hK'.frozen 1
     have hks' := hK'.lt
     have HB' : Hid (Below W1.heap.size W1 W') := hid ((((hB.out.trans (HB2.out.mono hsz)).trans (hb3.mono (by omega))).alloc (by omega) _).grown hgr (by simp; omega) (fun b hb => (hE.out.lt b hb).1))
     have HO' := hid hO'
     have HK' := hid hK'
     have HNE := hid hne
     clear hgr hO' hK' hne hgrn k1 hb3 hO3
     go_wp2
     go_roundg (l.length - (i + 1))
     case measure => omega
     case rel =>
      refine ⟨i + 1, .slice (some ⟨q2, 0, none⟩) (i + 1) c4, by omega, by omega, by go_num, hid (HB'.out.setCell (by simp) _), hid (by simpa using HK'.out.set_ 1 (.slice (some ⟨q2, 0, none⟩) (i + 1) c4)), hid ?_⟩
      rw [HX.out]
      refine row_of HO'.out (fun b hb => Below.heap_setCell _ ⟨W1.heap.size, 1, none⟩ _ b (fun e => HNE.out (by rw [hb]; exact congrArg some e)))
    ·have : i = l.length := by omega
     subst this
     rw [List.take_length] at hE
     have HE := hid hE.out
     obtain ⟨tp, tc, rfl⟩ := own_slice2 hE.out
     have k0 : wr.cell? ⟨W1.heap.size, 0, none⟩ = some (.bool false) := hK.out.cell 0
     have k1 : wr.cell? ⟨W1.heap.size, 1, none⟩ = some (.slice tp l.length tc) := hK.out.cell 1
     have hks := hK.out.lt
     have HM := hid (may_any (w := wr) (n := ⟨false, l⟩) H.out (EnI.of_own HE.out) (by show l.length ≤ _; omega))
     unfold ndV at HM
     clear hE
     go_wp2_with fail
     (with_reducible refine HM.out.mono ?_)
     rintro e W5 ⟨rfl, hb5⟩
     have k2 : W5.cell? ⟨W1.heap.size, 0, none⟩ = some (.bool false) := (hb5.cell hks).trans k0
     have k3 : W5.cell? ⟨W1.heap.size, 1, none⟩ = some (.slice tp l.length tc) := (hb5.cell hks).trans k1
     have hR5 : Blk W5 w.heap.size 292 #[.bool false, .slice none 0 0] := (HR1.out.below hB.out (by omega)).below hb5 (by omega)
     have r0 : W5.cell? ⟨w.heap.size, 0, none⟩ = some (.bool false) := hR5.cell 0
     have r1 : W5.cell? ⟨w.heap.size, 1, none⟩ = some (.slice none 0 0) := hR5.cell 1
     have f0 := hR5.frozen 0
     have f1 := hR5.frozen 1
     have hs5 := hR5.lt
     have hs6 : W1.heap.size < W5.heap.size := Nat.lt_of_lt_of_le hks hb5.size
     have HB5 := hid hb5
     have HR5 := hid hR5
     clear hb5 hR5 k0 k1
     go_wp2
     have hR3 := (HR5.out.set_ 0 (.bool false)).set_ 1 (.slice tp l.length tc)
     have q0 := hR3.cell 0
     have q1 := hR3.cell 1
     simp only [List.setIfInBounds_toArray, List.set_cons_zero, List.set_cons_succ, List.getElem?_toArray, List.getElem?_cons_zero, List.getElem?_cons_succ] at q0 q1
     refine bodyPost_ret (v := .tuple #[.agg #[.bool false, .slice tp l.length tc], .int .i64 0]) (by simp [results, Tryz.results218, go_sem, q0, q1]) rfl ⟨_, rfl, ?_, ?_⟩
     ·refine row_of (own_base (row_of HE.out (fun b hb => HB5.out.block b (HE.out.lt b hb).2)) (Nat.le_of_lt hws)) (fun b hb => ?_)
      have hb1 : W1.heap.size ≤ b := (HE.out.lt b hb).1
      rw [Below.heap_setCell _ ⟨w.heap.size, 1, none⟩ _ b (by simp; omega), Below.heap_setCell _ ⟨w.heap.size, 0, none⟩ _ b (by simp; omega)]
     ·exact (((HB1.out.trans (hB.out.mono (by omega))).trans (HB5.out.mono (by omega))).setCell (by simp) _).setCell (by simp) _
end
end Go.Proofs.YtnnghcooidjlhaaGreat
