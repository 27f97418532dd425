/- Parts of the proof: Xzd Mf23d. -/
import Derived.Deep.Cut
import Derived.Deep.CutRange
import Derived.Test.YtnnghcooidjlhaaGreatD27
import Derived.Test.YtnnghcooidjlhaaGreatD36
import Derived.Test.YtnnghcooidjlhaaGreatD41
set_option linter.all false
set_option maxRecDepth 100000
namespace Go.Proofs.YtnnghcooidjlhaaGreat
section
open Go.RowKit Go.Lib
def evz : Ev := ⟨0, 0, 0, 0, 0⟩
def nxE (o : Option Ev) : Ev := o.getD evz
theorem nextV_eq (o : Option Ev) : nextV o = .tuple #[.agg #[.float .f64 (nxE o).t, .int .i64 (nxE o).src, .int .i64 (nxE o).n, .int .i64 (nxE o).dst, .int .i64 (nxE o).pay], .bool o.isSome, .int .i64 0] := by cases o <;> rfl
theorem rnextV_eq (o : Option Ev) : rnextV o = .tuple #[.agg #[.float .f64 (nxE o).t, .int .i64 (nxE o).src, .int .i64 (nxE o).n, .int .i64 (nxE o).dst, .int .i64 (nxE o).pay], .bool o.isSome] := by cases o <;> rfl
def EvB (W : World) (g : Nat) (x : Ev) : Prop := W.cell? ⟨g, 0, none⟩ = some (.float .f64 x.t) ∧ W.cell? ⟨g, 1, none⟩ = some (.int .i64 x.src) ∧ W.cell? ⟨g, 2, none⟩ = some (.int .i64 x.n) ∧ W.cell? ⟨g, 3, none⟩ = some (.int .i64 x.dst) ∧ W.cell? ⟨g, 4, none⟩ = some (.int .i64 x.pay)
theorem EvB.of {W : World} {g : Nat} {x : Ev} {T : TypeId} (h : Blk W g T #[.float .f64 x.t, .int .i64 x.src, .int .i64 x.n, .int .i64 x.dst, .int .i64 x.pay]) : EvB W g x := ⟨h.cell 0, h.cell 1, h.cell 2, h.cell 3, h.cell 4⟩
set_option maxHeartbeats 32000000 in
theorem idoes23_any {w : World} {p : Option Addr} {n c : Nat} {l : List A23} (hv : Vw 7 a23C w (.slice p n c) l) (hn : n = l.length) (hok : ∀ a ∈ l, a.e.ok) (a z : Ev) (ha : a.ok) (hz : z.ok) :
  Calls Tryz.prog 17 #[.slice p n c, evV a, evV z] w fun r w' => r = .returned (.bool true) ∧ Below w.heap.size w w' := by
 have HRA := hid (fun W => right20_any a W)
 have HRZ := hid (fun W => right20_any z W)
 obtain ⟨ra, hra⟩ : ∃ b, b = decide a.right := ⟨_, rfl⟩
 obtain ⟨rz, hrz⟩ : ∃ b, b = decide z.right := ⟨_, rfl⟩
 rw [← hra] at HRA
 rw [← hrz] at HRZ
 have HKA := hid (fun (h : ra = true) W => key20_any a (of_decide_eq_true (by rw [← hra]; exact h)) ha W)
 have HKZ := hid (fun (h : rz = true) W => key20_any z (of_decide_eq_true (by rw [← hrz]; exact h)) hz W)
 unfold evV at HRA HRZ HKA HKZ ⊢
 obtain ⟨W2, hW2⟩ : ∃ W2, W2 = (w.alloc (.cells #[.float .f64 a.t, .int .i64 a.src, .int .i64 a.n, .int .i64 a.dst, .int .i64 a.pay] 67)).alloc (.cells #[.float .f64 z.t, .int .i64 z.src, .int .i64 z.n, .int .i64 z.dst, .int .i64 z.pay] 67) := ⟨_, rfl⟩
 have hb2 : Below w.heap.size w W2 := by rw [hW2]; exact ((Below.refl _ w).alloc (Nat.le_refl _) _).alloc (by simp) _
 have hA2 : Blk W2 w.heap.size 67 #[.float .f64 a.t, .int .i64 a.src, .int .i64 a.n, .int .i64 a.dst, .int .i64 a.pay] := by rw [hW2]; exact (Blk.new w _ _).alloc _
 have hZ2 : Blk W2 (w.heap.size + 1) 67 #[.float .f64 z.t, .int .i64 z.src, .int .i64 z.n, .int .i64 z.dst, .int .i64 z.pay] := by
  rw [hW2]
  have := Blk.new (w.alloc (.cells #[.float .f64 a.t, .int .i64 a.src, .int .i64 a.n, .int .i64 a.dst, .int .i64 a.pay] 67)) 67 #[.float .f64 z.t, .int .i64 z.src, .int .i64 z.n, .int .i64 z.dst, .int .i64 z.pay]
  rwa [show (w.alloc (.cells #[.float .f64 a.t, .int .i64 a.src, .int .i64 a.n, .int .i64 a.dst, .int .i64 a.pay] 67)).heap.size = w.heap.size + 1 by simp] at this
 have HB := hid (begun23_any 1 (by omega) W2)
 have HAW := hid (fun W => awake23_any W)
 have HCA : Hid (∀ W', Below W2.heap.size W2 W' → EvB W' w.heap.size a ∧ EvB W' (w.heap.size + 1) z) := hid fun W' hW => ⟨EvB.of (hA2.below hW hA2.lt), EvB.of (hZ2.below hW hZ2.lt)⟩
 have HX := hid (⟨hv.below hb2, hn, hok, hb2⟩ : _ ∧ _ ∧ _ ∧ _)
 rw [hW2] at HB
 have HW2 := hid hW2
 clear hv hn hok ha hz hra hrz hA2 hZ2 hb2 hW2
 go_enter Tryz.func17, Tryz.ntmps17
 go_wp2_with fail
 (with_reducible refine HB.out.mono ?_)
 rintro r W3 ⟨ib, s, rfl, hI⟩
 rw [← HW2.out] at hI
 have hB4 := Bo.begin hI
 obtain ⟨W4, hW4⟩ : ∃ W4, W4 = W3.alloc (.cells #[.int .i64 1, .slice none 0 0] 144) := ⟨_, rfl⟩
 rw [← hW4] at hB4
 have HA4 := hid (HAW.out W4)
 rw [hW4] at HA4
 have H4 := hid (⟨hW4, hB4⟩ : _ ∧ _)
 clear hI hB4 hW4
 go_wp2_with fail
 (with_reducible refine HA4.out.mono ?_)
 rintro r W5 ⟨rfl, hb5⟩
 rw [← H4.out.1] at hb5
 have H5 := hid (H4.out.2.below hb5)
 obtain ⟨⟨a0, a1, a2, a3, a4⟩, z0, z1, z2, z3, z4⟩ := HCA.out W5 H5.out.fr
 clear hb5 HA4 HAW
 go_upto_if 39 with (go_at_call 68; refine (HRA.out _).mono ?_; rintro r W6 ⟨rfl, hb6⟩)
 have H6 := hid (H5.out.below hb6)
 clear hb6 a0 a1 a2 a3 a4 z0 z1 z2 z3 z4
 obtain ⟨⟨a0, a1, a2, a3, a4⟩, z0, z1, z2, z3, z4⟩ := HCA.out W6 H6.out.fr
 go_cut [9] from 29 to 161 (fun s9 wc => ∃ af : Bs, s9 = .string (S af) ∧ Hid (af.length ≤ 29 ∧ Bo W2 wc ib s W3.heap.size 0 [] [] []))
 case first =>
  cases ra
  ·go_wp2_with fail
   go_meet
   case rel => exact ⟨[], rfl, hid ⟨by simp, H6.out⟩⟩
  ·have HK := hid (HKA.out rfl)
   go_wp2_with fail
   (with_reducible refine (HK.out _).mono ?_)
   rintro r W7 ⟨rfl, hb7⟩
   have H7 := hid (H6.out.below hb7)
   clear hb7
   go_wp2_with fail
   go_meet
   case rel => exact ⟨_, rfl, hid ⟨by simp, H7.out⟩⟩
 case rest =>
  obtain ⟨af, rfl, H8⟩ := hcut
  clear a0 a1 a2 a3 a4 z0 z1 z2 z3 z4
  obtain ⟨⟨a0, a1, a2, a3, a4⟩, z0, z1, z2, z3, z4⟩ := HCA.out wc H8.out.2.fr
  go_upto_if 43 with (go_at_call 68; refine (HRZ.out _).mono ?_; rintro r W9 ⟨rfl, hb9⟩)
  have H9 := hid (⟨H8.out.1, H8.out.2.below hb9⟩ : _ ∧ _)
  clear hb9 a0 a1 a2 a3 a4 z0 z1 z2 z3 z4
  obtain ⟨⟨a0, a1, a2, a3, a4⟩, z0, z1, z2, z3, z4⟩ := HCA.out W9 H9.out.2.fr
  go_cut [10] from 29 to 161 (fun s10 wc => ∃ zf : Bs, s10 = .string (S zf) ∧ Hid (zf.length ≤ 29 ∧ Bo W2 wc ib s W3.heap.size 0 [] [] []))
  case first =>
   cases rz
   ·go_wp2_with fail
    go_meet
    case rel => exact ⟨[], rfl, hid ⟨by simp, H9.out.2⟩⟩
   ·have HK := hid (HKZ.out rfl)
    go_wp2_with fail
    (with_reducible refine (HK.out _).mono ?_)
    rintro r W7 ⟨rfl, hb7⟩
    have H7 := hid (H9.out.2.below hb7)
    clear hb7
    go_wp2_with fail
    go_meet
    case rel => exact ⟨_, rfl, hid ⟨by simp, H7.out⟩⟩
  case rest =>
   obtain ⟨zf, rfl, H10⟩ := hcut
   have HLF : Hid (af.length ≤ 29 ∧ zf.length ≤ 29) := hid ⟨H9.out.1, H10.out.1⟩
   clear a0 a1 a2 a3 a4 z0 z1 z2 z3 z4
   obtain ⟨rb, hrb⟩ : ∃ rb, rb = W3.heap.size := ⟨_, rfl⟩
   rw [← hrb] at H10 ⊢
   clear hrb
   go_wp2
   go_loopg [11] 30 (fun gg s11 wr => ∃ (j : Nat) (ll : List Ix), j ≤ n ∧ j ≤ 30 ∧ 30 - j ≤ gg ∧ s11 = .int .i64 j ∧ Hid (Bo W2 wr ib s rb j [] ll ll))
   case atStart => exact ⟨0, [], by omega, by omega, by omega, rfl, hid H10.out.2⟩
   case round =>
    obtain ⟨j, ll, hjn, hj30, hgg, rfl, HI⟩ := hrel
    by_cases hje : j < n ∧ j < 30
    ·obtain ⟨y, hy⟩ : ∃ y, l[j]? = some y := ⟨_, List.getElem?_eq_getElem (by have := HX.out.2.1; omega)⟩
     obtain ⟨b, o, e1, hC⟩ := HX.out.1.a23At hy
     subst e1
     obtain ⟨m0, m1, m2, m3, m4, m5, m6⟩ := hC wr HI.out.fr
     have HDO := hid (do23_any HI.out (by omega) y (HX.out.2.2.1 y (List.mem_of_getElem? hy)))
     obtain ⟨l2, hl2⟩ : ∃ l2, l2 = stepD ll y := ⟨_, rfl⟩
     rw [← hl2] at HDO
     unfold a23C at HDO
     have hji : (j : Int) < (n : Int) := by omega
     have hj3 : (j : Int) < 30 := by omega
     have HJ : Hid (j + 1 ≤ 31 ∧ j + 1 ≤ n ∧ j + 1 ≤ 30) := hid ⟨by omega, by omega, by omega⟩
     clear hy hC hl2 hje
     go_wp2_with fail
     (with_reducible refine HDO.out.mono ?_)
     rintro r V1 ⟨rfl, hB1⟩
     have K1 := hid hB1
     clear hB1 m0 m1 m2 m3 m4 m5 m6
     have HN1 := hid (bo_next K1.out (by have := HJ.out.1; omega) af HLF.out.1)
     rw [nextV_eq] at HN1
     obtain ⟨x, hx⟩ : ∃ x, x = nxE (nextI l2 af) := ⟨_, rfl⟩
     obtain ⟨is, his⟩ : ∃ is, is = (nextI l2 af).isSome := ⟨_, rfl⟩
     rw [← hx, ← his] at HN1
     have HNX := hid (⟨hx, his⟩ : _ ∧ _)
     clear hx his
     go_wp2_with fail
     (with_reducible refine HN1.out.mono ?_)
     rintro r V2 ⟨rfl, hB2⟩
     obtain ⟨V3, hV3⟩ : ∃ V3, V3 = V2.alloc (.cells #[.float .f64 x.t, .int .i64 x.src, .int .i64 x.n, .int .i64 x.dst, .int .i64 x.pay] 67) := ⟨_, rfl⟩
     have hB3 := hB2.box 67 #[.float .f64 x.t, .int .i64 x.src, .int .i64 x.n, .int .i64 x.dst, .int .i64 x.pay]
     rw [← hV3] at hB3
     obtain ⟨p3, n3, c3, hR3, hN3, hn3⟩ := hB3.rf
     have hll2 : n3 ≤ 1000 := by have := hB3.ok.2.2.1; have := HJ.out.1; omega
     have HN2 := hid (rnext_any hR3 hll2 af)
     rw [rnextV_eq, ← HNX.out.1, ← HNX.out.2, hV3] at HN2
     have K3 := hid (⟨hV3, hB3⟩ : _ ∧ _)
     clear hB2 hB3 hV3 hR3 hN3 hn3 hll2 HN1
     go_wp2_with fail
     (with_reducible refine HN2.out.mono ?_)
     rintro r V4 ⟨rfl, hb4⟩
     rw [← K3.out.1] at hb4
     have hB4 := K3.out.2.below hb4
     obtain ⟨V5, hV5⟩ : ∃ V5, V5 = V4.alloc (.cells #[.float .f64 x.t, .int .i64 x.src, .int .i64 x.n, .int .i64 x.dst, .int .i64 x.pay] 67) := ⟨_, rfl⟩
     have hB5 := hB4.box 67 #[.float .f64 x.t, .int .i64 x.src, .int .i64 x.n, .int .i64 x.dst, .int .i64 x.pay]
     rw [← hV5] at hB5
     have HN3 := hid (bo_ahead hB5 (by have := HJ.out.1; omega) zf HLF.out.2)
     unfold aheadV at HN3
     obtain ⟨k, hk⟩ : ∃ k, k = aheadK l2 zf := ⟨_, rfl⟩
     rw [← hk, hV5] at HN3
     have HKK := hid hk
     clear hb4 hB4 hB5 hV5 hk HN2
     go_wp2_with fail
     (with_reducible refine HN3.out.mono ?_)
     rintro r V6 ⟨rfl, hB6⟩
     have K6 := hid hB6
     obtain ⟨p3, n3, c3, hR3, hN3, hn3⟩ := hB6.rf
     have HN4 := hid (rahead_any hR3 (by have := hB6.ok.2.2.1; have := HJ.out.1; omega) zf)
     rw [show (aheadI l2 zf).getD [] = k from HKK.out.symm] at HN4
     clear hB6 hR3 hN3 hn3 HN3
     go_wp2_with fail
     (with_reducible refine HN4.out.mono ?_)
     rintro r V7 ⟨rfl, hb7⟩
     have HN5 := hid (bo_between (K6.out.below hb7) (by have := HJ.out.1; omega) af zf HLF.out.1 HLF.out.2)
     obtain ⟨eb, heb⟩ : ∃ eb, eb = betI l2 af zf := ⟨_, rfl⟩
     obtain ⟨ne, hne⟩ : ∃ ne, ne = eb.length := ⟨_, rfl⟩
     rw [← heb, ← hne] at HN5
     have HEB := hid (⟨heb, hne⟩ : _ ∧ _)
     clear hb7 heb hne HN4
     go_wp2_with fail
     (with_reducible refine HN5.out.mono ?_)
     rintro r V8 ⟨p8, c8, kb8, rfl, hB8, hv8⟩
     have K8 := hid (⟨hB8, hv8⟩ : _ ∧ _)
     have HN6 := hid (bo_counts hB8 (by have := HJ.out.1; omega))
     obtain ⟨mo, hmo⟩ : ∃ mo, mo = moreI l2 := ⟨_, rfl⟩
     obtain ⟨le, hle⟩ : ∃ le, le = l2.length - moreI l2 := ⟨_, rfl⟩
     rw [← hle, ← hmo] at HN6
     have HMO := hid (⟨hmo, hle⟩ : _ ∧ _)
     clear hB8 hv8 hmo hle HN5
     go_wp2_with fail
     (with_reducible refine HN6.out.mono ?_)
     rintro r V9 ⟨rfl, hB9⟩
     obtain ⟨p3, n3, c3, hR3, hN3, hn3⟩ := hB9.rf
     have HN7 := hid (rcounts_any hR3 (by have := hB9.ok.2.2.1; have := HJ.out.1; omega))
     rw [← HMO.out.2, ← HMO.out.1] at HN7
     have K9 := hid hB9
     clear hB9 hR3 hN3 hn3 HN6
     go_wp2_with fail
     (with_reducible refine HN7.out.mono ?_)
     rintro r V10 ⟨rfl, hb10⟩
     have hB10 := K9.out.below hb10
     have K10 := hid hB10
     obtain ⟨u0, u1, u2, u3, u4⟩ := EvB.of (x := x) (hB10.blk (z := (V2.heap.size, 67, #[.float .f64 x.t, .int .i64 x.src, .int .i64 x.n, .int .i64 x.dst, .int .i64 x.pay])) (by simp))
     obtain ⟨v0, v1, v2, v3, v4⟩ := EvB.of (x := x) (hB10.blk (z := (V4.heap.size, 67, #[.float .f64 x.t, .int .i64 x.src, .int .i64 x.n, .int .i64 x.dst, .int .i64 x.pay])) (by simp))
     have HS := hid (fun W => same20_any x W)
     unfold evV at HS
     clear hb10 hB10 HN7
     go_wp2_with fail
     (with_reducible refine (HS.out _).mono ?_)
     rintro r V11 ⟨rfl, hb11⟩
     have hB11 := K10.out.below hb11
     have K11 := hid hB11
     obtain ⟨p3, n3, c3, hR3, hN3, hn3⟩ := hB11.rf
     have HN8 := hid (rbetween_any hR3 (by have := hB11.ok.2.2.1; have := HJ.out.1; omega) af zf)
     rw [← HEB.out.1, ← HEB.out.2] at HN8
     clear hb11 hB11 hR3 hN3 hn3 u0 u1 u2 u3 u4 v0 v1 v2 v3 v4
     go_wp2_with fail
     (with_reducible refine HN8.out.mono ?_)
     rintro r V12 ⟨v, rfl, hO12, hb12⟩
     have hB12 := K11.out.below hb12
     obtain ⟨p12, c12, rfl⟩ := own_slice2 hO12
     have HE := hid (events23_any (K8.out.2 V12 (fun z hz => hB12.blk (by simp [hz]))) (Vw.of_own (fun _ => rfl) hO12 HEB.out.2) HEB.out.2 (by
      have h1 : ne ≤ l2.length := by
       rw [HEB.out.2, HEB.out.1]
       unfold betI
       rw [List.length_map]
       exact List.length_filter_le _ _
      have := hB12.ok.2.2.1
      have := HJ.out.1
      omega))
     have K12 := hid hB12
     clear hO12 hb12 hB12 HN8
     go_wp2_with fail
     (with_reducible refine HE.out.mono ?_)
     rintro r V13 ⟨rfl, hb13⟩
     have K13 := hid (K12.out.below hb13).drop
     clear hb13
     go_wp2
     go_roundg (30 - (j + 1))
     case measure => omega
     case rel => exact ⟨j + 1, l2, HJ.out.2.1, HJ.out.2.2, by omega, by go_num, K13⟩
    ·have hc : ¬ (j : Int) < (n : Int) ∨ ((j : Int) < (n : Int) ∧ ¬ (j : Int) < 30) := by omega
     have HF : Hid (Below w.heap.size w wr) := hid (HX.out.2.2.2.trans (HI.out.fr.mono HX.out.2.2.2.size))
     clear hje
     rcases hc with h1 | ⟨h1, h2⟩
     all_goals
      go_wp2
      go_ret
      exact ⟨rfl, HF.out⟩
end
section
open Go.ChangeShapes Go.WideShapes Go.ChangeAt Go.RowKit Go.Deep
set_option maxHeartbeats 8000000 in
set_option maxRecDepth 100000 in
theorem inboxDoes_facts : joinedFacts Tryz.checked.prog 17 Tryz.f17 Rows.inboxDoesSpec Rows.inboxDoesRow = true := by
 unfold joinedFacts
 repeat' (rw [Bool.and_eq_true]; refine ⟨?_, ?_⟩)
 all_goals (as_aux_lemma => kernel_rfl)
end
end Go.Proofs.YtnnghcooidjlhaaGreat
