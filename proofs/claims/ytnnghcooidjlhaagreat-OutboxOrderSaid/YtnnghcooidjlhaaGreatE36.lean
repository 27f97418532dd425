/- Parts of the proof: Zo Zp Zs. -/
import Derived.Test.YtnnghcooidjlhaaGreatE34
import Derived.Test.YtnnghcooidjlhaaGreatE35
set_option linter.all false
set_option maxRecDepth 100000
namespace Go.Proofs.YtnnghcooidjlhaaGreat
section
open Go.RowKit Go.Lib
def t00 (t : Nat) : Nat := if fnan t = true then 0 else tn t
def It.n0 (x : It) : It := { x with e := { x.e with t := t00 x.e.t } }
theorem It.n0_right {x : It} (h : x.e.right) : x.n0 = x.nrm := by
 unfold It.n0 It.nrm Ev.nrm t00
 rw [h.1]
 rfl
theorem norm02_nan (b : Nat) (h : fnan b = true) (w : World) :
  Calls Tryz.prog 97 #[.float .f64 b] w fun e w' => ∃ er, e = .returned (.tuple #[.float .f64 0, .int .i64 er]) ∧ w = w' := by
 have HN := hid (fun W => number02_any b W)
 rw [h] at HN
 clear h
 go_enter Tryz.func97, Tryz.ntmps97
 go_wp2_with (go_at_call 150; refine (HN.out _).mono ?_; rintro e w' ⟨rfl, rfl⟩)
 go_ret2
 exact ⟨_, rfl, rfl⟩
theorem norm02_t00 (b : Nat) (hb : b < 18446744073709551616) (w : World) :
  Calls Tryz.prog 97 #[.float .f64 b] w fun e w' => ∃ er, e = .returned (.tuple #[.float .f64 (t00 b), .int .i64 er]) ∧ w = w' := by
 unfold t00
 cases h : fnan b
 ·exact (norm02_any b h hb w).mono fun e w' ⟨h1, h2⟩ => ⟨_, h1, h2⟩
 ·exact norm02_nan b h w
theorem cut24_of {d : List It} {x : It} {j : Nat} (h1 : ∀ y ∈ d.take j, y.lt x) (h2 : ∀ y, d[j]? = some y → ¬ y.lt x) (hj : j ≤ d.length) : cut24 d x = j := by
 unfold cut24
 induction d generalizing j with
 | nil => simp at hj; simp [hj]
 | cons y t ih =>
  cases j with
  | zero =>
   have := h2 y rfl
   rw [List.takeWhile_cons_of_neg (by simpa using this)]
   rfl
  | succ j =>
   have hy := h1 y (by simp)
   rw [List.takeWhile_cons_of_pos (by simpa using hy), List.length_cons, ih (fun z hz => h1 z (by simp [hz])) (fun z hz => h2 z hz) (by simpa using hj)]
def PtI (W5 W : World) (d : List It) (x : It) (j : Nat) : Prop := Below W5.heap.size W5 W ∧ ∀ y ∈ d.take j, y.lt x
set_option maxHeartbeats 16000000 in
theorem put24_any {w : World} {p : Option Addr} {n c : Nat} {l : List It} (hv : Vw 7 itC w (.slice p n c) l) (hn : n = l.length) (hl : n ≤ 1000) (x : It) (ho : x.e.ok) :
  Calls Tryz.prog 36 #[.slice p n c, itV x] w fun r w' => ∃ v', r = .returned v' ∧ w'.ownsRow w.heap.size 72 7 v' (put24 l x.n0).length (rowV itC (put24 l x.n0)) ∧ Below w.heap.size w w' := by
 have HN := hid (fun W => norm02_t00 x.e.t ho.1 W)
 obtain ⟨W1, hW1⟩ : ∃ W1, W1 = w.alloc (.cells #[.string (S x.c), .int .i64 x.k, .float .f64 x.e.t, .int .i64 x.e.src, .int .i64 x.e.n, .int .i64 x.e.dst, .int .i64 x.e.pay] 72) := ⟨_, rfl⟩
 have hb1 : Below w.heap.size w W1 := by rw [hW1]; exact (Below.refl _ w).alloc (Nat.le_refl _) _
 have hB1 : Blk W1 w.heap.size 72 #[.string (S x.c), .int .i64 x.k, .float .f64 x.e.t, .int .i64 x.e.src, .int .i64 x.e.n, .int .i64 x.e.dst, .int .i64 x.e.pay] := by rw [hW1]; exact Blk.new w _ _
 obtain ⟨W4, hW4⟩ : ∃ W4, W4 = W1.setCell ⟨w.heap.size, 2, none⟩ (.float .f64 (t00 x.e.t)) := ⟨_, rfl⟩
 have hB4 : Blk W4 w.heap.size 72 #[.string (S x.c), .int .i64 x.k, .float .f64 (t00 x.e.t), .int .i64 x.e.src, .int .i64 x.e.n, .int .i64 x.e.dst, .int .i64 x.e.pay] := by rw [hW4]; exact hB1.set_ 2 _
 have hb4 : Below w.heap.size w W4 := by rw [hW4]; exact hb1.setCell (Nat.le_refl _) _
 have HD := hid (del24_any (hv.below hb4) hn hl x.n0)
 unfold itV at HD ⊢
 obtain ⟨d, hd⟩ : ∃ d, d = del24 l x.n0 := ⟨_, rfl⟩
 have hdl : d.length ≤ 1000 := by rw [hd]; exact Nat.le_trans (del24_len _ _) (by omega)
 rw [← hd] at HD
 have HP : Hid (put24 l x.n0 = d.take (cut24 d x.n0) ++ x.n0 :: d.drop (cut24 d x.n0)) := hid (by rw [hd]; rfl)
 obtain ⟨nd, hnd⟩ : ∃ nd, nd = d.length := ⟨_, rfl⟩
 rw [← hnd] at HD hdl
 have hdi : (nd : Int) ≤ 1000 := by omega
 have HX := hid (⟨hW1, hW4, hb1, hB1, hb4, hB4, hnd⟩ : _ ∧ _ ∧ _ ∧ _ ∧ _ ∧ _ ∧ _)
 have HDL := hid hdl
 rw [show x.n0.c = x.c from rfl, show x.n0.k = x.k from rfl, show x.n0.e.t = t00 x.e.t from rfl, show x.n0.e.src = x.e.src from rfl, show x.n0.e.n = x.e.n from rfl, show x.n0.e.dst = x.e.dst from rfl, show x.n0.e.pay = x.e.pay from rfl] at HD
 clear hv hn hl ho hW1 hW4 hb1 hB1 hb4 hB4 hd hnd hdl
 go_enter Tryz.func36, Tryz.ntmps36
 go_wp2_with fail
 (with_reducible refine (HN.out _).mono ?_)
 rintro r W1' ⟨er, rfl, rfl⟩
 rw [← HX.out.1]
 have c2 : W1.cell? ⟨w.heap.size, 2, none⟩ = some (.float .f64 x.e.t) := HX.out.2.2.2.1.cell 2
 have f2 := HX.out.2.2.2.1.frozen 2
 have hlt := HX.out.2.2.2.1.lt
 go_wp2_with (with_reducible refine stopLoad 72 rfl ?_)
 rw [← HX.out.2.1]
 with_reducible refine goOn ?_
 clear c2 f2 hlt
 have m0 : W4.cell? ⟨w.heap.size, 0, none⟩ = some (.string (S x.c)) := HX.out.2.2.2.2.2.1.cell 0
 have m1 : W4.cell? ⟨w.heap.size, 1, none⟩ = some (.int .i64 x.k) := HX.out.2.2.2.2.2.1.cell 1
 have m2 : W4.cell? ⟨w.heap.size, 2, none⟩ = some (.float .f64 (t00 x.e.t)) := HX.out.2.2.2.2.2.1.cell 2
 have m3 : W4.cell? ⟨w.heap.size, 3, none⟩ = some (.int .i64 x.e.src) := HX.out.2.2.2.2.2.1.cell 3
 have m4 : W4.cell? ⟨w.heap.size, 4, none⟩ = some (.int .i64 x.e.n) := HX.out.2.2.2.2.2.1.cell 4
 have m5 : W4.cell? ⟨w.heap.size, 5, none⟩ = some (.int .i64 x.e.dst) := HX.out.2.2.2.2.2.1.cell 5
 have m6 : W4.cell? ⟨w.heap.size, 6, none⟩ = some (.int .i64 x.e.pay) := HX.out.2.2.2.2.2.1.cell 6
 go_wp2_with fail
 (with_reducible refine HD.out.mono ?_)
 rintro r W5 ⟨v5, rfl, hO5, hb5⟩
 obtain ⟨pd, cd, rfl⟩ := own_slice2 hO5
 have hB5 := HX.out.2.2.2.2.2.1.below hb5 HX.out.2.2.2.2.2.1.lt
 have H5 := hid (⟨HX.out.2.2.2.2.1.trans (hb5.mono HX.out.2.2.2.2.1.size), hB5, hO5⟩ : _ ∧ _ ∧ _)
 have HPD : Hid ((pd = none ∧ nd = 0 ∧ cd = 0) ∨ ∃ b o, pd = some ⟨b, o, none⟩) := hid (by
  rcases hO5.2 with ⟨e, h0⟩ | ⟨g, cap, cur, e, _⟩
  ·injection e with e1 e2 e3
   exact .inl ⟨e1, h0, e3⟩
  ·injection e with e1 e2 e3
   exact .inr ⟨_, _, e1⟩)
 have HV5 : Hid (Vw 7 itC W5 (.slice pd nd cd) d) := hid (Vw.of_own itC_len hO5 HX.out.2.2.2.2.2.2)
 have HI0 : Hid (PtI W5 W5 d x.n0 0) := hid ⟨Below.refl _ _, by simp⟩
 clear hO5 hb5 hB5 m0 m1 m2 m3 m4 m5 m6
 go_wp2
 go_loopg [7] nd (fun gg s7 wr => ∃ (j : Nat), j ≤ nd ∧ nd - j ≤ gg ∧ s7 = .int .i64 j ∧ Hid (PtI W5 wr d x.n0 j))
 case atStart => exact ⟨0, by omega, by omega, rfl, HI0⟩
 case round =>
  obtain ⟨j, hj, hgg, rfl, HI⟩ := hrel
  have HCX : Hid (∀ W, BelC wr W → W.cell? ⟨w.heap.size, 0, none⟩ = some (.string (S x.c)) ∧ W.cell? ⟨w.heap.size, 1, none⟩ = some (.int .i64 x.k) ∧ W.cell? ⟨w.heap.size, 2, none⟩ = some (.float .f64 (t00 x.e.t)) ∧ W.cell? ⟨w.heap.size, 3, none⟩ = some (.int .i64 x.e.src) ∧ W.cell? ⟨w.heap.size, 4, none⟩ = some (.int .i64 x.e.n) ∧ W.cell? ⟨w.heap.size, 5, none⟩ = some (.int .i64 x.e.dst) ∧ W.cell? ⟨w.heap.size, 6, none⟩ = some (.int .i64 x.e.pay)) := hid fun W hW => by
   have h := (H5.out.2.1.below HI.out.1 H5.out.2.1.lt).below hW.out (H5.out.2.1.below HI.out.1 H5.out.2.1.lt).lt
   exact ⟨h.cell 0, h.cell 1, h.cell 2, h.cell 3, h.cell 4, h.cell 5, h.cell 6⟩
  have HDR := hid (BelC.drew wr)
  obtain ⟨wo, hwo⟩ : ∃ wo, wo = wr := ⟨_, rfl⟩
  subst hwo
  by_cases hje : j < nd
  ·obtain ⟨y, hy⟩ : ∃ y, d[j]? = some y := ⟨_, List.getElem?_eq_getElem (by rw [← HX.out.2.2.2.2.2.2]; exact hje)⟩
   have hne : d ≠ [] := by rintro rfl; simp at hy
   obtain ⟨b1, o1, _, e1, _, hb1, k1⟩ := HV5.out.ex hne
   injection e1 with e1 e3 e4
   subst e1
   clear e3 e4
   have HCY : Hid (∀ W, BelC wo W → W.cell? ⟨b1, o1 + j * 7, none⟩ = some (.string (S y.c)) ∧ W.cell? ⟨b1, o1 + j * 7 + 1, none⟩ = some (.int .i64 y.k) ∧ W.cell? ⟨b1, o1 + j * 7 + 2, none⟩ = some (.float .f64 y.e.t) ∧ W.cell? ⟨b1, o1 + j * 7 + 3, none⟩ = some (.int .i64 y.e.src) ∧ W.cell? ⟨b1, o1 + j * 7 + 4, none⟩ = some (.int .i64 y.e.n) ∧ W.cell? ⟨b1, o1 + j * 7 + 5, none⟩ = some (.int .i64 y.e.dst) ∧ W.cell? ⟨b1, o1 + j * 7 + 6, none⟩ = some (.int .i64 y.e.pay)) := hid fun W hW => by
    have hb := HI.out.1.trans (hW.out.mono HI.out.1.size)
    have f1 : ∀ q u, (itC y)[q]? = some u → W.cell? ⟨b1, o1 + j * 7 + q, none⟩ = some u := fun q u hu => (World.cell?_of_block (hb.block b1 hb1)).trans (k1 j y hy q u hu)
    exact ⟨f1 0 _ rfl, f1 1 _ rfl, f1 2 _ rfl, f1 3 _ rfl, f1 4 _ rfl, f1 5 _ rfl, f1 6 _ rfl⟩
   have HL := less24_any y x.n0
   have HY := hid hy
   have hji : (j : Int) < (nd : Int) := by omega
   clear hy hne k1 hb1
   cases hlt : decide (y.lt x.n0)
   case true =>
    rw [hlt] at HL
    have H1 := hid (BelC.call (W1 := wo) HL)
    unfold itV at H1
    rw [show x.n0.c = x.c from rfl, show x.n0.k = x.k from rfl, show x.n0.e.t = t00 x.e.t from rfl, show x.n0.e.src = x.e.src from rfl, show x.n0.e.n = x.e.n from rfl, show x.n0.e.dst = x.e.dst from rfl, show x.n0.e.pay = x.e.pay from rfl] at H1
    have HLT := hid (of_decide_eq_true hlt)
    clear HL hlt
    go_wp2
    refine qC_region (by kernel_rfl) (by kernel_rfl) (BelC wo) HDR.out ?_
    repeat (first | (refine qC_none rfl (fun K hK => ?_); apply Exists.intro; refine ⟨fun w0 hw0 => ?_, ?_⟩; (focus (obtain ⟨q0, q1, q2, q3, q4, q5, q6⟩ := HCY.out w0 hw0; obtain ⟨r0, r1, r2, r3, r4, r5, r6⟩ := HCX.out w0 hw0; go_simp; first | exact rfl | exact ⟨rfl, rfl⟩ | (exact H1.out w0 hw0))); go_simp; refine hK _ ?_; clear hK K) | (refine qC_yes _ _ _ rfl rfl (by rfl) (fun K hK => ?_); apply Exists.intro; refine ⟨fun w0 hw0 => ?_, ?_⟩; (focus (obtain ⟨q0, q1, q2, q3, q4, q5, q6⟩ := HCY.out w0 hw0; obtain ⟨r0, r1, r2, r3, r4, r5, r6⟩ := HCX.out w0 hw0; go_simp; first | exact rfl | exact ⟨rfl, rfl⟩ | (exact H1.out w0 hw0))); go_simp; refine hK _ ?_; clear hK K) | (refine qC_no _ _ _ rfl rfl (by rfl) (fun K hK => ?_); go_simp; refine hK _ ?_; clear hK K) | (refine qC_undef _ _ _ rfl rfl (by rfl) (fun K hK => ?_); go_simp; refine hK _ ?_; clear hK K))
    refine qC_nil ?_
    intro w5 hw5
    have HI5 : Hid (PtI W5 w5 d x.n0 (j + 1)) := hid ⟨HI.out.1.trans (hw5.out.mono HI.out.1.size), fun z hz => by
     rw [List.take_add_one, HY.out, Option.toList_some] at hz
     rcases List.mem_append.1 hz with hz | hz
     ·exact HI.out.2 z hz
     ·rw [List.mem_singleton.1 hz]; exact HLT.out⟩
    clear hw5
    go_wp2
    go_roundg (nd - (j + 1))
    case measure => omega
    case rel => exact ⟨j + 1, by omega, by omega, by go_num, HI5⟩
   case false =>
    rw [hlt] at HL
    have H1 := hid (BelC.call (W1 := wo) HL)
    unfold itV at H1
    rw [show x.n0.c = x.c from rfl, show x.n0.k = x.k from rfl, show x.n0.e.t = t00 x.e.t from rfl, show x.n0.e.src = x.e.src from rfl, show x.n0.e.n = x.e.n from rfl, show x.n0.e.dst = x.e.dst from rfl, show x.n0.e.pay = x.e.pay from rfl] at H1
    have HCU : Hid (cut24 d x.n0 = j) := hid (cut24_of HI.out.2 (fun z hz => by rw [HY.out] at hz; injection hz with hz; rw [← hz]; exact of_decide_eq_false hlt) (by rw [← HX.out.2.2.2.2.2.2]; exact hj))
    clear HL hlt
    go_wp2
    refine qC_region (by kernel_rfl) (by kernel_rfl) (BelC wo) HDR.out ?_
    repeat (first | (refine qC_none rfl (fun K hK => ?_); apply Exists.intro; refine ⟨fun w0 hw0 => ?_, ?_⟩; (focus (obtain ⟨q0, q1, q2, q3, q4, q5, q6⟩ := HCY.out w0 hw0; obtain ⟨r0, r1, r2, r3, r4, r5, r6⟩ := HCX.out w0 hw0; go_simp; first | exact rfl | exact ⟨rfl, rfl⟩ | (exact H1.out w0 hw0))); go_simp; refine hK _ ?_; clear hK K) | (refine qC_yes _ _ _ rfl rfl (by rfl) (fun K hK => ?_); apply Exists.intro; refine ⟨fun w0 hw0 => ?_, ?_⟩; (focus (obtain ⟨q0, q1, q2, q3, q4, q5, q6⟩ := HCY.out w0 hw0; obtain ⟨r0, r1, r2, r3, r4, r5, r6⟩ := HCX.out w0 hw0; go_simp; first | exact rfl | exact ⟨rfl, rfl⟩ | (exact H1.out w0 hw0))); go_simp; refine hK _ ?_; clear hK K) | (refine qC_no _ _ _ rfl rfl (by rfl) (fun K hK => ?_); go_simp; refine hK _ ?_; clear hK K) | (refine qC_undef _ _ _ rfl rfl (by rfl) (fun K hK => ?_); go_simp; refine hK _ ?_; clear hK K))
    refine qC_nil ?_
    intro w5 hw5
    have hW5 := hw5.out
    clear hw5
    go_wp2
    have hv6 : Vw 7 itC w5 (.slice (some ⟨b1, o1, none⟩) nd cd) d := HV5.out.below (HI.out.1.trans (hW5.mono HI.out.1.size))
    have hBw : Blk wo w.heap.size 72 #[.string (S x.c), .int .i64 x.k, .float .f64 (t00 x.e.t), .int .i64 x.e.src, .int .i64 x.e.n, .int .i64 x.e.dst, .int .i64 x.e.pay] := H5.out.2.1.below HI.out.1 H5.out.2.1.lt
    have hB6 : Blk w5 w.heap.size 72 #[.string (S x.c), .int .i64 x.k, .float .f64 (t00 x.e.t), .int .i64 x.e.src, .int .i64 x.e.n, .int .i64 x.e.dst, .int .i64 x.e.pay] := hBw.below hW5 hBw.lt
    have hb6 : Below w.heap.size w w5 := H5.out.1.trans ((HI.out.1.trans (hW5.mono HI.out.1.size)).mono H5.out.1.size)
    have hnd := HX.out.2.2.2.2.2.2
    obtain ⟨p9, c9, e9, hc9⟩ := hv6.slice
    injection e9 with e91 e92 e93
    subst e93
    clear e91 e92
    rw [← hnd] at hc9
    obtain ⟨A, hA, hdr⟩ : ∃ A, (if cd = j then (some ⟨b1, o1, none⟩ : Option Addr) else some ⟨b1, o1 + j * 7, none⟩) = some A ∧ Vw 7 itC w5 (.slice (some A) (nd - j) (cd - j)) (d.drop j) := by
     by_cases h : cd = j
     ·refine ⟨_, if_pos h, ?_⟩
      have : d.drop j = [] := List.drop_eq_nil_of_le (by omega)
      rw [this, show nd - j = 0 by omega]
      exact Vw.nil _ _ _ _ _
     ·refine ⟨_, if_neg h, ?_⟩
      have h7 := hv6
      rw [hnd] at h7 ⊢
      exact h7.drop j (by omega)
    have ht : Vw 7 itC w5 (.slice (some ⟨b1, o1, none⟩) j cd) (d.take j) := by
     have h7 := hv6
     rw [hnd] at h7
     exact h7.take j (by omega)
    have hjc : j ≤ cd := by omega
    have hj0 : (0 : Int) ≤ (j : Int) := by omega
    have hjn2 : (j : Int) ≤ (nd : Int) := by omega
    have hjt : (j : Int).toNat = j := by omega
    have hjn3 : j ≤ nd := by omega
    have hn2 : nd ≤ 1000 := HDL.out
    have m0 : w5.cell? ⟨w.heap.size, 0, none⟩ = some (.string (S x.c)) := hB6.cell 0
    have m1 : w5.cell? ⟨w.heap.size, 1, none⟩ = some (.int .i64 x.k) := hB6.cell 1
    have m2 : w5.cell? ⟨w.heap.size, 2, none⟩ = some (.float .f64 (t00 x.e.t)) := hB6.cell 2
    have m3 : w5.cell? ⟨w.heap.size, 3, none⟩ = some (.int .i64 x.e.src) := hB6.cell 3
    have m4 : w5.cell? ⟨w.heap.size, 4, none⟩ = some (.int .i64 x.e.n) := hB6.cell 4
    have m5 : w5.cell? ⟨w.heap.size, 5, none⟩ = some (.int .i64 x.e.dst) := hB6.cell 5
    have m6 : w5.cell? ⟨w.heap.size, 6, none⟩ = some (.int .i64 x.e.pay) := hB6.cell 6
    have hlt6 := hB6.lt
    have HLT := hid hB6.lt
    have HVT := hid (fun W (hb : Below w5.heap.size w5 W) => ht.below hb)
    have HVD := hid (fun W (hb : Below w5.heap.size w5 W) => hdr.below hb)
    have HBM := hid hB6
    have HB6 := hid hb6
    have HBD := hid (below_drewN (Below.refl w5.heap.size w5) 1)
    have HSZ : Hid ((d.take j).length = j ∧ nd = d.length ∧ j ≤ nd) := hid ⟨by rw [List.length_take]; omega, hnd, hjn3⟩
    have HO0 : Hid (∀ W : World, w5.heap.size ≤ W.heap.size → (W.alloc (.cells #[] 72)).ownsRow w5.heap.size 72 7 (.slice (some ⟨W.heap.size, 0, none⟩) 0 0) 0 (rowV itC [])) := hid fun W hB => World.ownsRow_made W #[] 0 hB (Nat.zero_le _) (by simp)
    have HO1 : Hid (∀ o : Obj, ((w5.drew.alloc o).alloc (.cells #[] 72)).ownsRow w5.heap.size 72 7 (.slice (some ⟨w5.heap.size + 1, 0, none⟩) 0 0) 0 (rowV itC [])) := hid fun o => by
     have := HO0.out (w5.drew.alloc o) (below_alloc4 HBD.out _).size
     rw [show (w5.drew.alloc o).heap.size = w5.heap.size + 1 by simp] at this
     exact this
    have HM1 : Hid (∀ o : Obj, Vw 7 itC ((w5.drew.alloc o).alloc (.cells (itC x.n0).toArray 72)) (.slice (some ⟨w5.heap.size + 1, 0, none⟩) 1 1) [x.n0]) := hid fun o => by
     have := Vw.one (k := 7) (enc := itC) (x := x.n0) (Blk.new (w5.drew.alloc o) 72 _) (Nat.le_refl 1)
     rw [show (w5.drew.alloc o).heap.size = w5.heap.size + 1 by simp] at this
     exact this
    clear hv6 hBw hB6 hb6 hdr ht hc9 hW5 hnd
    go_region_law (first
     | (refine step_app_all rfl (.tmp 37) (.tmp 40) 56 rfl itC infItem24 Tryz.underlying56 rfl (by decide) (by decide) itC_len itC_one (l := []) (l2 := d.take j) (n := 0) (B := w5.heap.size)
          (by first | exact HO0.out _ HBD.out.size | exact HO1.out _ | exact (HO0.out _ HBD.out.size).alloc _)
          (by first | exact HVT.out _ (below_alloc4 HBD.out _) | exact HVT.out _ (below_alloc4 (below_alloc4 HBD.out _) _))
          (by have := HSZ.out.1; omega) (by first | exact (below_alloc4 HBD.out _).size | exact (below_alloc4 (below_alloc4 HBD.out _) _).size) (by rfl) (by rfl) ?_
        intro v7 W7 hO7 hk7
        rw [Nat.zero_add, HSZ.out.1, List.nil_append] at hO7
        obtain ⟨p7, c7, rfl⟩ := own_slice2 hO7
        have hb7 : Below w5.heap.size w5 W7 := by
         first
          | exact below_own4 (below_alloc4 HBD.out _) (HO0.out _ HBD.out.size) (Nat.le_refl _) hk7
          | exact below_own4 (below_alloc4 (below_alloc4 HBD.out _) _) (HO1.out _) (Nat.le_refl _) hk7
          | exact below_own4 (below_alloc4 (below_alloc4 HBD.out _) _) ((HO0.out _ HBD.out.size).alloc _) (Nat.le_refl _) hk7
        have hM7 : Blk W7 w.heap.size 72 #[.string (S x.c), .int .i64 x.k, .float .f64 (t00 x.e.t), .int .i64 x.e.src, .int .i64 x.e.n, .int .i64 x.e.dst, .int .i64 x.e.pay] := HBM.out.below hb7 HBM.out.lt
        have e0 : W7.cell? ⟨w.heap.size, 0, none⟩ = some (.string (S x.c)) := hM7.cell 0
        have e1 : W7.cell? ⟨w.heap.size, 1, none⟩ = some (.int .i64 x.k) := hM7.cell 1
        have e2 : W7.cell? ⟨w.heap.size, 2, none⟩ = some (.float .f64 (t00 x.e.t)) := hM7.cell 2
        have e3 : W7.cell? ⟨w.heap.size, 3, none⟩ = some (.int .i64 x.e.src) := hM7.cell 3
        have e4 : W7.cell? ⟨w.heap.size, 4, none⟩ = some (.int .i64 x.e.n) := hM7.cell 4
        have e5 : W7.cell? ⟨w.heap.size, 5, none⟩ = some (.int .i64 x.e.dst) := hM7.cell 5
        have e6 : W7.cell? ⟨w.heap.size, 6, none⟩ = some (.int .i64 x.e.pay) := hM7.cell 6
        have hV7 : Hid (Vw 7 itC (W7.alloc (.cells (itC x.n0).toArray 72)) (.slice (some ⟨W7.heap.size, 0, none⟩) 1 1) [x.n0]) := hid (Vw.one (Blk.new W7 _ _) (Nat.le_refl _))
        clear hM7)
     | (refine step_app_all rfl (.tmp 41) (.tmp 43) 56 rfl itC infItem24 Tryz.underlying56 rfl (by decide) (by decide) itC_len itC_one (l := d.take j) (l2 := [x.n0]) (B := w5.heap.size)
          (by first | exact hO7.alloc _ | exact hO7)
          (by first | exact hV7.out | exact (HM1.out _).kp4 hk7 (fun b hb => by simp [Value.ownBlock] at hb ⊢; omega) | exact (Vw.one ((Blk.new w5.drew _ _).alloc _) (Nat.le_refl _)).kp4 hk7 (fun b hb => by simp [Value.ownBlock] at hb ⊢; omega))
          (by have := HSZ.out.2.2; simp; omega) (by first | exact (below_alloc4 hb7 _).size | exact hb7.size) (by rfl) (by rfl) ?_
        intro v8 W8 hO8 hk8
        rw [show ([x.n0] : List It).length = 1 from rfl] at hO8
        obtain ⟨p8, c8, rfl⟩ := own_slice2 hO8
        have hb8 : Below w5.heap.size w5 W8 := by
         first
          | exact below_own4 (below_alloc4 hb7 _) (hO7.alloc _) (Nat.le_refl _) hk8
          | exact below_own4 hb7 hO7 (Nat.le_refl _) hk8)
     | (refine step_app_all rfl (.tmp 44) (.tmp 47) 56 rfl itC infItem24 Tryz.underlying56 rfl (by decide) (by decide) itC_len itC_one (l := d.take j ++ [x.n0]) (l2 := d.drop j) (B := w5.heap.size)
          hO8 (HVD.out _ hb8) (by have := HSZ.out; rw [List.length_drop]; omega) hb8.size (by rfl) (by rfl) ?_
        intro v10 W10 hO10 hk10
        obtain ⟨nn, hnn⟩ : ∃ nn, nn = j + 1 + (d.drop j).length := ⟨_, rfl⟩
        rw [← hnn] at hO10
        have HNN := hid hnn
        clear hnn
        have hb10 : Below w5.heap.size w5 W10 := below_own4 hb8 hO8 (Nat.le_refl _) hk10
        obtain ⟨p10, c10, rfl⟩ := own_slice2 hO10))
    all_goals
     have HF := hid (⟨hO10, hb10⟩ : _ ∧ _)
     clear hO10 hb10 hO8 hb8 hk8 hO7 hb7 hk7 hk10
     go_wp2
     go_ret
     refine ⟨_, rfl, ?_, HB6.out.trans (HF.out.2.mono HB6.out.size)⟩
     have h := own_base HF.out.1 HB6.out.size
     have e : (put24 l x.n0).length = nn := by
      rw [HP.out, HCU.out, HNN.out, List.length_append, List.length_cons, HSZ.out.1]
      omega
     rw [show d.take j ++ [x.n0] ++ d.drop j = d.take j ++ x.n0 :: d.drop j by simp] at h
     rw [e, HP.out, HCU.out]
     exact h
  ·have hji : ¬ (j : Int) < (nd : Int) := by omega
   have HCU : Hid (cut24 d x.n0 = j) := hid (cut24_of HI.out.2 (fun z hz => by have := (List.getElem?_eq_some_iff.1 hz).1; rw [← HX.out.2.2.2.2.2.2] at this; omega) (by rw [← HX.out.2.2.2.2.2.2]; exact hj))
   go_wp2
   refine qC_region (by kernel_rfl) (by kernel_rfl) (BelC wo) HDR.out ?_
   repeat (first | (refine qC_none rfl (fun K hK => ?_); apply Exists.intro; refine ⟨fun w0 hw0 => ?_, ?_⟩; (focus (skip; go_simp; first | exact rfl | exact ⟨rfl, rfl⟩ | (fail))); go_simp; refine hK _ ?_; clear hK K) | (refine qC_yes _ _ _ rfl rfl (by rfl) (fun K hK => ?_); apply Exists.intro; refine ⟨fun w0 hw0 => ?_, ?_⟩; (focus (skip; go_simp; first | exact rfl | exact ⟨rfl, rfl⟩ | (fail))); go_simp; refine hK _ ?_; clear hK K) | (refine qC_no _ _ _ rfl rfl (by rfl) (fun K hK => ?_); go_simp; refine hK _ ?_; clear hK K) | (refine qC_undef _ _ _ rfl rfl (by rfl) (fun K hK => ?_); go_simp; refine hK _ ?_; clear hK K))
   refine qC_nil ?_
   intro w5 hw5
   have hW5 := hw5.out
   clear hw5
   rcases HPD.out with hz | ⟨b1, o1, rfl⟩
   case inl =>
    obtain ⟨rfl, rfl, rfl⟩ := hz
    have hBw : Blk wo w.heap.size 72 #[.string (S x.c), .int .i64 x.k, .float .f64 (t00 x.e.t), .int .i64 x.e.src, .int .i64 x.e.n, .int .i64 x.e.dst, .int .i64 x.e.pay] := H5.out.2.1.below HI.out.1 H5.out.2.1.lt
    have hB6 : Blk w5 w.heap.size 72 #[.string (S x.c), .int .i64 x.k, .float .f64 (t00 x.e.t), .int .i64 x.e.src, .int .i64 x.e.n, .int .i64 x.e.dst, .int .i64 x.e.pay] := hBw.below hW5 hBw.lt
    have hb6 : Below w.heap.size w w5 := H5.out.1.trans ((HI.out.1.trans (hW5.mono HI.out.1.size)).mono H5.out.1.size)
    have hdz : d = [] := List.length_eq_zero_iff.1 HX.out.2.2.2.2.2.2.symm
    have hjz : j = 0 := by omega
    subst hdz hjz
    have hdr : Vw 7 itC w5 (.slice none 0 0) (([] : List It).drop 0) := Vw.nil _ _ _ _ _
    have ht : Vw 7 itC w5 (.slice none 0 0) (([] : List It).take 0) := Vw.nil _ _ _ _ _
    go_wp2
    have m0 : w5.cell? ⟨w.heap.size, 0, none⟩ = some (.string (S x.c)) := hB6.cell 0
    have m1 : w5.cell? ⟨w.heap.size, 1, none⟩ = some (.int .i64 x.k) := hB6.cell 1
    have m2 : w5.cell? ⟨w.heap.size, 2, none⟩ = some (.float .f64 (t00 x.e.t)) := hB6.cell 2
    have m3 : w5.cell? ⟨w.heap.size, 3, none⟩ = some (.int .i64 x.e.src) := hB6.cell 3
    have m4 : w5.cell? ⟨w.heap.size, 4, none⟩ = some (.int .i64 x.e.n) := hB6.cell 4
    have m5 : w5.cell? ⟨w.heap.size, 5, none⟩ = some (.int .i64 x.e.dst) := hB6.cell 5
    have m6 : w5.cell? ⟨w.heap.size, 6, none⟩ = some (.int .i64 x.e.pay) := hB6.cell 6
    have hlt6 := hB6.lt
    have HLT := hid hB6.lt
    have HVT := hid (fun W (hb : Below w5.heap.size w5 W) => ht.below hb)
    have HVD := hid (fun W (hb : Below w5.heap.size w5 W) => hdr.below hb)
    have HBM := hid hB6
    have HB6 := hid hb6
    have HBD := hid (below_drewN (Below.refl w5.heap.size w5) 1)
    have HSZ : Hid ((([] : List It).take 0).length = 0 ∧ 0 = 0 ∧ 0 ≤ 0) := hid ⟨rfl, rfl, Nat.le_refl _⟩
    have HO0 : Hid (∀ W : World, w5.heap.size ≤ W.heap.size → (W.alloc (.cells #[] 72)).ownsRow w5.heap.size 72 7 (.slice (some ⟨W.heap.size, 0, none⟩) 0 0) 0 (rowV itC [])) := hid fun W hB => World.ownsRow_made W #[] 0 hB (Nat.zero_le _) (by simp)
    have HO1 : Hid (∀ o : Obj, ((w5.drew.alloc o).alloc (.cells #[] 72)).ownsRow w5.heap.size 72 7 (.slice (some ⟨w5.heap.size + 1, 0, none⟩) 0 0) 0 (rowV itC [])) := hid fun o => by
     have := HO0.out (w5.drew.alloc o) (below_alloc4 HBD.out _).size
     rw [show (w5.drew.alloc o).heap.size = w5.heap.size + 1 by simp] at this
     exact this
    have HM1 : Hid (∀ o : Obj, Vw 7 itC ((w5.drew.alloc o).alloc (.cells (itC x.n0).toArray 72)) (.slice (some ⟨w5.heap.size + 1, 0, none⟩) 1 1) [x.n0]) := hid fun o => by
     have := Vw.one (k := 7) (enc := itC) (x := x.n0) (Blk.new (w5.drew.alloc o) 72 _) (Nat.le_refl 1)
     rw [show (w5.drew.alloc o).heap.size = w5.heap.size + 1 by simp] at this
     exact this
    clear hBw hB6 hb6 hdr ht hW5
    go_region_law (first
     | (refine step_app_all rfl (.tmp 37) (.tmp 40) 56 rfl itC infItem24 Tryz.underlying56 rfl (by decide) (by decide) itC_len itC_one (l := []) (l2 := ([] : List It).take 0) (n := 0) (B := w5.heap.size)
          (by first | exact HO0.out _ HBD.out.size | exact HO1.out _ | exact (HO0.out _ HBD.out.size).alloc _)
          (by first | exact HVT.out _ (below_alloc4 HBD.out _) | exact HVT.out _ (below_alloc4 (below_alloc4 HBD.out _) _))
          (by have := HSZ.out.1; omega) (by first | exact (below_alloc4 HBD.out _).size | exact (below_alloc4 (below_alloc4 HBD.out _) _).size) (by rfl) (by rfl) ?_
        intro v7 W7 hO7 hk7
        rw [Nat.zero_add, HSZ.out.1, List.nil_append] at hO7
        obtain ⟨p7, c7, rfl⟩ := own_slice2 hO7
        have hb7 : Below w5.heap.size w5 W7 := by
         first
          | exact below_own4 (below_alloc4 HBD.out _) (HO0.out _ HBD.out.size) (Nat.le_refl _) hk7
          | exact below_own4 (below_alloc4 (below_alloc4 HBD.out _) _) (HO1.out _) (Nat.le_refl _) hk7
          | exact below_own4 (below_alloc4 (below_alloc4 HBD.out _) _) ((HO0.out _ HBD.out.size).alloc _) (Nat.le_refl _) hk7
        have hM7 : Blk W7 w.heap.size 72 #[.string (S x.c), .int .i64 x.k, .float .f64 (t00 x.e.t), .int .i64 x.e.src, .int .i64 x.e.n, .int .i64 x.e.dst, .int .i64 x.e.pay] := HBM.out.below hb7 HBM.out.lt
        have e0 : W7.cell? ⟨w.heap.size, 0, none⟩ = some (.string (S x.c)) := hM7.cell 0
        have e1 : W7.cell? ⟨w.heap.size, 1, none⟩ = some (.int .i64 x.k) := hM7.cell 1
        have e2 : W7.cell? ⟨w.heap.size, 2, none⟩ = some (.float .f64 (t00 x.e.t)) := hM7.cell 2
        have e3 : W7.cell? ⟨w.heap.size, 3, none⟩ = some (.int .i64 x.e.src) := hM7.cell 3
        have e4 : W7.cell? ⟨w.heap.size, 4, none⟩ = some (.int .i64 x.e.n) := hM7.cell 4
        have e5 : W7.cell? ⟨w.heap.size, 5, none⟩ = some (.int .i64 x.e.dst) := hM7.cell 5
        have e6 : W7.cell? ⟨w.heap.size, 6, none⟩ = some (.int .i64 x.e.pay) := hM7.cell 6
        have hV7 : Hid (Vw 7 itC (W7.alloc (.cells (itC x.n0).toArray 72)) (.slice (some ⟨W7.heap.size, 0, none⟩) 1 1) [x.n0]) := hid (Vw.one (Blk.new W7 _ _) (Nat.le_refl _))
        clear hM7)
     | (refine step_app_all rfl (.tmp 41) (.tmp 43) 56 rfl itC infItem24 Tryz.underlying56 rfl (by decide) (by decide) itC_len itC_one (l := ([] : List It).take 0) (l2 := [x.n0]) (B := w5.heap.size)
          (by first | exact hO7.alloc _ | exact hO7)
          (by first | exact hV7.out | exact (HM1.out _).kp4 hk7 (fun b hb => by simp [Value.ownBlock] at hb ⊢; omega) | exact (Vw.one ((Blk.new w5.drew _ _).alloc _) (Nat.le_refl _)).kp4 hk7 (fun b hb => by simp [Value.ownBlock] at hb ⊢; omega))
          (by simp) (by first | exact (below_alloc4 hb7 _).size | exact hb7.size) (by rfl) (by rfl) ?_
        intro v8 W8 hO8 hk8
        rw [show ([x.n0] : List It).length = 1 from rfl] at hO8
        obtain ⟨p8, c8, rfl⟩ := own_slice2 hO8
        have hb8 : Below w5.heap.size w5 W8 := by
         first
          | exact below_own4 (below_alloc4 hb7 _) (hO7.alloc _) (Nat.le_refl _) hk8
          | exact below_own4 hb7 hO7 (Nat.le_refl _) hk8)
     | (refine step_app_all rfl (.tmp 44) (.tmp 47) 56 rfl itC infItem24 Tryz.underlying56 rfl (by decide) (by decide) itC_len itC_one (l := ([] : List It).take 0 ++ [x.n0]) (l2 := ([] : List It).drop 0) (B := w5.heap.size)
          hO8 (HVD.out _ hb8) (by simp) hb8.size (by rfl) (by rfl) ?_
        intro v10 W10 hO10 hk10
        obtain ⟨nn, hnn⟩ : ∃ nn, nn = 0 + 1 + (([] : List It).drop 0).length := ⟨_, rfl⟩
        rw [← hnn] at hO10
        have HNN := hid hnn
        clear hnn
        have hb10 : Below w5.heap.size w5 W10 := below_own4 hb8 hO8 (Nat.le_refl _) hk10
        obtain ⟨p10, c10, rfl⟩ := own_slice2 hO10))
    all_goals
     have HF := hid (⟨hO10, hb10⟩ : _ ∧ _)
     clear hO10 hb10 hO8 hb8 hk8 hO7 hb7 hk7 hk10
     go_wp2
     go_ret
     refine ⟨_, rfl, ?_, HB6.out.trans (HF.out.2.mono HB6.out.size)⟩
     have h := own_base HF.out.1 HB6.out.size
     have e : (put24 l x.n0).length = nn := by
      rw [HP.out, HCU.out, HNN.out, List.length_append, List.length_cons, HSZ.out.1]
      omega
     rw [show ([] : List It).take 0 ++ [x.n0] ++ ([] : List It).drop 0 = ([] : List It).take 0 ++ x.n0 :: ([] : List It).drop 0 by simp] at h
     rw [e, HP.out, HCU.out]
     exact h
   go_wp2
   have hv6 : Vw 7 itC w5 (.slice (some ⟨b1, o1, none⟩) nd cd) d := HV5.out.below (HI.out.1.trans (hW5.mono HI.out.1.size))
   have hBw : Blk wo w.heap.size 72 #[.string (S x.c), .int .i64 x.k, .float .f64 (t00 x.e.t), .int .i64 x.e.src, .int .i64 x.e.n, .int .i64 x.e.dst, .int .i64 x.e.pay] := H5.out.2.1.below HI.out.1 H5.out.2.1.lt
   have hB6 : Blk w5 w.heap.size 72 #[.string (S x.c), .int .i64 x.k, .float .f64 (t00 x.e.t), .int .i64 x.e.src, .int .i64 x.e.n, .int .i64 x.e.dst, .int .i64 x.e.pay] := hBw.below hW5 hBw.lt
   have hb6 : Below w.heap.size w w5 := H5.out.1.trans ((HI.out.1.trans (hW5.mono HI.out.1.size)).mono H5.out.1.size)
   have hnd := HX.out.2.2.2.2.2.2
   obtain ⟨p9, c9, e9, hc9⟩ := hv6.slice
   injection e9 with e91 e92 e93
   subst e93
   clear e91 e92
   rw [← hnd] at hc9
   obtain ⟨A, hA, hdr⟩ : ∃ A, (if cd = j then (some ⟨b1, o1, none⟩ : Option Addr) else some ⟨b1, o1 + j * 7, none⟩) = some A ∧ Vw 7 itC w5 (.slice (some A) (nd - j) (cd - j)) (d.drop j) := by
    by_cases h : cd = j
    ·refine ⟨_, if_pos h, ?_⟩
     have : d.drop j = [] := List.drop_eq_nil_of_le (by omega)
     rw [this, show nd - j = 0 by omega]
     exact Vw.nil _ _ _ _ _
    ·refine ⟨_, if_neg h, ?_⟩
     have h7 := hv6
     rw [hnd] at h7 ⊢
     exact h7.drop j (by omega)
   have ht : Vw 7 itC w5 (.slice (some ⟨b1, o1, none⟩) j cd) (d.take j) := by
    have h7 := hv6
    rw [hnd] at h7
    exact h7.take j (by omega)
   have hjc : j ≤ cd := by omega
   have hj0 : (0 : Int) ≤ (j : Int) := by omega
   have hjn2 : (j : Int) ≤ (nd : Int) := by omega
   have hjt : (j : Int).toNat = j := by omega
   have hjn3 : j ≤ nd := by omega
   have hn2 : nd ≤ 1000 := HDL.out
   have m0 : w5.cell? ⟨w.heap.size, 0, none⟩ = some (.string (S x.c)) := hB6.cell 0
   have m1 : w5.cell? ⟨w.heap.size, 1, none⟩ = some (.int .i64 x.k) := hB6.cell 1
   have m2 : w5.cell? ⟨w.heap.size, 2, none⟩ = some (.float .f64 (t00 x.e.t)) := hB6.cell 2
   have m3 : w5.cell? ⟨w.heap.size, 3, none⟩ = some (.int .i64 x.e.src) := hB6.cell 3
   have m4 : w5.cell? ⟨w.heap.size, 4, none⟩ = some (.int .i64 x.e.n) := hB6.cell 4
   have m5 : w5.cell? ⟨w.heap.size, 5, none⟩ = some (.int .i64 x.e.dst) := hB6.cell 5
   have m6 : w5.cell? ⟨w.heap.size, 6, none⟩ = some (.int .i64 x.e.pay) := hB6.cell 6
   have hlt6 := hB6.lt
   have HLT := hid hB6.lt
   have HVT := hid (fun W (hb : Below w5.heap.size w5 W) => ht.below hb)
   have HVD := hid (fun W (hb : Below w5.heap.size w5 W) => hdr.below hb)
   have HBM := hid hB6
   have HB6 := hid hb6
   have HBD := hid (below_drewN (Below.refl w5.heap.size w5) 1)
   have HSZ : Hid ((d.take j).length = j ∧ nd = d.length ∧ j ≤ nd) := hid ⟨by rw [List.length_take]; omega, hnd, hjn3⟩
   have HO0 : Hid (∀ W : World, w5.heap.size ≤ W.heap.size → (W.alloc (.cells #[] 72)).ownsRow w5.heap.size 72 7 (.slice (some ⟨W.heap.size, 0, none⟩) 0 0) 0 (rowV itC [])) := hid fun W hB => World.ownsRow_made W #[] 0 hB (Nat.zero_le _) (by simp)
   have HO1 : Hid (∀ o : Obj, ((w5.drew.alloc o).alloc (.cells #[] 72)).ownsRow w5.heap.size 72 7 (.slice (some ⟨w5.heap.size + 1, 0, none⟩) 0 0) 0 (rowV itC [])) := hid fun o => by
    have := HO0.out (w5.drew.alloc o) (below_alloc4 HBD.out _).size
    rw [show (w5.drew.alloc o).heap.size = w5.heap.size + 1 by simp] at this
    exact this
   have HM1 : Hid (∀ o : Obj, Vw 7 itC ((w5.drew.alloc o).alloc (.cells (itC x.n0).toArray 72)) (.slice (some ⟨w5.heap.size + 1, 0, none⟩) 1 1) [x.n0]) := hid fun o => by
    have := Vw.one (k := 7) (enc := itC) (x := x.n0) (Blk.new (w5.drew.alloc o) 72 _) (Nat.le_refl 1)
    rw [show (w5.drew.alloc o).heap.size = w5.heap.size + 1 by simp] at this
    exact this
   clear hv6 hBw hB6 hb6 hdr ht hc9 hW5 hnd
   go_region_law (first
    | (refine step_app_all rfl (.tmp 37) (.tmp 40) 56 rfl itC infItem24 Tryz.underlying56 rfl (by decide) (by decide) itC_len itC_one (l := []) (l2 := d.take j) (n := 0) (B := w5.heap.size)
         (by first | exact HO0.out _ HBD.out.size | exact HO1.out _ | exact (HO0.out _ HBD.out.size).alloc _)
         (by first | exact HVT.out _ (below_alloc4 HBD.out _) | exact HVT.out _ (below_alloc4 (below_alloc4 HBD.out _) _))
         (by have := HSZ.out.1; omega) (by first | exact (below_alloc4 HBD.out _).size | exact (below_alloc4 (below_alloc4 HBD.out _) _).size) (by rfl) (by rfl) ?_
       intro v7 W7 hO7 hk7
       rw [Nat.zero_add, HSZ.out.1, List.nil_append] at hO7
       obtain ⟨p7, c7, rfl⟩ := own_slice2 hO7
       have hb7 : Below w5.heap.size w5 W7 := by
        first
         | exact below_own4 (below_alloc4 HBD.out _) (HO0.out _ HBD.out.size) (Nat.le_refl _) hk7
         | exact below_own4 (below_alloc4 (below_alloc4 HBD.out _) _) (HO1.out _) (Nat.le_refl _) hk7
         | exact below_own4 (below_alloc4 (below_alloc4 HBD.out _) _) ((HO0.out _ HBD.out.size).alloc _) (Nat.le_refl _) hk7
       have hM7 : Blk W7 w.heap.size 72 #[.string (S x.c), .int .i64 x.k, .float .f64 (t00 x.e.t), .int .i64 x.e.src, .int .i64 x.e.n, .int .i64 x.e.dst, .int .i64 x.e.pay] := HBM.out.below hb7 HBM.out.lt
       have e0 : W7.cell? ⟨w.heap.size, 0, none⟩ = some (.string (S x.c)) := hM7.cell 0
       have e1 : W7.cell? ⟨w.heap.size, 1, none⟩ = some (.int .i64 x.k) := hM7.cell 1
       have e2 : W7.cell? ⟨w.heap.size, 2, none⟩ = some (.float .f64 (t00 x.e.t)) := hM7.cell 2
       have e3 : W7.cell? ⟨w.heap.size, 3, none⟩ = some (.int .i64 x.e.src) := hM7.cell 3
       have e4 : W7.cell? ⟨w.heap.size, 4, none⟩ = some (.int .i64 x.e.n) := hM7.cell 4
       have e5 : W7.cell? ⟨w.heap.size, 5, none⟩ = some (.int .i64 x.e.dst) := hM7.cell 5
       have e6 : W7.cell? ⟨w.heap.size, 6, none⟩ = some (.int .i64 x.e.pay) := hM7.cell 6
       have hV7 : Hid (Vw 7 itC (W7.alloc (.cells (itC x.n0).toArray 72)) (.slice (some ⟨W7.heap.size, 0, none⟩) 1 1) [x.n0]) := hid (Vw.one (Blk.new W7 _ _) (Nat.le_refl _))
       clear hM7)
    | (refine step_app_all rfl (.tmp 41) (.tmp 43) 56 rfl itC infItem24 Tryz.underlying56 rfl (by decide) (by decide) itC_len itC_one (l := d.take j) (l2 := [x.n0]) (B := w5.heap.size)
         (by first | exact hO7.alloc _ | exact hO7)
         (by first | exact hV7.out | exact (HM1.out _).kp4 hk7 (fun b hb => by simp [Value.ownBlock] at hb ⊢; omega) | exact (Vw.one ((Blk.new w5.drew _ _).alloc _) (Nat.le_refl _)).kp4 hk7 (fun b hb => by simp [Value.ownBlock] at hb ⊢; omega))
         (by have := HSZ.out.2.2; simp; omega) (by first | exact (below_alloc4 hb7 _).size | exact hb7.size) (by rfl) (by rfl) ?_
       intro v8 W8 hO8 hk8
       rw [show ([x.n0] : List It).length = 1 from rfl] at hO8
       obtain ⟨p8, c8, rfl⟩ := own_slice2 hO8
       have hb8 : Below w5.heap.size w5 W8 := by
        first
         | exact below_own4 (below_alloc4 hb7 _) (hO7.alloc _) (Nat.le_refl _) hk8
         | exact below_own4 hb7 hO7 (Nat.le_refl _) hk8)
    | (refine step_app_all rfl (.tmp 44) (.tmp 47) 56 rfl itC infItem24 Tryz.underlying56 rfl (by decide) (by decide) itC_len itC_one (l := d.take j ++ [x.n0]) (l2 := d.drop j) (B := w5.heap.size)
         hO8 (HVD.out _ hb8) (by have := HSZ.out; rw [List.length_drop]; omega) hb8.size (by rfl) (by rfl) ?_
       intro v10 W10 hO10 hk10
       obtain ⟨nn, hnn⟩ : ∃ nn, nn = j + 1 + (d.drop j).length := ⟨_, rfl⟩
       rw [← hnn] at hO10
       have HNN := hid hnn
       clear hnn
       have hb10 : Below w5.heap.size w5 W10 := below_own4 hb8 hO8 (Nat.le_refl _) hk10
       obtain ⟨p10, c10, rfl⟩ := own_slice2 hO10))
   all_goals
    have HF := hid (⟨hO10, hb10⟩ : _ ∧ _)
    clear hO10 hb10 hO8 hb8 hk8 hO7 hb7 hk7 hk10
    go_wp2
    go_ret
    refine ⟨_, rfl, ?_, HB6.out.trans (HF.out.2.mono HB6.out.size)⟩
    have h := own_base HF.out.1 HB6.out.size
    have e : (put24 l x.n0).length = nn := by
     rw [HP.out, HCU.out, HNN.out, List.length_append, List.length_cons, HSZ.out.1]
     omega
    rw [show d.take j ++ [x.n0] ++ d.drop j = d.take j ++ x.n0 :: d.drop j by simp] at h
    rw [e, HP.out, HCU.out]
    exact h
end
section
open Go.RowKit Go.Lib
section
variable {w W W' : World} {tb xb yb : Nat} {s : SL} {n k : Nat} {ex : List (Value × List It)} {all la lb : List It} {v : Value}
theorem inside_all (l : List It) : insideO l [] [] = l := List.filter_eq_self.2 fun y _ => by simp [inR]
end
theorem put24_right {l : List It} (h : AscO l) (hl : ∀ y ∈ l, y.fit) {x : It} (hx : x.right) : put24 l x.n0 = setO l x.nrm := by
 rw [It.n0_right hx.2, put24_eq h hl (show x.nrm.fit from hx.1)]
end
section
open Go.RowKit Go.Lib
theorem it_nrm_self {x : It} (h : x.e.nrm = x.e) : x.nrm = x := by
 obtain ⟨c, k, e⟩ := x
 unfold It.nrm
 simp only at h ⊢
 rw [h]
theorem fold_next {ls : List It} {j : Nat} {x : It} (h : ls[j]? = some x) {l : List It} (hl : AscO l) (hf : ∀ y ∈ l, y.fit) (hls : ∀ y ∈ ls, y.right ∧ y.e.ok ∧ y.e.nrm = y.e) :
  put24 ((ls.take j).foldl setO l) x.n0 = (ls.take (j + 1)).foldl setO l := by
 have hx := hls x (List.mem_of_getElem? h)
 have ha : ∀ (t l : List It), AscO l → AscO (t.foldl setO l) := fun t => by
  induction t with
  | nil => intro l h; exact h
  | cons y t ih => intro l h; exact ih _ (setO_asc h y)
 have hff : ∀ (t l : List It), (∀ y ∈ l, y.fit) → (∀ y ∈ t, y.fit) → ∀ y ∈ t.foldl setO l, y.fit := fun t => by
  induction t with
  | nil => intro l h _; exact h
  | cons y t ih =>
   intro l h h2
   refine ih _ (fun z hz => ?_) (fun z hz => h2 z (by simp [hz]))
   rcases mem_setO hz with rfl | hz
   ·exact h2 _ (by simp)
   ·exact h z hz
 rw [put24_right (ha _ _ hl) (hff _ _ hf (fun y hy => (hls y (List.mem_of_mem_take hy)).1.1)) hx.1, it_nrm_self hx.2.2, putO_next h]
theorem fold_len : ∀ (t l : List It), (t.foldl setO l).length ≤ l.length + t.length
 | [], l => by simp
 | y :: t, l => by
  rw [List.foldl_cons, List.length_cons]
  have h1 := fold_len t (setO l y)
  have h2 := setO_length l y
  omega
def ItAt (W : World) (b o j : Nat) (x : It) : Prop := W.cell? ⟨b, o + j * 7, none⟩ = some (.string (S x.c)) ∧ W.cell? ⟨b, o + j * 7 + 1, none⟩ = some (.int .i64 x.k) ∧ W.cell? ⟨b, o + j * 7 + 2, none⟩ = some (.float .f64 x.e.t) ∧ W.cell? ⟨b, o + j * 7 + 3, none⟩ = some (.int .i64 x.e.src) ∧ W.cell? ⟨b, o + j * 7 + 4, none⟩ = some (.int .i64 x.e.n) ∧ W.cell? ⟨b, o + j * 7 + 5, none⟩ = some (.int .i64 x.e.dst) ∧ W.cell? ⟨b, o + j * 7 + 6, none⟩ = some (.int .i64 x.e.pay)
theorem Vw.itAt {W : World} {p : Option Addr} {n c j : Nat} {l : List It} {x : It} (h : Vw 7 itC W (.slice p n c) l) (hx : l[j]? = some x) : ∃ b o, p = some ⟨b, o, none⟩ ∧ ∀ W', Below W.heap.size W W' → ItAt W' b o j x := by
 obtain ⟨b, o, c', e, _, hb, k⟩ := h.ex (by rintro rfl; simp at hx)
 injection e with e1 _ _
 refine ⟨b, o, e1, fun W' hW => ?_⟩
 have f1 : ∀ q u, (itC x)[q]? = some u → W'.cell? ⟨b, o + j * 7 + q, none⟩ = some u := fun q u hu => (World.cell?_of_block (hW.block b hb)).trans (k j x hx q u hu)
 exact ⟨f1 0 _ rfl, f1 1 _ rfl, f1 2 _ rfl, f1 3 _ rfl, f1 4 _ rfl, f1 5 _ rfl, f1 6 _ rfl⟩
end
end Go.Proofs.YtnnghcooidjlhaaGreat
