/- Parts of the proof: Mp Mq Ra. -/
import Derived.Laws.MakeOwn
import Derived.Lib.Hide
import Derived.Lib.SliceRun
import Derived.RegionTactic
import Derived.Test.YtnnghcooidjlhaaGreatD02
import Derived.Test.YtnnghcooidjlhaaGreatE28
set_option linter.all false
set_option maxRecDepth 100000
namespace Go.Proofs.YtnnghcooidjlhaaGreat
section
open Go.RowKit Go.Lib
section
variable {w : World} {g : Nat} {s : Bs}
set_option maxHeartbeats 8000000 in
theorem rend_any (h : RdI w g s s.length) (hl : s.length ≤ 1000) (ok : Bool) :
  Calls Tryz.prog 136 #[.pointer (some ⟨g, 0, none⟩), .bool ok] w fun e w' => e = .returned (.int .i64 (if ok = true then 0 else 6)) ∧ Below w.heap.size w w' := by
 have HCL : Hid (∀ W, BelC w W → W.cell? ⟨g, 0, none⟩ = some (.string (S s)) ∧ W.cell? ⟨g, 1, none⟩ = some (.int .i64 s.length)) := hid fun W hW => by
  have h1 : RdI W g s s.length := hW.blk h
  exact ⟨h1.cells.1, h1.cells.2.1⟩
 obtain ⟨c0, c1, c2⟩ := h.cells
 have hdec : decide ((s.length : Int) < (s.length : Int)) = false := decide_eq_false (by omega)
 clear h hl
 cases ok with
 | true =>
  go_enter Tryz.func136, Tryz.ntmps136
  go_wp2
  refine qC_region (by kernel_rfl) (by kernel_rfl) (BelC w) (BelC.drew w) ?_
  repeat (first | (refine qC_none rfl (fun K hK => ?_); apply Exists.intro; refine ⟨fun w0 hw0 => ?_, ?_⟩; (focus (obtain ⟨q0, q1⟩ := HCL.out w0 hw0; go_simp; first | exact rfl | exact ⟨rfl, rfl⟩ | (fail))); go_simp; refine hK _ ?_; clear hK K) | (refine qC_yes _ _ _ rfl rfl (by rfl) (fun K hK => ?_); apply Exists.intro; refine ⟨fun w0 hw0 => ?_, ?_⟩; (focus (obtain ⟨q0, q1⟩ := HCL.out w0 hw0; go_simp; first | exact rfl | exact ⟨rfl, rfl⟩ | (fail))); go_simp; refine hK _ ?_; clear hK K) | (refine qC_no _ _ _ rfl rfl (by rfl) (fun K hK => ?_); go_simp; refine hK _ ?_; clear hK K) | (refine qC_undef _ _ _ rfl rfl (by rfl) (fun K hK => ?_); go_simp; refine hK _ ?_; clear hK K))
  refine qC_nil ?_
  intro w1 hw1
  have HB := hid hw1.out
  clear hw1
  go_wp2
  go_ret
  exact ⟨rfl, HB.out⟩
 | false =>
  go_enter Tryz.func136, Tryz.ntmps136
  go_wp2
  refine qC_region (by kernel_rfl) (by kernel_rfl) (BelC w) (BelC.drew w) ?_
  repeat (first | (refine qC_none rfl (fun K hK => ?_); apply Exists.intro; refine ⟨fun w0 hw0 => ?_, ?_⟩; (focus (obtain ⟨q0, q1⟩ := HCL.out w0 hw0; go_simp; first | exact rfl | exact ⟨rfl, rfl⟩ | (fail))); go_simp; refine hK _ ?_; clear hK K) | (refine qC_yes _ _ _ rfl rfl (by rfl) (fun K hK => ?_); apply Exists.intro; refine ⟨fun w0 hw0 => ?_, ?_⟩; (focus (obtain ⟨q0, q1⟩ := HCL.out w0 hw0; go_simp; first | exact rfl | exact ⟨rfl, rfl⟩ | (fail))); go_simp; refine hK _ ?_; clear hK K) | (refine qC_no _ _ _ rfl rfl (by rfl) (fun K hK => ?_); go_simp; refine hK _ ?_; clear hK K) | (refine qC_undef _ _ _ rfl rfl (by rfl) (fun K hK => ?_); go_simp; refine hK _ ?_; clear hK K))
  refine qC_nil ?_
  intro w1 hw1
  have HB := hid hw1.out
  clear hw1
  go_wp2
  go_ret
  exact ⟨rfl, HB.out⟩
structure DstI (df : Nat) (bd caps : Array Value) (g : Nat) (s : Bs) (i j : Nat) (d : Int) (K : World → Prop) : Prop where
 en : ∀ vs W, Sem.run Tryz.prog (callFunc df vs) W = .ok (.enter df vs) W
 go : ∀ W, RdI W g s i → K W → Calls Tryz.prog df (bd ++ caps) W fun e w' => e = .returned (.int .i64 d) ∧ RdI w' g s j ∧ Kp [g] W w'
 keep : ∀ W W', K W → Kp [g] W W' → K W'
structure EvW (w W : World) (g : Nat) (s : Bs) (i : Nat) (cs : List Value) : Prop where
 rd : RdI W g s i
 ev : Blk W (w.heap.size + 1) 67 cs.toArray
 res : Blk W w.heap.size 67 #[.float .f64 0, .int .i64 0, .int .i64 0, .int .i64 0, .int .i64 0]
 kp : Kp [g] w W
 lt : g < w.heap.size
theorem EvW.call {w W W' : World} {g : Nat} {s : Bs} {i i' : Nat} {cs : List Value} (h : EvW w W g s i cs) (hr : RdI W' g s i') (hk : Kp [g] W W') : EvW w W' g s i' cs := by
 have := h.lt
 exact ⟨hr, h.ev.kp hk (by simp; omega), h.res.kp hk (by simp; omega), h.kp.trans hk, h.lt⟩
theorem EvW.put {w W : World} {g : Nat} {s : Bs} {i : Nat} {cs : List Value} (h : EvW w W g s i cs) (k : Nat) (u : Value) : EvW w (W.setCell ⟨w.heap.size + 1, k, none⟩ u) g s i (cs.set k u) := by
 have hlt := h.lt
 refine ⟨?_, by simpa using h.ev.set_ k u, h.res.far (by simp) u, h.kp.setCell (.inr (Nat.le_succ _)) u, h.lt⟩
 exact Blk.far h.rd (by show g ≠ w.heap.size + 1; omega) u
theorem EvW.c5 {w W : World} {g : Nat} {s : Bs} {i : Nat} {a b c d e : Value} (h : EvW w W g s i [a, b, c, d, e]) : W.cell? ⟨w.heap.size + 1, 0, none⟩ = some a ∧ W.cell? ⟨w.heap.size + 1, 1, none⟩ = some b ∧ W.cell? ⟨w.heap.size + 1, 2, none⟩ = some c ∧ W.cell? ⟨w.heap.size + 1, 3, none⟩ = some d ∧ W.cell? ⟨w.heap.size + 1, 4, none⟩ = some e ∧ w.heap.size + 1 < W.heap.size ∧ (∀ k, W.frozen? ⟨w.heap.size + 1, k, none⟩ = false) :=
 ⟨h.ev.cell 0, h.ev.cell 1, h.ev.cell 2, h.ev.cell 3, h.ev.cell 4, h.ev.lt, fun k => h.ev.frozen k⟩
set_option maxHeartbeats 16000000 in
theorem revent_any {df : Nat} {bd caps : Array Value} {i j : Nat} {d : Int} {K : World → Prop} (h : RdI w g s i) (hK : K w) (hD : DstI df bd caps g s (i + 17) j d K) (hj : j + 8 ≤ s.length) (hij : i + 17 ≤ j) (hl : s.length ≤ 1000) {e : Ev} (hr : e.right) (ho : e.ok)
  (h1 : (s.drop i).take 8 = timeB e.t) (h2 : (s.getD (i + 8) 0) = UInt8.ofNat (e.src + 1).toNat) (h3 : (s.drop (i + 9)).take 8 = encI e.n) (h4 : (s.drop j).take 8 = encI e.pay) :
  Calls Tryz.prog 157 #[.pointer (some ⟨g, 0, none⟩), .func (.func df) bd caps] w fun r w' => r = .returned (evV { e.nrm with dst := d }) ∧ RdI w' g s (j + 8) ∧ Kp [g] w w' := by
 have HT := hid (fun W (hW : RdI W g s i) => rtimeR_any hW (by omega) hl h1 hr.1 ho.1)
 have HB := hid (fun W (hW : RdI W g s (i + 8)) => rbyte_any hW (by omega) hl)
 rw [h2] at HB
 have hsb : ((UInt8.ofNat (e.src + 1).toNat).toNat : Int) = e.src + 1 := by have := hr.2.1; have := hr.2.2.1; simp; omega
 rw [hsb] at HB
 have HN := hid (fun W (hW : RdI W g s (i + 9)) => rint_any hW (by omega) hl)
 rw [h3, decI_encI ho.2.2.1.1 ho.2.2.1.2] at HN
 have HP := hid (fun W (hW : RdI W g s j) => rint_any hW (by omega) hl)
 rw [h4, decI_encI ho.2.2.2.2.1 ho.2.2.2.2.2] at HP
 have hen := hD.en
 have hw1 : IntKind.i64.wrap (e.src + 1 - 1) = e.src := by have := hr.2.1; have := hr.2.2.1; rw [IntKind.wrap_i64]; omega
 have hw2 : IntKind.i64.wrap e.src = e.src := by have := hr.2.1; have := hr.2.2.1; rw [IntKind.wrap_i64]; omega
 have HX := hid (⟨h, hK, hD⟩ : _ ∧ _ ∧ _)
 have hgl := Blk.lt h
 unfold evV
 clear h hK hD hr ho h1 h2 h3 h4 hsb hj hij hl
 obtain ⟨W2, hW2⟩ : ∃ W2, W2 = (w.alloc (.cells #[.float .f64 0, .int .i64 0, .int .i64 0, .int .i64 0, .int .i64 0] 67)).alloc (.cells #[.float .f64 0, .int .i64 0, .int .i64 0, .int .i64 0, .int .i64 0] 67) := ⟨_, rfl⟩
 have hb2 : Below w.heap.size w W2 := by rw [hW2]; exact ((Below.refl _ w).alloc (Nat.le_refl _) _).alloc (by simp) _
 have hE2 : EvW w W2 g s i [.float .f64 0, .int .i64 0, .int .i64 0, .int .i64 0, .int .i64 0] := by
  refine ⟨Blk.below HX.out.1 hb2 hgl, ?_, ?_, Kp.of_below hb2, hgl⟩
  ·rw [hW2]
   have := Blk.new (w.alloc (.cells #[.float .f64 0, .int .i64 0, .int .i64 0, .int .i64 0, .int .i64 0] 67)) 67 #[.float .f64 0, .int .i64 0, .int .i64 0, .int .i64 0, .int .i64 0]
   simpa using this
  ·rw [hW2]
   exact (Blk.new w 67 #[.float .f64 0, .int .i64 0, .int .i64 0, .int .i64 0, .int .i64 0]).alloc _
 have HT2 := hid (HT.out W2 hE2.rd)
 rw [hW2] at HT2
 have HE2 := hid hE2
 have HWW := hid hW2
 clear hb2 hE2 hW2
 go_enter Tryz.func157, Tryz.ntmps157
 go_wp2_with fail
 (with_reducible refine HT2.out.mono ?_)
 rintro r W3 ⟨rfl, hr3, hk3⟩
 rw [← HWW.out] at hk3
 have hE3 := HE2.out.call hr3 hk3
 obtain ⟨x0, x1, x2, x3, x4, xl, xf⟩ := hE3.c5
 have xf0 := xf 0
 have HE3 := hid hE3
 have HB3 := hid (HB.out _ (hE3.put 0 (.float .f64 (tn e.t))).rd)
 clear hr3 hk3 hE3 xf
 go_wp2_with fail
 (with_reducible refine HB3.out.mono ?_)
 rintro r W4 ⟨rfl, hr4, hk4⟩
 have hE4 := (HE3.out.put 0 (.float .f64 (tn e.t))).call hr4 hk4
 simp only [List.set_cons_zero, List.set_cons_succ] at hE4
 obtain ⟨y0, y1, y2, y3, y4, yl, yf⟩ := hE4.c5
 have yf1 := yf 1
 have HE4 := hid hE4
 have HN4 := hid (HN.out _ (hE4.put 1 (.int .i64 e.src)).rd)
 clear hr4 hk4 hE4 yf x0 x1 x2 x3 x4 xl xf0 HB3 HT2
 go_wp2_with fail
 (with_reducible refine HN4.out.mono ?_)
 rintro r W5 ⟨rfl, hr5, hk5⟩
 have hE5 := (HE4.out.put 1 (.int .i64 e.src)).call hr5 hk5
 simp only [List.set_cons_zero, List.set_cons_succ] at hE5
 obtain ⟨x0, x1, x2, x3, x4, xl, xf⟩ := hE5.c5
 have xf2 := xf 2
 have HE5 := hid hE5
 have hE5' := hE5.put 2 (.int .i64 e.n)
 have HD5 := hid (HX.out.2.2.go _ hE5'.rd (HX.out.2.2.keep _ _ HX.out.2.1 hE5'.kp))
 clear hr5 hk5 hE5 hE5' xf y0 y1 y2 y3 y4 yl yf1 HN4
 go_wp2_with fail
 (with_reducible refine HD5.out.mono ?_)
 rintro r W6 ⟨rfl, hr6, hk6⟩
 have hE6 := (HE5.out.put 2 (.int .i64 e.n)).call hr6 hk6
 simp only [List.set_cons_zero, List.set_cons_succ] at hE6
 obtain ⟨y0, y1, y2, y3, y4, yl, yf⟩ := hE6.c5
 have yf3 := yf 3
 have HE6 := hid hE6
 have HP6 := hid (HP.out _ (hE6.put 3 (.int .i64 d)).rd)
 clear hr6 hk6 hE6 yf x0 x1 x2 x3 x4 xl xf2 HD5
 go_wp2_with fail
 (with_reducible refine HP6.out.mono ?_)
 rintro r W7 ⟨rfl, hr7, hk7⟩
 have hE7 := (HE6.out.put 3 (.int .i64 d)).call hr7 hk7
 simp only [List.set_cons_zero, List.set_cons_succ] at hE7
 obtain ⟨x0, x1, x2, x3, x4, xl, xf⟩ := hE7.c5
 have xf4 := xf 4
 have z0 : W7.cell? ⟨w.heap.size, 0, none⟩ = some (.float .f64 0) := hE7.res.cell 0
 have z1 : W7.cell? ⟨w.heap.size, 1, none⟩ = some (.int .i64 0) := hE7.res.cell 1
 have z2 : W7.cell? ⟨w.heap.size, 2, none⟩ = some (.int .i64 0) := hE7.res.cell 2
 have z3 : W7.cell? ⟨w.heap.size, 3, none⟩ = some (.int .i64 0) := hE7.res.cell 3
 have z4 : W7.cell? ⟨w.heap.size, 4, none⟩ = some (.int .i64 0) := hE7.res.cell 4
 have zf0 := hE7.res.frozen 0
 have zf1 := hE7.res.frozen 1
 have zf2 := hE7.res.frozen 2
 have zf3 := hE7.res.frozen 3
 have zf4 := hE7.res.frozen 4
 have zl := hE7.res.lt
 have HE7 := hid hE7
 clear hr7 hk7 hE7 xf y0 y1 y2 y3 y4 yl yf3 HP6
 go_wp2
 have hr8 := ((((((HE7.out.put 4 (.int .i64 e.pay)).res.set_ 0 (.float .f64 (tn e.t))).set_ 1 (.int .i64 e.src)).set_ 2 (.int .i64 e.n)).set_ 3 (.int .i64 d)).set_ 4 (.int .i64 e.pay))
 have v0 := hr8.cell 0
 have v1 := hr8.cell 1
 have v2 := hr8.cell 2
 have v3 := hr8.cell 3
 have v4 := hr8.cell 4
 simp only [List.setIfInBounds_toArray, List.set_cons_zero, List.set_cons_succ, List.getElem?_toArray, List.getElem?_cons_zero, List.getElem?_cons_succ] at v0 v1 v2 v3 v4
 refine bodyPost_ret (v := .agg #[.float .f64 (tn e.t), .int .i64 e.src, .int .i64 e.n, .int .i64 d, .int .i64 e.pay]) (by simp [results, Tryz.results157, go_sem, v0, v1, v2, v3, v4]) rfl ?_
 have h8 := HE7.out.put 4 (.int .i64 e.pay)
 have hgne : g ≠ w.heap.size := Nat.ne_of_lt hgl
 refine ⟨rfl, ?_, ?_⟩
 ·exact Blk.far (Blk.far (Blk.far (Blk.far (Blk.far h8.rd hgne _) hgne _) hgne _) hgne _) hgne _
 ·exact ((((h8.kp.setCell (.inr (Nat.le_refl _)) _).setCell (.inr (Nat.le_refl _)) _).setCell (.inr (Nat.le_refl _)) _).setCell (.inr (Nat.le_refl _)) _).setCell (.inr (Nat.le_refl _)) _
end
end
section
open Go.RowKit Go.Lib
theorem dst_byte {g : Nat} {s : Bs} {i : Nat} (hi : i < s.length) (hl : s.length ≤ 1000) : DstI 134 #[.pointer (some ⟨g, 0, none⟩)] #[] g s i (i + 1) ((s.getD i 0).toNat : Int) (fun _ => True) where
 en := fun vs W => Tryz.call134 vs W
 go := fun W h _ => rbyte_any h hi hl
 keep := fun _ _ _ _ => trivial
theorem evB_getD (e : Ev) : (evB e).getD 8 0 = UInt8.ofNat (e.src + 1).toNat := by unfold evB; simp [List.getD, List.getElem?_append, oneB]
theorem evB_dst (e : Ev) : (evB e).getD 17 0 = UInt8.ofNat e.dst.toNat := by unfold evB; simp [List.getD, List.getElem?_append, oneB]
theorem evB_time (e : Ev) : (evB e).take 8 = timeB e.t := by unfold evB; simp [List.take_append]
theorem evB_n (e : Ev) : ((evB e).drop 9).take 8 = encI e.n := by
 have := mid_eq (a := timeB e.t ++ oneB (e.src + 1)) (b := encI e.n) (c := oneB e.dst ++ encI e.pay) (n := 9) (m := 8) (by simp) (by simp)
 unfold evB
 rwa [← List.append_assoc] at this
theorem evB_pay (e : Ev) : ((evB e).drop 18).take 8 = encI e.pay := by
 have := mid_eq (a := timeB e.t ++ oneB (e.src + 1) ++ encI e.n ++ oneB e.dst) (b := encI e.pay) (c := []) (n := 18) (m := 8) (by simp) (by simp)
 rwa [List.append_nil] at this
set_option maxHeartbeats 8000000 in
theorem getev_any (e : Ev) (hr : e.right) (ho : e.ok) (w : World) :
  Calls Tryz.prog 151 #[.string (S (evB e))] w fun r w' => r = .returned (.tuple #[evV e.nrm, .int .i64 0]) ∧ Below w.heap.size w w' := by
 obtain ⟨s, hs⟩ : ∃ s, s = evB e := ⟨_, rfl⟩
 have hsl : s.length = 26 := by rw [hs]; simp
 obtain ⟨y, hy⟩ : ∃ y : Ev, y = e.nrm := ⟨_, rfl⟩
 have hq : y.right := by rw [hy]; exact Ev.nrm_right hr
 have hdd : ((UInt8.ofNat e.dst.toNat).toNat : Int) = e.dst := by have := hr.2.2.2.2.2.1; have := hr.2.2.2.2.2.2; simp; omega
 have hyd : ({ e.nrm with dst := e.dst } : Ev) = y := by rw [hy]; rfl
 rw [← hy]
 have HR := hid (fun W => rightv_any y W)
 rw [decide_eq_true hq] at HR
 have hdst := dst_byte (g := w.heap.size + 1) (s := s) (i := 0 + 17) (by omega) (by omega)
 rw [show s.getD (0 + 17) 0 = UInt8.ofNat e.dst.toNat by rw [hs]; exact evB_dst e, hdd] at hdst
 have HEV := hid (fun W (hW : RdI W (w.heap.size + 1) s 0) => revent_any (j := 0 + 17 + 1) hW trivial hdst (by omega) (by omega) (by omega) hr ho (by rw [hs, List.drop_zero]; exact evB_time e) (by rw [hs]; exact evB_getD e) (by rw [hs]; exact evB_n e) (by rw [hs]; exact evB_pay e))
 rw [hyd] at HEV
 have HEND := hid (fun W (hW : RdI W (w.heap.size + 1) s s.length) => rend_any hW (by omega) true)
 rw [if_pos rfl] at HEND
 obtain ⟨W2, hW2⟩ : ∃ W2, W2 = (w.alloc (.cells #[.float .f64 0, .int .i64 0, .int .i64 0, .int .i64 0, .int .i64 0] 67)).alloc (.cells #[.string (S s), .int .i64 0, .bool false] 246) := ⟨_, rfl⟩
 have hb2 : Below w.heap.size w W2 := by rw [hW2]; exact ((Below.refl _ w).alloc (Nat.le_refl _) _).alloc (by simp) _
 have hR2 : RdI W2 (w.heap.size + 1) s 0 := by
  rw [hW2]
  have := Blk.new (w.alloc (.cells #[.float .f64 0, .int .i64 0, .int .i64 0, .int .i64 0, .int .i64 0] 67)) 246 #[.string (S s), .int .i64 0, .bool false]
  unfold RdI
  simpa using this
 have hB2 : Blk W2 w.heap.size 67 #[.float .f64 0, .int .i64 0, .int .i64 0, .int .i64 0, .int .i64 0] := by
  rw [hW2]
  exact (Blk.new w 67 #[.float .f64 0, .int .i64 0, .int .i64 0, .int .i64 0, .int .i64 0]).alloc _
 have HE2 := hid (HEV.out W2 hR2)
 rw [hW2] at HE2
 have HWW := hid hW2
 have HX := hid (⟨hb2, hB2⟩ : _ ∧ _)
 have HSL := hid hsl
 rw [← hs]
 clear hr ho hs hsl hq hy hdst hdd hyd hb2 hR2 hB2 hW2 HEV
 unfold evV at HE2 HR ⊢
 go_enter Tryz.func151, Tryz.ntmps151
 go_wp2_with fail
 (with_reducible refine HE2.out.mono ?_)
 rintro r W3 ⟨rfl, hr3, hk3⟩
 rw [← HWW.out] at hk3
 have hB3 := HX.out.2.kp hk3 (by simp)
 have hb03 : Below w.heap.size w W3 := HX.out.1.trans (hk3.to_below HX.out.1.size (fun x hx => by simp at hx; omega))
 have hr3' : RdI W3 (w.heap.size + 1) s s.length := by rw [HSL.out]; exact hr3
 have H3 := hid (⟨hr3', hb03, hB3⟩ : _ ∧ _ ∧ _)
 have hl3 := Blk.lt hr3
 clear hr3 hk3 hB3 hb03 hr3'
 go_wp2_with fail
 (with_reducible refine (HR.out _).mono ?_)
 rintro r W5 ⟨rfl, hb5⟩
 obtain ⟨hr3, hb03, hB3⟩ := H3.out
 have hY := (Blk.new W3 67 #[.float .f64 y.t, .int .i64 y.src, .int .i64 y.n, .int .i64 y.dst, .int .i64 y.pay]).below hb5 (Blk.new _ _ _).lt
 have hb35 : Below W3.heap.size W3 W5 := ((Below.refl _ W3).alloc (Nat.le_refl _) _).trans (hb5.mono (by simp))
 have hr5 : RdI W5 (w.heap.size + 1) s s.length := Blk.below hr3 hb35 hl3
 have hB5 := hB3.below hb35 hB3.lt
 have HE5 := hid (HEND.out W5 hr5)
 have H5 := hid (⟨hb03.trans (hb35.mono hb03.size), hY, hB5⟩ : _ ∧ _ ∧ _)
 clear hr3 hb03 hB3 hY hb35 hr5 hB5 hb5
 go_wp2_with fail
 (with_reducible refine HE5.out.mono ?_)
 rintro r W6 ⟨rfl, hb6⟩
 obtain ⟨hb05, hY5, hB5⟩ := H5.out
 have hY6 := hY5.below hb6 hY5.lt
 have hB6 := hB5.below hb6 hB5.lt
 have hb06 := hb05.trans (hb6.mono hb05.size)
 have y0 : W6.cell? ⟨W3.heap.size, 0, none⟩ = some (.float .f64 y.t) := hY6.cell 0
 have y1 : W6.cell? ⟨W3.heap.size, 1, none⟩ = some (.int .i64 y.src) := hY6.cell 1
 have y2 : W6.cell? ⟨W3.heap.size, 2, none⟩ = some (.int .i64 y.n) := hY6.cell 2
 have y3 : W6.cell? ⟨W3.heap.size, 3, none⟩ = some (.int .i64 y.dst) := hY6.cell 3
 have y4 : W6.cell? ⟨W3.heap.size, 4, none⟩ = some (.int .i64 y.pay) := hY6.cell 4
 have b0 : W6.cell? ⟨w.heap.size, 0, none⟩ = some (.float .f64 0) := hB6.cell 0
 have b1 : W6.cell? ⟨w.heap.size, 1, none⟩ = some (.int .i64 0) := hB6.cell 1
 have b2 : W6.cell? ⟨w.heap.size, 2, none⟩ = some (.int .i64 0) := hB6.cell 2
 have b3 : W6.cell? ⟨w.heap.size, 3, none⟩ = some (.int .i64 0) := hB6.cell 3
 have b4 : W6.cell? ⟨w.heap.size, 4, none⟩ = some (.int .i64 0) := hB6.cell 4
 have bf0 := hB6.frozen 0
 have bf1 := hB6.frozen 1
 have bf2 := hB6.frozen 2
 have bf3 := hB6.frozen 3
 have bf4 := hB6.frozen 4
 have bl := hB6.lt
 have yl := hY6.lt
 have H6 := hid (⟨hb06, hB6⟩ : _ ∧ _)
 clear hb05 hY5 hB5 hY6 hB6 hb06 hb6
 go_wp2
 have hr8 := (((((H6.out.2.set_ 0 (.float .f64 y.t)).set_ 1 (.int .i64 y.src)).set_ 2 (.int .i64 y.n)).set_ 3 (.int .i64 y.dst)).set_ 4 (.int .i64 y.pay))
 have v0 := hr8.cell 0
 have v1 := hr8.cell 1
 have v2 := hr8.cell 2
 have v3 := hr8.cell 3
 have v4 := hr8.cell 4
 simp only [List.setIfInBounds_toArray, List.set_cons_zero, List.set_cons_succ, List.getElem?_toArray, List.getElem?_cons_zero, List.getElem?_cons_succ] at v0 v1 v2 v3 v4
 refine bodyPost_ret (v := .tuple #[.agg #[.float .f64 y.t, .int .i64 y.src, .int .i64 y.n, .int .i64 y.dst, .int .i64 y.pay], .int .i64 0]) (by simp [results, Tryz.results151, go_sem, v0, v1, v2, v3, v4]) rfl ?_
 exact ⟨rfl, ((((H6.out.1.setCell (Nat.le_refl _) _).setCell (Nat.le_refl _) _).setCell (Nat.le_refl _) _).setCell (Nat.le_refl _) _).setCell (Nat.le_refl _) _⟩
end
section
open Go.RowKit Go.Lib
theorem madeCells_get (z : Array Value) (n j : Nat) (hj : j < n) : (madeCells z n)[j]? = some (z[j % z.size]!) := by
 unfold madeCells
 rw [Array.getElem?_map, Array.getElem?_eq_getElem (by simpa using hj)]
 simp
def zB : Array Value := Array.replicate 64 (.int .u8 0)
theorem zB_get (j : Nat) : zB[j % zB.size]! = .int .u8 0 := by
 have h : j % zB.size < zB.size := Nat.mod_lt _ (by decide)
 rw [getElem!_pos zB _ h]
 simp [zB]
theorem infBytes : (Tryz.prog.info? 316).map (fun i => (i.zero, i.size, i.bytes)) = some (some (.agg zB), 64, 64) := by kernel_rfl
theorem infBoolE : (Tryz.prog.info? 4).map (fun i => (i.zero, i.size, i.bytes)) = some (some (.bool false), 1, 1) := by kernel_rfl
theorem zB_cells : (Value.agg zB).cells = zB := by kernel_rfl
theorem mkBytes (n : Nat) (hn : n ≤ 4096) (w : World) : (Instr.makeSlice 250 (.int .i64 (n : Int)) (.int .i64 (n : Int))).run Tryz.prog w = .ok (.slice (some ⟨w.heap.size, 0, none⟩) n n) (w.alloc (.cells (madeCells zB (n * 64)) 316)) := by
 obtain ⟨i, hi, hzz⟩ := Option.map_eq_some_iff.1 infBytes
 simp only [Prod.mk.injEq] at hzz
 obtain ⟨hz, hs, hb⟩ := hzz
 have hr := run_make (P := Tryz.prog) w 250 316 i _ Tryz.underlying250 hi hz .i64 .i64 n n (by omega) (Int.le_refl _) (by rw [hb]; omega) (by omega)
 rw [hs, zB_cells, Int.toNat_natCast] at hr
 exact hr
theorem mkBools (n : Nat) (hn : n ≤ 4096) (w : World) : (Instr.makeSlice 251 (.int .i64 (n : Int)) (.int .i64 (n : Int))).run Tryz.prog w = .ok (.slice (some ⟨w.heap.size, 0, none⟩) n n) (w.alloc (.cells (madeCells #[.bool false] n) 4)) := by
 obtain ⟨i, hi, hzz⟩ := Option.map_eq_some_iff.1 infBoolE
 simp only [Prod.mk.injEq] at hzz
 obtain ⟨hz, hs, hb⟩ := hzz
 have hr := run_make (P := Tryz.prog) w 251 4 i _ Tryz.underlying251 hi hz .i64 .i64 n n (by omega) (Int.le_refl _) (by rw [hb]; omega) (by omega)
 rw [hs, Int.toNat_natCast, Nat.mul_one] at hr
 exact hr
theorem DkI.mk_ {w : World} {D : DkL} {n : Nat} (hd : Blk w D.d 253 (dkCells D n 0)) (h1 : Blk w D.bn 316 (madeCells zB (n * 64))) (h2 : Blk w D.bo 316 (madeCells zB (n * 64))) (h3 : Blk w D.bl 4 (madeCells #[.bool false] n)) (n0 : 0 < n) (n1 : n ≤ 4096) (hne : D.bn ≠ D.bo) :
  DkI w D n (fun _ => List.replicate 64 0) := by
 have g1 : ∀ {b} (hb : Blk w b 316 (madeCells zB (n * 64))) j, j < n * 64 → w.cell? ⟨b, j, none⟩ = some (.int .u8 0) := fun hb j hj => by
  rw [hb.cell, madeCells_get _ _ _ hj, zB_get]
 have g3 : ∀ j, j < n → w.cell? ⟨D.bl, j, none⟩ = some (.bool false) := fun j hj => by
  rw [h3.cell, madeCells_get _ _ _ hj]
  have : j % (#[Value.bool false] : Array Value).size = 0 := Nat.mod_one j
  rw [this]
  rfl
 refine ⟨⟨0, hd⟩, fun i hi j v hj => ?_, fun i hi => by simp, fun j hj => ⟨?_, h1.frozen _⟩, fun j hj => ⟨?_, h2.frozen _⟩, fun j hj => ⟨?_, h3.frozen _⟩, fun i hi => ⟨false, g3 i hi⟩, n0, n1, hne, h1.ne_ h3 (by decide), h2.ne_ h3 (by decide), hd.ne_ h1 (by decide), hd.ne_ h2 (by decide), hd.ne_ h3 (by decide)⟩
 ·have hj64 : j < 64 := by
   have := (List.getElem?_eq_some_iff.1 hj).1
   simpa [cB] using this
  have hv : v = .int .u8 0 := by
   rw [cB, List.getElem?_map] at hj
   rw [List.getElem?_replicate, if_pos hj64] at hj
   simp at hj
   exact hj.symm
  rw [hv]
  exact g1 h1 _ (by omega)
 ·rw [Nat.zero_add, g1 h1 j hj]; rfl
 ·rw [Nat.zero_add, g1 h2 j hj]; rfl
 ·rw [Nat.zero_add, g3 j hj]; rfl
section
variable (w : World) (a b c d : Array Value) (ta tb tc td : TypeId)
theorem four0 : Blk ((((w.alloc (.cells a ta)).alloc (.cells b tb)).alloc (.cells c tc)).alloc (.cells d td)).drew w.heap.size ta a := ((((Blk.new w ta a).alloc _).alloc _).alloc _).drew
theorem four1 : Blk ((((w.alloc (.cells a ta)).alloc (.cells b tb)).alloc (.cells c tc)).alloc (.cells d td)).drew (w.heap.size + 1) tb b := by
 have := (((Blk.new (w.alloc (.cells a ta)) tb b).alloc (.cells c tc)).alloc (.cells d td)).drew
 simpa using this
theorem four2 : Blk ((((w.alloc (.cells a ta)).alloc (.cells b tb)).alloc (.cells c tc)).alloc (.cells d td)).drew (w.heap.size + 1 + 1) tc c := by
 have := ((Blk.new ((w.alloc (.cells a ta)).alloc (.cells b tb)) tc c).alloc (.cells d td)).drew
 simpa using this
theorem four3 : Blk ((((w.alloc (.cells a ta)).alloc (.cells b tb)).alloc (.cells c tc)).alloc (.cells d td)).drew (w.heap.size + 1 + 1 + 1) td d := by
 have := (Blk.new (((w.alloc (.cells a ta)).alloc (.cells b tb)).alloc (.cells c tc)) td d).drew
 simpa using this
theorem four_below : Below w.heap.size w ((((w.alloc (.cells a ta)).alloc (.cells b tb)).alloc (.cells c tc)).alloc (.cells d td)).drew :=
 below_drewN (((((Below.refl _ w).alloc (Nat.le_refl _) _).alloc (by simp) _).alloc (by simp; omega) _).alloc (by simp; omega) _) 1
end
set_option maxHeartbeats 4000000 in
theorem disk_new (n : Nat) (n0 : 0 < n) (n1 : n ≤ 4096) (w : World) :
  Calls Tryz.prog 89 #[.int .i64 n] w fun e w' => ∃ D sec, e = .returned (.tuple #[.pointer (some ⟨D.d, 0, none⟩), .int .i64 0]) ∧ DkI w' D n sec ∧ Below w.heap.size w w' ∧ ∀ b ∈ dkOwn D, w.heap.size ≤ b := by
 have m1 := fun (W : World) => mkBytes n n1 W
 have m2 := fun (W : World) => mkBools n n1 W
 have h1 : ¬ ((n : Int) < 1) := by omega
 have h2 : ¬ (4096 < (n : Int)) := by omega
 have HN := hid (⟨n0, n1⟩ : _ ∧ _)
 have n01 : w.heap.size ≠ w.heap.size + 1 := by omega
 have n02 : w.heap.size ≠ w.heap.size + 1 + 1 := by omega
 have n12 : w.heap.size + 1 ≠ w.heap.size + 1 + 1 := by omega
 clear n0 n1
 go_enter Tryz.func89, Tryz.ntmps89
 go_wp2
 go_region
 all_goals
  go_wp2
  go_ret2
  first
   | exact ⟨⟨w.heap.size + 1 + 1 + 1, w.heap.size, w.heap.size + 1, w.heap.size + 1 + 1⟩, _, rfl, DkI.mk_ (four3 ..) (four0 ..) (four1 ..) (four2 ..) HN.out.1 HN.out.2 (by first | exact n01 | exact n02 | exact n12 | exact n01.symm | exact n02.symm | exact n12.symm), four_below .., fun b hb => by simp [dkOwn] at hb; omega⟩
   | exact ⟨⟨w.heap.size + 1 + 1 + 1, w.heap.size, w.heap.size + 1 + 1, w.heap.size + 1⟩, _, rfl, DkI.mk_ (four3 ..) (four0 ..) (four2 ..) (four1 ..) HN.out.1 HN.out.2 (by first | exact n01 | exact n02 | exact n12 | exact n01.symm | exact n02.symm | exact n12.symm), four_below .., fun b hb => by simp [dkOwn] at hb; omega⟩
   | exact ⟨⟨w.heap.size + 1 + 1 + 1, w.heap.size + 1, w.heap.size, w.heap.size + 1 + 1⟩, _, rfl, DkI.mk_ (four3 ..) (four1 ..) (four0 ..) (four2 ..) HN.out.1 HN.out.2 (by first | exact n01 | exact n02 | exact n12 | exact n01.symm | exact n02.symm | exact n12.symm), four_below .., fun b hb => by simp [dkOwn] at hb; omega⟩
   | exact ⟨⟨w.heap.size + 1 + 1 + 1, w.heap.size + 1, w.heap.size + 1 + 1, w.heap.size⟩, _, rfl, DkI.mk_ (four3 ..) (four1 ..) (four2 ..) (four0 ..) HN.out.1 HN.out.2 (by first | exact n01 | exact n02 | exact n12 | exact n01.symm | exact n02.symm | exact n12.symm), four_below .., fun b hb => by simp [dkOwn] at hb; omega⟩
   | exact ⟨⟨w.heap.size + 1 + 1 + 1, w.heap.size + 1 + 1, w.heap.size, w.heap.size + 1⟩, _, rfl, DkI.mk_ (four3 ..) (four2 ..) (four0 ..) (four1 ..) HN.out.1 HN.out.2 (by first | exact n01 | exact n02 | exact n12 | exact n01.symm | exact n02.symm | exact n12.symm), four_below .., fun b hb => by simp [dkOwn] at hb; omega⟩
   | exact ⟨⟨w.heap.size + 1 + 1 + 1, w.heap.size + 1 + 1, w.heap.size + 1, w.heap.size⟩, _, rfl, DkI.mk_ (four3 ..) (four2 ..) (four1 ..) (four0 ..) HN.out.1 HN.out.2 (by first | exact n01 | exact n02 | exact n12 | exact n01.symm | exact n02.symm | exact n12.symm), four_below .., fun b hb => by simp [dkOwn] at hb; omega⟩
theorem DkI.clear_ {w : World} {D : DkL} {n : Nat} {sec : Nat → Bs} (h : DkI w D n sec) : DkI (w.setCells D.bl 0 (List.replicate n (.bool false))) D n sec := by
 have e : ∀ b, b ≠ D.bl → (w.setCells D.bl 0 (List.replicate n (.bool false))).heap[b]? = w.heap[b]? := fun b hb => heap_setCells D.bl _ 0 w b hb
 have hin : ∀ j, j < n → (w.setCells D.bl 0 (List.replicate n (.bool false))).cell? ⟨D.bl, 0 + j, none⟩ = some (.bool false) := fun j hj => by
  rw [World.cell?_setCells_in D.bl (List.replicate n (.bool false)) 0 w (fun k hk => (h.tl k (by simpa using hk)).1) j (by simpa using hj)]
  simp
 obtain ⟨calls, hc⟩ := h.cells
 refine ⟨⟨calls, (e _ h.ne6).trans hc⟩, fun i hi => rangeAt_of (h.now i hi) (e _ h.ne2), h.len, there_of h.tn (e _ h.ne2), there_of h.to (e _ h.ne3), fun j hj => ⟨?_, ?_⟩, fun i hi => ⟨false, ?_⟩, h.n0, h.n1, h.ne1, h.ne2, h.ne3, h.ne4, h.ne5, h.ne6⟩
 ·rw [hin j hj]; rfl
 ·rw [World.frozen?_setCells]; exact (h.tl j hj).2
 ·have := hin i hi
  rwa [Nat.zero_add] at this
theorem DkI.calls_ {w : World} {D : DkL} {n : Nat} {sec : Nat → Bs} (h : DkI w D n sec) (k : Int) : DkI (w.setCell ⟨D.d, 4, none⟩ (.int .i64 k)) D n sec := by
 have e : ∀ b, b ≠ D.d → (w.setCell ⟨D.d, 4, none⟩ (.int .i64 k)).heap[b]? = w.heap[b]? := fun b hb => Below.heap_setCell w ⟨D.d, 4, none⟩ _ b hb
 obtain ⟨calls, hc⟩ := h.cells
 exact ⟨⟨k, by simpa [dkCells] using hc.set_ 4 (.int .i64 k)⟩, fun i hi => rangeAt_of (h.now i hi) (e _ h.ne4.symm), h.len, there_of h.tn (e _ h.ne4.symm), there_of h.to (e _ h.ne5.symm), there_of h.tl (e _ h.ne6.symm),
  fun i hi => by rw [World.cell?_of_block (a := ⟨D.bl, i, none⟩) (e _ h.ne6.symm)]; exact h.bl i hi, h.n0, h.n1, h.ne1, h.ne2, h.ne3, h.ne4, h.ne5, h.ne6⟩
theorem zeroBool (w : World) : (zeroValue 4).run Tryz.prog w = .ok (.bool false) w := by kernel_rfl
set_option maxHeartbeats 4000000 in
theorem disk_sync {w : World} {D : DkL} {n : Nat} {sec : Nat → Bs} (h : DkI w D n sec) :
  Calls Tryz.prog 142 #[.pointer (some ⟨D.d, 0, none⟩)] w fun e w' => e = .returned (.int .i64 0) ∧ DkI w' D n sec ∧ Kp (dkOwn D) w w' := by
 have HW := hid (disk_works h)
 have HC := hid (disk_counts h)
 have HX := hid h
 clear h
 go_enter Tryz.func142, Tryz.ntmps142
 go_wp2_with fail
 (with_reducible refine HW.out.mono ?_)
 rintro e w1 ⟨rfl, rfl⟩
 go_wp2_with fail
 (with_reducible refine HC.out.mono ?_)
 rintro e w1 ⟨rfl, calls', rfl⟩
 have h1 := HX.out.calls_ calls'
 have hk1 : Kp (dkOwn D) w (w.setCell ⟨D.d, 4, none⟩ (.int .i64 calls')) := (Kp.refl _ w).setCell (.inl (by simp [dkOwn])) _
 obtain ⟨W1, hW1⟩ : ∃ W1, W1 = w.setCell ⟨D.d, 4, none⟩ (.int .i64 calls') := ⟨_, rfl⟩
 rw [← hW1] at h1 hk1 ⊢
 clear hW1
 obtain ⟨calls, hc⟩ := h1.cells
 have h2 : W1.cell? ⟨D.d, 2, none⟩ = some (.slice (some ⟨D.bl, 0, none⟩) n n) := hc.cell 2
 have hcl : ∀ ty, (Builtin.clear_ #[251] ty #[.slice (some ⟨D.bl, 0, none⟩) n n]).run Tryz.prog W1 = .ok (.tuple #[]) (W1.setCells D.bl 0 (List.replicate n (.bool false))) := fun ty =>
  run_clear_slice W1 251 4 ty (.bool false) Tryz.underlying251 zeroBool rfl rfl D.bl 0 n n h1.n0 (fun j hj => (h1.tl j hj).1) (fun j hj => (h1.tl j hj).2)
 have HF := hid (⟨h1.clear_, hk1.trans ((kp_setCells D.bl (List.replicate n (.bool false)) 0 W1).mono (fun x hx => by simp at hx; subst hx; exact .inl (by simp [dkOwn])))⟩ : _ ∧ _)
 clear hc h1 hk1
 go_wp2
 go_ret
 exact ⟨rfl, HF.out⟩
end
end Go.Proofs.YtnnghcooidjlhaaGreat
