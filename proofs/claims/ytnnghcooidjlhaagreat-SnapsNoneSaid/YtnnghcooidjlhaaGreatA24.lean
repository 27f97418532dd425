/- Parts of the proof: Uc Ud Ue Uf Va Vb. -/
import Derived.Test.YtnnghcooidjlhaaGreatA23
set_option linter.all false
section
set_option linter.unusedSimpArgs false
set_option linter.unusedVariables false
set_option maxRecDepth 100000
namespace Go.Proofs.YtnnghcooidjlhaaGreat
open Go.RowKit Go.Lib
set_option maxHeartbeats 2000000 in
theorem fsend_no (p : Addr) (e : Ev) (a : Bool) (h : ¬ e.right) (w : World) :
    Calls Tryz.prog 62 #[.pointer (some p), msgV e a] w fun r w' => r = .returned (.int .i64 2) ∧ Below w.heap.size w w' := by
  have HP := hid (fun W => putmsg_no e a h W)
  unfold msgV at HP ⊢
  clear h
  go_enter Tryz.func62, Tryz.ntmps62
  go_wp2_with fail
  (with_reducible refine (HP.out _).mono ?_)
  rintro r W1 ⟨rfl, hb1⟩
  have HB := hid (((Below.refl _ w).alloc (Nat.le_refl _) (.cells #[.float .f64 e.t, .int .i64 e.src, .int .i64 e.n, .int .i64 e.dst, .int .i64 e.pay, .bool a] 99)).trans (hb1.mono (by simp)))
  clear hb1
  go_wp2
  go_ret
  exact ⟨rfl, HB.out⟩
theorem fsend_nil (e : Ev) (a : Bool) (w : World) :
    Calls Tryz.prog 62 #[.pointer none, msgV e a] w fun r w' => r = .returned (.int .i64 1) ∧ Below w.heap.size w w' := by
  unfold msgV
  go_enter Tryz.func62, Tryz.ntmps62
  go_wp2
  go_ret
  exact ⟨rfl, (Below.refl _ w).alloc (Nat.le_refl _) _⟩
theorem fpairs_nil (w : World) : Calls Tryz.prog 116 #[.pointer none] w fun r w' => r = .returned (.tuple #[.slice none 0 0, .int .i64 1]) ∧ w = w' := by
  go_enter Tryz.func116, Tryz.ntmps116
  go_wp2
  go_ret2
  exact ⟨rfl, rfl⟩
section
variable {w w' : World} {fb : Nat} {s : SL} {O : List Nat} {N n : Nat} {l : List Fl}
theorem FlI.keep (h : FlI w fb s O N n l) {M : List KV} (hk : Kp O w w') (hs : StI w' s O N M) (hf : FlM M n l) (hl : longs M = 0) : FlI w' fb s O N n l := h.turn hk (Gr.refl _ _) hs hf hl
set_option maxHeartbeats 4000000 in
theorem fpairs_any (h : FlI w fb s O N n l) (hl : l.length ≤ 1000) :
    Calls Tryz.prog 116 #[.pointer (some ⟨fb, 0, none⟩)] w fun r w' => ∃ v, r = .returned (.tuple #[v, .int .i64 0]) ∧ FlI w' fb s O N n l ∧ Kp O w w' ∧ w'.ownsRow w.heap.size 168 2 v l.length (rowV pairC (flP l)) := by
  obtain ⟨M, hS, hF, hL⟩ := h.m
  have HS := hid (sscan_any (sp := 5) (lp := 0) (fr := []) (to := []) hS (by unfold okP; omega) (by simp) (by simp) 1099511627776)
  rw [hF.scan hl, show S [] = { data := #[] } from rfl, show (flP l).length = l.length by simp [flP]] at HS
  have f0 : w.cell? ⟨fb, 0, none⟩ = some (.pointer (some ⟨s.sb, 0, none⟩)) := h.b.cell 0
  have HX := hid (⟨h, hF, hL⟩ : _ ∧ _ ∧ _)
  clear h hS hF hL hl
  go_enter Tryz.func116, Tryz.ntmps116
  go_wp2_with fail
  (with_reducible refine HS.out.mono ?_)
  rintro r W1 ⟨v, rfl, hS1, hk1, hO1⟩
  have HF := hid (⟨HX.out.1.keep hk1 hS1 HX.out.2.1 HX.out.2.2, hk1, hO1⟩ : _ ∧ _ ∧ _)
  clear hS1 hk1 hO1
  go_wp2
  go_ret2
  exact ⟨v, rfl, HF.out⟩
end
set_option maxHeartbeats 4000000 in
theorem fmsg_any (p : Value) (kb : ByteArray) (e : Ev) (a : Bool) (hr : e.right) (ho : e.ok) (w : World) :
    Calls Tryz.prog 117 #[p, .agg #[.string kb, .string (S (msgB e a))]] w fun r w' => r = .returned (.tuple #[msgV e.nrm a, .int .i64 0]) ∧ Below w.heap.size w w' := by
  have HG := hid (fun W => getmsg_any e a hr ho W)
  obtain ⟨y, hy⟩ : ∃ y, y = e.nrm := ⟨_, rfl⟩
  rw [← hy] at HG ⊢
  unfold msgV at HG ⊢
  clear hr ho hy
  obtain ⟨W2, hW2⟩ : ∃ W2, W2 = (w.alloc (.cells #[.string kb, .string (S (msgB e a))] 168)).alloc (.cells #[.float .f64 0, .int .i64 0, .int .i64 0, .int .i64 0, .int .i64 0, .bool false] 99) := ⟨_, rfl⟩
  have hb2 : Below w.heap.size w W2 := by rw [hW2]; exact ((Below.refl _ w).alloc (Nat.le_refl _) _).alloc (by simp) _
  have hB2 : Blk W2 (w.heap.size + 1) 99 #[.float .f64 0, .int .i64 0, .int .i64 0, .int .i64 0, .int .i64 0, .bool false] := by
    rw [hW2]
    have := Blk.new (w.alloc (.cells #[.string kb, .string (S (msgB e a))] 168)) 99 #[.float .f64 0, .int .i64 0, .int .i64 0, .int .i64 0, .int .i64 0, .bool false]
    simpa using this
  have HG2 := hid (HG.out W2)
  rw [hW2] at HG2
  have HX := hid (⟨hb2, hB2⟩ : _ ∧ _)
  have HWW := hid hW2
  clear hb2 hB2 hW2
  go_enter Tryz.func117, Tryz.ntmps117
  go_wp2_with fail
  (with_reducible refine HG2.out.mono ?_)
  rintro r W3 ⟨rfl, hb3⟩
  rw [← HWW.out] at hb3
  have hB3 := HX.out.2.below hb3 HX.out.2.lt
  have hb03 := HX.out.1.trans (hb3.mono HX.out.1.size)
  have H3 := hid (⟨hB3, hb03⟩ : _ ∧ _)
  clear hB3 hb03 hb3
  go_wp2_with (with_reducible refine stopLoad 99 rfl ?_)
  obtain ⟨W4, hW4⟩ : ∃ W4, W4 = W3.alloc (.cells #[.float .f64 y.t, .int .i64 y.src, .int .i64 y.n, .int .i64 y.dst, .int .i64 y.pay, .bool a] 99) := ⟨_, rfl⟩
  rw [← hW4]
  with_reducible refine goOn ?_
  have hb4 : Below W3.heap.size W3 W4 := by rw [hW4]; exact (Below.refl _ W3).alloc (Nat.le_refl _) _
  have hY4 : Blk W4 W3.heap.size 99 #[.float .f64 y.t, .int .i64 y.src, .int .i64 y.n, .int .i64 y.dst, .int .i64 y.pay, .bool a] := by rw [hW4]; exact Blk.new W3 _ _
  have hB4 := H3.out.1.below hb4 H3.out.1.lt
  have hb04 := H3.out.2.trans (hb4.mono H3.out.2.size)
  have y0 : W4.cell? ⟨W3.heap.size, 0, none⟩ = some (.float .f64 y.t) := hY4.cell 0
  have y1 : W4.cell? ⟨W3.heap.size, 1, none⟩ = some (.int .i64 y.src) := hY4.cell 1
  have y2 : W4.cell? ⟨W3.heap.size, 2, none⟩ = some (.int .i64 y.n) := hY4.cell 2
  have y3 : W4.cell? ⟨W3.heap.size, 3, none⟩ = some (.int .i64 y.dst) := hY4.cell 3
  have y4 : W4.cell? ⟨W3.heap.size, 4, none⟩ = some (.int .i64 y.pay) := hY4.cell 4
  have y5 : W4.cell? ⟨W3.heap.size, 5, none⟩ = some (.bool a) := hY4.cell 5
  have b0 : W4.cell? ⟨w.heap.size + 1, 0, none⟩ = some (.float .f64 0) := hB4.cell 0
  have b1 : W4.cell? ⟨w.heap.size + 1, 1, none⟩ = some (.int .i64 0) := hB4.cell 1
  have b2 : W4.cell? ⟨w.heap.size + 1, 2, none⟩ = some (.int .i64 0) := hB4.cell 2
  have b3 : W4.cell? ⟨w.heap.size + 1, 3, none⟩ = some (.int .i64 0) := hB4.cell 3
  have b4 : W4.cell? ⟨w.heap.size + 1, 4, none⟩ = some (.int .i64 0) := hB4.cell 4
  have b5 : W4.cell? ⟨w.heap.size + 1, 5, none⟩ = some (.bool false) := hB4.cell 5
  have bf0 := hB4.frozen 0
  have bf1 := hB4.frozen 1
  have bf2 := hB4.frozen 2
  have bf3 := hB4.frozen 3
  have bf4 := hB4.frozen 4
  have bf5 := hB4.frozen 5
  have bl := hB4.lt
  have yl := hY4.lt
  have H4 := hid (⟨hb04, hB4⟩ : _ ∧ _)
  clear hW4 hb4 hY4 hB4 hb04
  go_wp2
  have hr8 := ((((((H4.out.2.set_ 0 (.float .f64 y.t)).set_ 1 (.int .i64 y.src)).set_ 2 (.int .i64 y.n)).set_ 3 (.int .i64 y.dst)).set_ 4 (.int .i64 y.pay)).set_ 5 (.bool a))
  have v0 := hr8.cell 0
  have v1 := hr8.cell 1
  have v2 := hr8.cell 2
  have v3 := hr8.cell 3
  have v4 := hr8.cell 4
  have v5 := hr8.cell 5
  simp only [List.setIfInBounds_toArray, List.set_cons_zero, List.set_cons_succ, List.getElem?_toArray, List.getElem?_cons_zero, List.getElem?_cons_succ] at v0 v1 v2 v3 v4 v5
  refine bodyPost_ret (v := .tuple #[.agg #[.float .f64 y.t, .int .i64 y.src, .int .i64 y.n, .int .i64 y.dst, .int .i64 y.pay, .bool a], .int .i64 0]) (by simp [results, Tryz.results117, go_sem, v0, v1, v2, v3, v4, v5]) rfl ?_
  exact ⟨rfl, (((((H4.out.1.setCell (Nat.le_succ _) _).setCell (Nat.le_succ _) _).setCell (Nat.le_succ _) _).setCell (Nat.le_succ _) _).setCell (Nat.le_succ _) _).setCell (Nat.le_succ _) _⟩
end Go.Proofs.YtnnghcooidjlhaaGreat
end
section
set_option linter.unusedSimpArgs false
set_option linter.unusedVariables false
set_option maxRecDepth 100000
namespace Go.Proofs.YtnnghcooidjlhaaGreat
open Go.RowKit Go.Lib
def msgC (x : Fl) : List Value := [.float .f64 x.e.t, .int .i64 x.e.src, .int .i64 x.e.n, .int .i64 x.e.dst, .int .i64 x.e.pay, .bool x.a]
theorem msgC_len (x : Fl) : (msgC x).length = 6 := rfl
theorem msgC_one (x : Fl) : ∀ u ∈ msgC x, u.oneCell' = true := by
  intro u hu
  simp [msgC] at hu
  rcases hu with rfl | rfl | rfl | rfl | rfl | rfl <;> rfl
theorem infMsg : (Tryz.prog.info? 99).map (fun i => (i.zero, i.size, i.bytes)) = some (some (.agg #[.float .f64 0, .int .i64 0, .int .i64 0, .int .i64 0, .int .i64 0, .bool false]), 6, 48) := by kernel_rfl
section
variable {w w' : World} {fb : Nat} {s : SL} {O : List Nat} {N n : Nat} {l : List Fl}
set_option maxHeartbeats 8000000 in
theorem flist_any (h : FlI w fb s O N n l) (hl : l.length ≤ 1000) :
    Calls Tryz.prog 57 #[.pointer (some ⟨fb, 0, none⟩)] w fun r w' => ∃ v, r = .returned (.tuple #[v, .int .i64 0]) ∧ FlI w' fb s O N n l ∧ Kp O w w' ∧ w'.ownsRow w.heap.size 99 6 v l.length (rowV msgC l) := by
  have HP := hid (fpairs_any h hl)
  have hlts := hid h.lts
  obtain ⟨nl, hnl⟩ : ∃ nl, nl = l.length := ⟨_, rfl⟩
  have HNL := hid hnl
  rw [← hnl] at hl
  have hli : (nl : Int) ≤ 1000 := by omega
  have HOK : Hid (∀ x ∈ l, x.e.right ∧ x.e.ok ∧ x.e.nrm = x.e) := hid fun x hx => by
    obtain ⟨M, _, hF, _⟩ := h.m
    exact (hF.ok x hx).2
  have HL := hid hl
  clear h hnl hl
  go_enter Tryz.func57, Tryz.ntmps57
  go_wp2_with fail
  (with_reducible refine HP.out.mono ?_)
  rintro r W1 ⟨v1, rfl, hF1, hk1, hO1⟩
  rw [← HNL.out] at hO1
  obtain ⟨pa, pc, rfl⟩ := own_slice2 hO1
  have HI0 : Hid (FlI W1 fb s O N n l ∧ Kp O w W1 ∧ W1.ownsRow w.heap.size 168 2 (.slice pa nl pc) nl (rowV pairC (flP l)) ∧ W1.ownsRow W1.heap.size 99 6 (.slice none 0 0) 0 (rowV msgC (l.take 0)) ∧ W1.heap.size ≤ W1.heap.size) := hid ⟨hF1, hk1, hO1, ⟨rfl, .inl ⟨rfl, rfl⟩⟩, Nat.le_refl _⟩
  have HB := hid (⟨fun b hb => hO1.lt b hb, hk1.size⟩ : (∀ b, (Value.slice pa nl pc).ownBlock = some b → w.heap.size ≤ b ∧ b < W1.heap.size) ∧ w.heap.size ≤ W1.heap.size)
  clear hF1 hk1 hO1
  go_wp2
  go_loopg [7, 24] nl (fun gg s7 s24 wr => ∃ (j : Nat) (v : Value), j ≤ nl ∧ nl - j ≤ gg ∧ s24 = .int .i64 j ∧ s7 = v ∧ Hid (FlI wr fb s O N n l ∧ Kp O w wr ∧ wr.ownsRow w.heap.size 168 2 (.slice pa nl pc) nl (rowV pairC (flP l)) ∧ wr.ownsRow W1.heap.size 99 6 v j (rowV msgC (l.take j)) ∧ W1.heap.size ≤ wr.heap.size))
  case atStart => exact ⟨0, _, by omega, by omega, rfl, rfl, HI0⟩
  case round =>
    obtain ⟨j, v, hj, hgg, rfl, rfl, HI⟩ := hrel
    by_cases hje : j < nl
    · obtain ⟨x, hx⟩ : ∃ x, l[j]? = some x := ⟨_, List.getElem?_eq_getElem (by rw [← HNL.out]; exact hje)⟩
      have hxm : x ∈ l := List.mem_of_getElem? hx
      obtain ⟨hxr, hxo, hxn⟩ := HOK.out x hxm
      obtain ⟨hF, hk, hOp, hOo, hsz⟩ := HI.out
      obtain ⟨g, c, e1, hg1, hg2, hg3⟩ := own_form hOp (by omega)
      injection e1 with e1 elen e3
      clear elen
      subst e1 e3
      have hxp : (flP l)[j]? = some (encI x.k, msgB x.e x.a) := by simp [flP, hx]
      have m0 : wr.cell? ⟨g, j * 2, none⟩ = some (.string (S (encI x.k))) := own_at hOp rfl (j := j * 2) (by
        have := rowV_get pairC_len _ j _ hxp 0 (by omega)
        rw [Nat.add_zero] at this
        rw [this]; rfl)
      have m1 : wr.cell? ⟨g, j * 2 + 1, none⟩ = some (.string (S (msgB x.e x.a))) := own_at hOp rfl (j := j * 2 + 1) (by
        rw [rowV_get pairC_len _ j _ hxp 1 (by omega)]; rfl)
      have hji : (j : Int) < (nl : Int) := by omega
      obtain ⟨wo, hwo⟩ : ∃ wo, wo = wr := ⟨_, rfl⟩
      subst hwo
      have HM := hid (fun W => fmsg_any (.pointer (some ⟨fb, 0, none⟩)) (S (encI x.k)) x.e x.a hxr hxo W)
      rw [hxn] at HM
      unfold msgV at HM
      have htk : l.take (j + 1) = l.take j ++ [x] := by rw [List.take_add_one, hx]; rfl
      have HTK := hid htk
      clear hx hxm hxr hxo hxn hF hk hOp hOo hsz hxp htk
      go_wp2_with fail
      (with_reducible refine (HM.out _).mono ?_)
      rintro r W4 ⟨rfl, hb4⟩
      have hb04 : Below wo.heap.size wo W4 := ((Below.refl _ wo).alloc (Nat.le_refl _) (.cells #[.string (S (encI x.k)), .string (S (msgB x.e x.a))] 168)).trans (hb4.mono (by simp))
      obtain ⟨hF, hk, hOp, hOo, hsz⟩ := HI.out
      have hO4 := row_of hOo (fun b hb => hb04.block b (hOo.lt b hb).2)
      have hOp4 := row_of hOp (fun b hb => hb04.block b (hOp.lt b hb).2)
      obtain ⟨av, cv, rfl⟩ := own_slice2 hO4
      have H4 := hid (⟨hF.below hb04, hk.trans (Kp.of_below hb04), hOp4, hO4, Nat.le_trans hsz hb04.size⟩ : _ ∧ _ ∧ _ ∧ _ ∧ _)
      clear hb4 hb04 hF hk hOp hOo hsz hO4 hOp4
      go_wp2_with (with_reducible refine stopAt .append rfl ?_)
      with_reducible refine goOn ?_
      obtain ⟨W5, hW5⟩ : ∃ W5, W5 = W4.alloc (.cells #[.float .f64 x.e.t, .int .i64 x.e.src, .int .i64 x.e.n, .int .i64 x.e.dst, .int .i64 x.e.pay, .bool x.a] 99) := ⟨_, rfl⟩
      have hs5 : W5.heap.size = W4.heap.size + 1 := by rw [hW5]; simp
      have hb5 : Below W4.heap.size W4 W5 := by rw [hW5]; exact (Below.refl _ W4).alloc (Nat.le_refl _) _
      rw [← hW5, ← hs5]
      clear hW5
      obtain ⟨hF, hk, hOp, hOo, hsz⟩ := H4.out
      have hO5 := row_of hOo (fun b hb => hb5.block b (hOo.lt b hb).2)
      have hOp5 := row_of hOp (fun b hb => hb5.block b (hOp.lt b hb).2)
      refine app_one rfl _ _ 119 rfl msgC infMsg Tryz.underlying119 rfl (by decide) (by decide) msgC_len msgC_one x hO5 (by have := HL.out; omega) (Nat.le_trans hsz hb5.size) rfl rfl ?_
      intro v' W6 hO6 hk6 _
      rw [← HTK.out] at hO6
      have hno6 : ∀ b, b < W1.heap.size → b ∉ (Value.slice av j cv).ownBlock.toList := fun b hb hm => by
        have := (hO5.lt b (Option.mem_toList.1 hm)).1
        omega
      have hF5 := hF.below hb5
      have hlt0 : ∀ b ∈ fb :: s.sb :: s.tb :: O, b < W1.heap.size := fun b hb => Nat.lt_of_lt_of_le (hlts.out b hb) HB.out.2
      have hF6 : FlI W6 fb s O N n l := hF5.of_blocks (fun b hb => hk6.block b (hF5.lts b hb) (hno6 b (hlt0 b hb)))
      have hOp6 := row_of hOp5 (fun b hb => hk6.block b (hOp5.lt b hb).2 (hno6 b (HB.out.1 b hb).2))
      have hk06 : Kp O w W6 := (hk.trans (Kp.of_below hb5)).trans_gr (O' := (Value.slice av j cv).ownBlock.toList ++ O) (fun b hb => by
        rcases List.mem_append.1 hb with hb | hb
        · have := (hO5.lt b (Option.mem_toList.1 hb)).1
          have := HB.out.2
          exact .inr (by omega)
        · exact .inl hb) (hk6.mono (fun b hb => .inl (by simp [hb])))
      have HI6 := hid (⟨hF6, hk06, hOp6, hO6, Nat.le_trans (Nat.le_trans hsz hb5.size) hk6.size⟩ : _ ∧ _ ∧ _ ∧ _ ∧ _)
      clear hF hk hOp hOo hsz hO5 hOp5 hO6 hk6 hno6 hF5 hlt0 hF6 hOp6 hk06 hb5 hs5
      go_wp2
      go_roundg (nl - (j + 1))
      case measure => omega
      case rel => exact ⟨j + 1, v', by omega, by omega, by go_num, rfl, HI6⟩
    · have hjl : j = nl := by omega
      have HJ := hid hjl
      have hji : ¬ ((j : Int) < (nl : Int)) := by omega
      clear hjl
      go_wp2
      go_ret2
      obtain ⟨hF, hk, hOp, hOo, hsz⟩ := HI.out
      rw [HJ.out, HNL.out, List.take_length] at hOo
      exact ⟨_, rfl, hF, hk, own_base hOo HB.out.2⟩
set_option maxHeartbeats 4000000 in
theorem flen_any (h : FlI w fb s O N n l) (hl : l.length ≤ 1000) :
    Calls Tryz.prog 58 #[.pointer (some ⟨fb, 0, none⟩)] w fun r w' => r = .returned (.tuple #[.int .i64 l.length, .int .i64 0]) ∧ FlI w' fb s O N n l ∧ Kp O w w' := by
  have HP := hid (fpairs_any h hl)
  obtain ⟨nl, hnl⟩ : ∃ nl, nl = l.length := ⟨_, rfl⟩
  rw [← hnl] at HP ⊢
  clear h hl hnl
  go_enter Tryz.func58, Tryz.ntmps58
  go_wp2_with fail
  (with_reducible refine HP.out.mono ?_)
  rintro r W1 ⟨v1, rfl, hF1, hk1, hO1⟩
  obtain ⟨pa, pc, rfl⟩ := own_slice2 hO1
  have HF := hid (⟨hF1, hk1⟩ : _ ∧ _)
  clear hF1 hk1 hO1
  go_wp2
  go_ret2
  exact ⟨rfl, HF.out⟩
end
end Go.Proofs.YtnnghcooidjlhaaGreat
end
section
set_option linter.unusedSimpArgs false
set_option linter.unusedVariables false
set_option maxRecDepth 100000
namespace Go.Proofs.YtnnghcooidjlhaaGreat
open Go.RowKit Go.Lib
def msg0 : Value := .agg #[.float .f64 0, .int .i64 0, .int .i64 0, .int .i64 0, .int .i64 0, .bool false]
section
variable {w w' : World} {fb : Nat} {s : SL} {O : List Nat} {N n : Nat} {l : List Fl}
theorem FlI.setf (h : FlI w fb s O N n l) {g : Nat} (hg : ∀ b ∈ fb :: s.sb :: s.tb :: O, b ≠ g) (i : Nat) (u : Value) : FlI (w.setCell ⟨g, i, none⟩ u) fb s O N n l :=
  h.of_blocks fun b hb => Below.heap_setCell _ _ _ _ (hg b hb)
set_option maxHeartbeats 8000000 in
theorem ftake_no (h : FlI w fb s O N n l) (hl : l.length ≤ 1000) (i : Int) (hi : i < 0 ∨ (l.length : Int) ≤ i) :
    Calls Tryz.prog 65 #[.pointer (some ⟨fb, 0, none⟩), .int .i64 i] w fun r w' => r = .returned (.tuple #[msg0, .int .i64 3]) ∧ FlI w' fb s O N n l ∧ Kp O w w' := by
  have hlts := hid h.lts
  obtain ⟨W1, hW1⟩ : ∃ W1, W1 = w.alloc (.cells #[.float .f64 0, .int .i64 0, .int .i64 0, .int .i64 0, .int .i64 0, .bool false] 99) := ⟨_, rfl⟩
  have hb1 : Below w.heap.size w W1 := by rw [hW1]; exact (Below.refl _ w).alloc (Nat.le_refl _) _
  have hB1 : Blk W1 w.heap.size 99 #[.float .f64 0, .int .i64 0, .int .i64 0, .int .i64 0, .int .i64 0, .bool false] := by rw [hW1]; exact Blk.new w _ _
  have HP := hid (fpairs_any (h.below hb1) hl)
  rw [hW1] at HP
  obtain ⟨nl, hnl⟩ : ∃ nl, nl = l.length := ⟨_, rfl⟩
  rw [← hnl] at HP hi hl
  have HX := hid (⟨hb1, hB1⟩ : _ ∧ _)
  have HW1 := hid hW1
  have hnot : ∀ b ∈ fb :: s.sb :: s.tb :: O, b ≠ w.heap.size := fun b hb e => by have := hlts.out b hb; omega
  have HNOT := hid hnot
  have HO : Hid (w.heap.size ∉ O) := hid fun hm => hnot _ (by simp [hm]) rfl
  clear h hnl hb1 hB1 hW1 hnot hl
  unfold msg0
  rcases hi with hi | hi
  case' inr =>
    by_cases hneg : i < 0
    case' pos => clear hi
  all_goals
    go_enter Tryz.func65, Tryz.ntmps65
    go_wp2_with fail
    (with_reducible refine HP.out.mono ?_)
    rintro r W2 ⟨v1, rfl, hF2, hk2, hO2⟩
    rw [← HW1.out] at hk2
    obtain ⟨pa, pc, rfl⟩ := own_slice2 hO2
    have hB2 := HX.out.2.kp hk2 HO.out
    have b0 : W2.cell? ⟨w.heap.size, 0, none⟩ = some (.float .f64 0) := hB2.cell 0
    have b1 : W2.cell? ⟨w.heap.size, 1, none⟩ = some (.int .i64 0) := hB2.cell 1
    have b2 : W2.cell? ⟨w.heap.size, 2, none⟩ = some (.int .i64 0) := hB2.cell 2
    have b3 : W2.cell? ⟨w.heap.size, 3, none⟩ = some (.int .i64 0) := hB2.cell 3
    have b4 : W2.cell? ⟨w.heap.size, 4, none⟩ = some (.int .i64 0) := hB2.cell 4
    have b5 : W2.cell? ⟨w.heap.size, 5, none⟩ = some (.bool false) := hB2.cell 5
    have bf0 := hB2.frozen 0
    have bf1 := hB2.frozen 1
    have bf2 := hB2.frozen 2
    have bf3 := hB2.frozen 3
    have bf4 := hB2.frozen 4
    have bf5 := hB2.frozen 5
    have bl := hB2.lt
    have H2 := hid (⟨hF2, (Kp.of_below HX.out.1).trans hk2, hB2⟩ : _ ∧ _ ∧ _)
    clear hF2 hk2 hO2 hB2
    go_wp2
    obtain ⟨hF2, hk2, hB2⟩ := H2.out
    have hr8 := ((((((hB2.set_ 0 (.float .f64 0)).set_ 1 (.int .i64 0)).set_ 2 (.int .i64 0)).set_ 3 (.int .i64 0)).set_ 4 (.int .i64 0)).set_ 5 (.bool false))
    have v0 := hr8.cell 0
    have v1 := hr8.cell 1
    have v2 := hr8.cell 2
    have v3 := hr8.cell 3
    have v4 := hr8.cell 4
    have v5 := hr8.cell 5
    simp only [List.setIfInBounds_toArray, List.set_cons_zero, List.set_cons_succ, List.getElem?_toArray, List.getElem?_cons_zero, List.getElem?_cons_succ] at v0 v1 v2 v3 v4 v5
    refine bodyPost_ret (v := .tuple #[.agg #[.float .f64 0, .int .i64 0, .int .i64 0, .int .i64 0, .int .i64 0, .bool false], .int .i64 3]) (by simp [results, Tryz.results65, go_sem, v0, v1, v2, v3, v4, v5]) rfl ?_
    exact ⟨rfl, (((((hF2.setf HNOT.out _ _).setf HNOT.out _ _).setf HNOT.out _ _).setf HNOT.out _ _).setf HNOT.out _ _).setf HNOT.out _ _, (((((hk2.setCell (.inr (Nat.le_refl _)) _).setCell (.inr (Nat.le_refl _)) _).setCell (.inr (Nat.le_refl _)) _).setCell (.inr (Nat.le_refl _)) _).setCell (.inr (Nat.le_refl _)) _).setCell (.inr (Nat.le_refl _)) _⟩
set_option maxHeartbeats 8000000 in
theorem ftake_any (h : FlI w fb s O N n l) (hl : l.length ≤ 1000) {i : Nat} {x : Fl} (hx : l[i]? = some x) :
    Calls Tryz.prog 65 #[.pointer (some ⟨fb, 0, none⟩), .int .i64 i] w fun r w' => r = .returned (.tuple #[msgV x.e x.a, .int .i64 0]) ∧ FlI w' fb s O N n (l.eraseIdx i) ∧ Kp O w w' := by
  have hlts := hid h.lts
  obtain ⟨W1, hW1⟩ : ∃ W1, W1 = w.alloc (.cells #[.float .f64 0, .int .i64 0, .int .i64 0, .int .i64 0, .int .i64 0, .bool false] 99) := ⟨_, rfl⟩
  have hb1 : Below w.heap.size w W1 := by rw [hW1]; exact (Below.refl _ w).alloc (Nat.le_refl _) _
  have hs1 : W1.heap.size = w.heap.size + 1 := by rw [hW1]; simp
  have hB1 : Blk W1 w.heap.size 99 #[.float .f64 0, .int .i64 0, .int .i64 0, .int .i64 0, .int .i64 0, .bool false] := by rw [hW1]; exact Blk.new w _ _
  have HP := hid (fpairs_any (h.below hb1) hl)
  rw [hW1] at HP
  obtain ⟨nl, hnl⟩ : ∃ nl, nl = l.length := ⟨_, rfl⟩
  rw [← hnl] at HP hl
  have hlt := (List.getElem?_eq_some_iff.1 hx).1
  rw [← hnl] at hlt
  have hxp : (flP l)[i]? = some (encI x.k, msgB x.e x.a) := by simp [flP, hx]
  have hok : x.e.right ∧ x.e.ok ∧ x.e.nrm = x.e := by
    obtain ⟨M, _, hF, _⟩ := h.m
    exact (hF.ok x (List.mem_of_getElem? hx)).2
  have HM := hid (fun W => fmsg_any (.pointer (some ⟨fb, 0, none⟩)) (S (encI x.k)) x.e x.a hok.1 hok.2.1 W)
  rw [hok.2.2] at HM
  have HX := hid (⟨hb1, hB1, hx, hxp, hs1⟩ : _ ∧ _ ∧ _ ∧ _ ∧ _)
  have HW1 := hid hW1
  have hnot : ∀ b ∈ fb :: s.sb :: s.tb :: O, b < w.heap.size := h.lts
  have HNOT := hid hnot
  have HO : Hid (∀ b, w.heap.size ≤ b → b ∉ O) := hid fun b hb hm => by have := hnot b (by simp [hm]); omega
  have hi0 : ¬ ((i : Int) < 0) := by omega
  have hi1 : (i : Int) < (nl : Int) := by omega
  have HLI := hid (⟨hlt, hl⟩ : _ ∧ _)
  clear h hnl hb1 hB1 hW1 hnot hlt hx hxp hok hl hs1
  unfold msgV at HM ⊢
  go_enter Tryz.func65, Tryz.ntmps65
  go_wp2_with fail
  (with_reducible refine HP.out.mono ?_)
  rintro r W2 ⟨v1, rfl, hF2, hk2, hO2⟩
  rw [← HW1.out] at hk2 hO2
  obtain ⟨g, c, rfl, hg1, hg2, hg3⟩ := own_form hO2 (by have := HLI.out; omega)
  have hB2 := HX.out.2.1.kp hk2 (HO.out _ (Nat.le_refl _))
  have m0 : W2.cell? ⟨g, i * 2, none⟩ = some (.string (S (encI x.k))) := own_at hO2 rfl (j := i * 2) (by
    have := rowV_get pairC_len _ i _ HX.out.2.2.2.1 0 (by omega)
    rw [Nat.add_zero] at this
    rw [this]; rfl)
  have m1 : W2.cell? ⟨g, i * 2 + 1, none⟩ = some (.string (S (msgB x.e x.a))) := own_at hO2 rfl (j := i * 2 + 1) (by
    rw [rowV_get pairC_len _ i _ HX.out.2.2.2.1 1 (by omega)]; rfl)
  have H2 := hid (⟨hF2, (Kp.of_below HX.out.1).trans hk2, hB2, m0, hg1, hg2⟩ : _ ∧ _ ∧ _ ∧ _ ∧ _ ∧ _)
  clear hF2 hk2 hO2 hB2
  go_wp2_with fail
  (with_reducible refine (HM.out _).mono ?_)
  rintro r W3 ⟨rfl, hb3⟩
  obtain ⟨hF2, hk2, hB2, m0', hg1', hg2'⟩ := H2.out
  obtain ⟨W4, hW4⟩ : ∃ W4, W4 = W3.alloc (.cells #[.float .f64 x.e.t, .int .i64 x.e.src, .int .i64 x.e.n, .int .i64 x.e.dst, .int .i64 x.e.pay, .bool x.a] 99) := ⟨_, rfl⟩
  have hb34 : Below W3.heap.size W3 W4 := by rw [hW4]; exact (Below.refl _ W3).alloc (Nat.le_refl _) _
  have hb4 : Below W2.heap.size W2 W4 := hb3.trans (hb34.mono hb3.size)
  have hY4 : Blk W4 W3.heap.size 99 #[.float .f64 x.e.t, .int .i64 x.e.src, .int .i64 x.e.n, .int .i64 x.e.dst, .int .i64 x.e.pay, .bool x.a] := by rw [hW4]; exact Blk.new W3 _ _
  have hF4 := hF2.below hb4
  have hB4 := hB2.below hb4 hB2.lt
  have n0 : W4.cell? ⟨g, i * 2, none⟩ = some (.string (S (encI x.k))) := (hb4.cell hg2').trans m0'
  have f0 : W4.cell? ⟨fb, 0, none⟩ = some (.pointer (some ⟨s.sb, 0, none⟩)) := hF4.b.cell 0
  have H4 := hid (⟨hF4, hk2.trans (Kp.of_below hb4), hB4, hY4, Nat.le_trans hk2.size hb3.size⟩ : _ ∧ _ ∧ _ ∧ _ ∧ _)
  have HDEL : Hid (∀ W, Below W4.heap.size W4 W → Calls Tryz.prog 105 #[.pointer (some ⟨s.sb, 0, none⟩), .int .i64 5, .int .i64 0, .string (S (encI x.k))] W fun r w' => r = .returned (.int .i64 0) ∧ FlI w' fb s O N n (l.eraseIdx i) ∧ Kp O W w') := hid fun W hW => by
    have hFW := hF4.below hW
    obtain ⟨M, hS, hM, hL⟩ := hFW.m
    refine (sdel_any (sp := 5) (lp := 0) (k := encI x.k) hS (by unfold okP; omega) (by simp)).mono ?_
    rintro r w' ⟨rfl, hS', hk'⟩
    rw [hM.has hS.asc HX.out.2.2.1]
    refine ⟨rfl, hFW.turn hk' (Gr.refl _ _) hS' (hM.take hS.asc HX.out.2.2.1) ?_, hk'⟩
    have := longs_sub (delM_sub M (hdP 5 0 ++ encI x.k))
    omega
  have HCL : Hid (W4.cell? ⟨fb, 0, none⟩ = some (.pointer (some ⟨s.sb, 0, none⟩)) ∧ W4.cell? ⟨g, i * 2, none⟩ = some (.string (S (encI x.k)))) := hid ⟨f0, n0⟩
  have hg4 : w.heap.size < g ∧ g < W4.heap.size := ⟨by have := HX.out.2.2.2.2; omega, Nat.lt_of_lt_of_le hg2' hb4.size⟩
  have HCK : Hid (∀ W W', Below W4.heap.size W4 W → Kp O W W' → W'.cell? ⟨g, i * 2, none⟩ = some (.string (S (encI x.k))) ∧ Blk W' w.heap.size 99 #[.float .f64 0, .int .i64 0, .int .i64 0, .int .i64 0, .int .i64 0, .bool false] ∧ Blk W' W3.heap.size 99 #[.float .f64 x.e.t, .int .i64 x.e.src, .int .i64 x.e.n, .int .i64 x.e.dst, .int .i64 x.e.pay, .bool x.a]) := hid fun W W' hW hk => by
    have h1 := hB4.below hW hB4.lt
    have h2 := hY4.below hW hY4.lt
    refine ⟨(hk.cell (Nat.lt_of_lt_of_le hg4.2 hW.size) (HO.out g (by omega))).trans ((hW.cell hg4.2).trans n0), h1.kp hk (HO.out _ (Nat.le_refl _)), h2.kp hk (HO.out _ ?_)⟩
    have := hk2.size
    have := hb3.size
    omega
  have HW4 := hid hW4
  clear hF2 hk2 hB2 m0' hg1' hg2' hb34 hb4 hY4 hF4 hB4 n0 f0 hW4 hb3 m0 m1 hg1 hg2 hg4
  go_wp2
  rw [← HW4.out]
  go_region_held3 (fun W => W.cell? ⟨fb, 0, none⟩ = some (.pointer (some ⟨s.sb, 0, none⟩)) ∧ W.cell? ⟨g, i * 2, none⟩ = some (.string (S (encI x.k)))) (first | exact HCL.out | exact ⟨hcl5, hcl6⟩)
    (first
      | (go_at_call 105; refine (HDEL.out _ (Below.refl W4.heap.size W4)).mono ?_; rintro r W5 ⟨rfl, hF5, hk5⟩; have hcl5 : W5.cell? ⟨fb, 0, none⟩ = some (.pointer (some ⟨s.sb, 0, none⟩)) := hF5.b.cell 0; have hck5 := HCK.out _ _ (Below.refl W4.heap.size W4) hk5; have hk45 := (H4.out.2.1.trans (Kp.of_below (Below.refl W4.heap.size W4))).trans hk5; have hcl6 := hck5.1)
      | (go_at_call 105; refine (HDEL.out _ ((Below.refl W4.heap.size W4).drew)).mono ?_; rintro r W5 ⟨rfl, hF5, hk5⟩; have hcl5 : W5.cell? ⟨fb, 0, none⟩ = some (.pointer (some ⟨s.sb, 0, none⟩)) := hF5.b.cell 0; have hck5 := HCK.out _ _ ((Below.refl W4.heap.size W4).drew) hk5; have hk45 := (H4.out.2.1.trans (Kp.of_below ((Below.refl W4.heap.size W4).drew))).trans hk5; have hcl6 := hck5.1)
      | (go_at_call 105; refine (HDEL.out _ (below_drewN (Below.refl W4.heap.size W4) 1)).mono ?_; rintro r W5 ⟨rfl, hF5, hk5⟩; have hcl5 : W5.cell? ⟨fb, 0, none⟩ = some (.pointer (some ⟨s.sb, 0, none⟩)) := hF5.b.cell 0; have hck5 := HCK.out _ _ (below_drewN (Below.refl W4.heap.size W4) 1) hk5; have hk45 := (H4.out.2.1.trans (Kp.of_below (below_drewN (Below.refl W4.heap.size W4) 1))).trans hk5; have hcl6 := hck5.1))
  all_goals
    obtain ⟨-, hB5, hY5⟩ := hck5
    have y0 : W5.cell? ⟨W3.heap.size, 0, none⟩ = some (.float .f64 x.e.t) := hY5.cell 0
    have y1 : W5.cell? ⟨W3.heap.size, 1, none⟩ = some (.int .i64 x.e.src) := hY5.cell 1
    have y2 : W5.cell? ⟨W3.heap.size, 2, none⟩ = some (.int .i64 x.e.n) := hY5.cell 2
    have y3 : W5.cell? ⟨W3.heap.size, 3, none⟩ = some (.int .i64 x.e.dst) := hY5.cell 3
    have y4 : W5.cell? ⟨W3.heap.size, 4, none⟩ = some (.int .i64 x.e.pay) := hY5.cell 4
    have y5 : W5.cell? ⟨W3.heap.size, 5, none⟩ = some (.bool x.a) := hY5.cell 5
    have b0 : W5.cell? ⟨w.heap.size, 0, none⟩ = some (.float .f64 0) := hB5.cell 0
    have b1 : W5.cell? ⟨w.heap.size, 1, none⟩ = some (.int .i64 0) := hB5.cell 1
    have b2 : W5.cell? ⟨w.heap.size, 2, none⟩ = some (.int .i64 0) := hB5.cell 2
    have b3 : W5.cell? ⟨w.heap.size, 3, none⟩ = some (.int .i64 0) := hB5.cell 3
    have b4 : W5.cell? ⟨w.heap.size, 4, none⟩ = some (.int .i64 0) := hB5.cell 4
    have b5 : W5.cell? ⟨w.heap.size, 5, none⟩ = some (.bool false) := hB5.cell 5
    have bf0 := hB5.frozen 0
    have bf1 := hB5.frozen 1
    have bf2 := hB5.frozen 2
    have bf3 := hB5.frozen 3
    have bf4 := hB5.frozen 4
    have bf5 := hB5.frozen 5
    have bl := hB5.lt
    have yl := hY5.lt
    have H5 := hid (⟨hF5, hk45, hB5⟩ : _ ∧ _ ∧ _)
    clear hF5 hk45 hk5 hcl5 hcl6 hB5 hY5
    go_wp2
    have hr8 := ((((((H5.out.2.2.set_ 0 (.float .f64 x.e.t)).set_ 1 (.int .i64 x.e.src)).set_ 2 (.int .i64 x.e.n)).set_ 3 (.int .i64 x.e.dst)).set_ 4 (.int .i64 x.e.pay)).set_ 5 (.bool x.a))
    have v0 := hr8.cell 0
    have v1 := hr8.cell 1
    have v2 := hr8.cell 2
    have v3 := hr8.cell 3
    have v4 := hr8.cell 4
    have v5 := hr8.cell 5
    simp only [List.setIfInBounds_toArray, List.set_cons_zero, List.set_cons_succ, List.getElem?_toArray, List.getElem?_cons_zero, List.getElem?_cons_succ] at v0 v1 v2 v3 v4 v5
    refine bodyPost_ret (v := .tuple #[.agg #[.float .f64 x.e.t, .int .i64 x.e.src, .int .i64 x.e.n, .int .i64 x.e.dst, .int .i64 x.e.pay, .bool x.a], .int .i64 0]) (by simp [results, Tryz.results65, go_sem, v0, v1, v2, v3, v4, v5]) rfl ?_
    have hne : ∀ b ∈ fb :: s.sb :: s.tb :: O, b ≠ w.heap.size := fun b hb => Nat.ne_of_lt (HNOT.out b hb)
    exact ⟨rfl, (((((H5.out.1.setf hne _ _).setf hne _ _).setf hne _ _).setf hne _ _).setf hne _ _).setf hne _ _, (((((H5.out.2.1.setCell (.inr (Nat.le_refl _)) _).setCell (.inr (Nat.le_refl _)) _).setCell (.inr (Nat.le_refl _)) _).setCell (.inr (Nat.le_refl _)) _).setCell (.inr (Nat.le_refl _)) _).setCell (.inr (Nat.le_refl _)) _⟩
end
end Go.Proofs.YtnnghcooidjlhaaGreat
end
section
set_option linter.unusedSimpArgs false
set_option linter.unusedVariables false
set_option maxRecDepth 100000
namespace Go.Proofs.YtnnghcooidjlhaaGreat
open Go.RowKit Go.Lib
def lstep (s : Bool × Nat) (t : Nat) : Bool × Nat := if s.1 = false ∨ cmpT t s.2 < 0 then (true, t) else s
def LeI (w : World) (fc tc : Nat) (s : Bool × Nat) : Prop := Blk w fc 4 #[.bool s.1] ∧ Blk w tc 63 #[.float .f64 s.2]
set_option maxHeartbeats 4000000 in
theorem least1_any (fc tc : Nat) (hne : fc ≠ tc) (s : Bool × Nat) (x : Fl) (w : World) (h : LeI w fc tc s) :
    Calls Tryz.prog 118 #[msgV x.e x.a, .pointer (some ⟨fc, 0, none⟩), .pointer (some ⟨tc, 0, none⟩)] w fun e w' => e = .returned (.tuple #[]) ∧ LeI w' fc tc (lstep s x.e.t) ∧ Kp [fc, tc] w w' := by
  obtain ⟨f, t⟩ := s
  obtain ⟨hF, hT⟩ := h
  have f0 : w.cell? ⟨fc, 0, none⟩ = some (.bool f) := hF.cell 0
  have t0 : w.cell? ⟨tc, 0, none⟩ = some (.float .f64 t) := hT.cell 0
  have ff := hF.frozen 0
  have tf := hT.frozen 0
  have fl := hF.lt
  have tl := hT.lt
  have HTM := hid (fun W => times_any x.e.t t W)
  have HX := hid (⟨hF, hT⟩ : _ ∧ _)
  unfold msgV
  clear hF hT
  rcases f with _ | _
  case' true => by_cases hc : cmpT x.e.t t < 0
  all_goals
    go_enter Tryz.func118, Tryz.ntmps118
    go_wp2_with (first
      | (go_at_call 119; refine (HTM.out _).mono ?_; rintro e w' ⟨rfl, rfl⟩))
  all_goals
    go_end0
    refine ⟨rfl, ?_⟩
    have h1 : Hid (∀ o, LeI (((w.setCell ⟨tc, 0, none⟩ (.float .f64 x.e.t)).setCell ⟨fc, 0, none⟩ (.bool true)).alloc o) fc tc (true, x.e.t) ∧ Kp [fc, tc] w (((w.setCell ⟨tc, 0, none⟩ (.float .f64 x.e.t)).setCell ⟨fc, 0, none⟩ (.bool true)).alloc o)) := hid fun o =>
      ⟨⟨((HX.out.1.far (p := ⟨tc, 0, none⟩) hne _).set_ 0 (.bool true)).alloc _, ((HX.out.2.set_ 0 (.float .f64 x.e.t)).far (p := ⟨fc, 0, none⟩) (Ne.symm hne) _).alloc _⟩,
        (((Kp.refl _ w).setCell (p := ⟨tc, 0, none⟩) (.inl (by simp)) _).setCell (p := ⟨fc, 0, none⟩) (.inl (by simp)) _).alloc _⟩
    first
      | (have e : lstep (false, t) x.e.t = (true, x.e.t) := by simp [lstep]
         rw [e]
         exact h1.out _)
      | (have e : lstep (true, t) x.e.t = (true, x.e.t) := by simp [lstep, hc]
         rw [e]
         exact h1.out _)
      | (have e : lstep (true, t) x.e.t = (true, t) := by
           have hc' : ¬ cmpT x.e.t t < 0 := by omega
           simp [lstep, hc']
         rw [e]
         exact ⟨⟨HX.out.1.alloc _, HX.out.2.alloc _⟩, (Kp.refl _ w).alloc _⟩)
section
variable {w w' : World} {fb : Nat} {s : SL} {O : List Nat} {N n : Nat} {l : List Fl}
def leastF (l : List Fl) : Bool × Nat := l.foldl (fun s x => lstep s x.e.t) (false, 0)
set_option maxHeartbeats 8000000 in
theorem fleast_any (h : FlI w fb s O N n l) (hl : l.length ≤ 1000) :
    Calls Tryz.prog 59 #[.pointer (some ⟨fb, 0, none⟩)] w fun r w' => r = .returned (.tuple #[.float .f64 (leastF l).2, .bool (leastF l).1, .int .i64 0]) ∧ FlI w' fb s O N n l ∧ Kp O w w' := by
  have HP := hid (flist_any h hl)
  have hlts := hid h.lts
  obtain ⟨nl, hnl⟩ : ∃ nl, nl = l.length := ⟨_, rfl⟩
  have HNL := hid hnl
  rw [← hnl] at hl
  have hli : (nl : Int) ≤ 1000 := by omega
  have HL := hid hl
  clear h hnl hl
  go_enter Tryz.func59, Tryz.ntmps59
  go_wp2_with fail
  (with_reducible refine HP.out.mono ?_)
  rintro r W1 ⟨v1, rfl, hF1, hk1, hO1⟩
  rw [← HNL.out] at hO1
  obtain ⟨pa, pc, rfl⟩ := own_slice2 hO1
  obtain ⟨W2, hW2⟩ : ∃ W2, W2 = (W1.alloc (.cells #[.float .f64 0] 63)).alloc (.cells #[.bool false] 4) := ⟨_, rfl⟩
  have hs2 : W2.heap.size = W1.heap.size + 2 := by rw [hW2]; simp
  have hb2 : Below W1.heap.size W1 W2 := by
    rw [hW2]
    exact ((Below.refl _ W1).alloc (Nat.le_refl _) _).alloc (by simp) _
  have hL2 : LeI W2 (W1.heap.size + 1) W1.heap.size (false, 0) := by
    refine ⟨?_, ?_⟩
    · rw [hW2]
      have := Blk.new (W1.alloc (.cells #[.float .f64 0] 63)) 4 #[.bool false]
      simpa using this
    · rw [hW2]
      exact (Blk.new W1 63 #[.float .f64 0]).alloc _
  have HI0 : Hid (FlI W2 fb s O N n l ∧ Kp O w W2 ∧ W2.ownsRow w.heap.size 99 6 (.slice pa nl pc) nl (rowV msgC l) ∧ LeI W2 (W1.heap.size + 1) W1.heap.size (leastF (l.take 0)) ∧ W1.heap.size + 2 ≤ W2.heap.size) :=
    hid ⟨hF1.below hb2, hk1.trans (Kp.of_below hb2), row_of hO1 (fun b hb => hb2.block b (hO1.lt b hb).2), hL2, by omega⟩
  have HB := hid (⟨fun b hb => hO1.lt b hb, hk1.size⟩ : (∀ b, (Value.slice pa nl pc).ownBlock = some b → w.heap.size ≤ b ∧ b < W1.heap.size) ∧ w.heap.size ≤ W1.heap.size)
  have HW2 := hid hW2
  clear hF1 hk1 hO1 hW2 hs2 hb2 hL2
  go_wp2
  rw [← HW2.out]
  obtain ⟨fc, hfc⟩ : ∃ fc, fc = W1.heap.size + 1 := ⟨_, rfl⟩
  obtain ⟨tc, htc⟩ : ∃ tc, tc = W1.heap.size := ⟨_, rfl⟩
  rw [← hfc, ← htc] at HI0 ⊢
  have HFT := hid (⟨by omega, htc⟩ : fc = tc + 1 ∧ tc = W1.heap.size)
  clear hfc htc
  go_loopg [23] nl (fun gg s23 wr => ∃ j : Nat, j ≤ nl ∧ nl - j ≤ gg ∧ s23 = .int .i64 j ∧ Hid (FlI wr fb s O N n l ∧ Kp O w wr ∧ wr.ownsRow w.heap.size 99 6 (.slice pa nl pc) nl (rowV msgC l) ∧ LeI wr fc tc (leastF (l.take j)) ∧ tc + 2 ≤ wr.heap.size))
  case atStart => exact ⟨0, by omega, by omega, rfl, HI0⟩
  case round =>
    obtain ⟨j, hj, hgg, rfl, HI⟩ := hrel
    by_cases hje : j < nl
    · obtain ⟨x, hx⟩ : ∃ x, l[j]? = some x := ⟨_, List.getElem?_eq_getElem (by rw [← HNL.out]; exact hje)⟩
      obtain ⟨hF, hk, hO, hLe, hsz⟩ := HI.out
      obtain ⟨g, c, e1, hg1, hg2, hg3⟩ := own_form hO (by omega)
      injection e1 with e1 elen e3
      clear elen
      subst e1 e3
      have mm : ∀ q u, q < 6 → (msgC x)[q]? = some u → wr.cell? ⟨g, j * 6 + q, none⟩ = some u := fun q u hq hu => own_at hO rfl (j := j * 6 + q) ((rowV_get msgC_len _ j _ hx q hq).trans hu)
      have m0 : wr.cell? ⟨g, j * 6, none⟩ = some (.float .f64 x.e.t) := mm 0 _ (by omega) rfl
      have m1 := mm 1 (.int .i64 x.e.src) (by omega) rfl
      have m2 := mm 2 (.int .i64 x.e.n) (by omega) rfl
      have m3 := mm 3 (.int .i64 x.e.dst) (by omega) rfl
      have m4 := mm 4 (.int .i64 x.e.pay) (by omega) rfl
      have m5 := mm 5 (.bool x.a) (by omega) rfl
      have hji : (j : Int) < (nl : Int) := by omega
      obtain ⟨wo, hwo⟩ : ∃ wo, wo = wr := ⟨_, rfl⟩
      subst hwo
      have hb1 : Below wo.heap.size wo (wo.alloc (.cells #[.float .f64 x.e.t, .int .i64 x.e.src, .int .i64 x.e.n, .int .i64 x.e.dst, .int .i64 x.e.pay, .bool x.a] 99)) := (Below.refl _ wo).alloc (Nat.le_refl _) _
      obtain ⟨W4, hW4⟩ : ∃ W4, W4 = wo.alloc (.cells #[.float .f64 x.e.t, .int .i64 x.e.src, .int .i64 x.e.n, .int .i64 x.e.dst, .int .i64 x.e.pay, .bool x.a] 99) := ⟨_, rfl⟩
      rw [← hW4] at hb1
      have HC := hid (least1_any fc tc (by have := HFT.out.1; omega) (leastF (l.take j)) x W4 ⟨hLe.1.below hb1 hLe.1.lt, hLe.2.below hb1 hLe.2.lt⟩)
      rw [hW4] at HC
      unfold msgV at HC
      have hst : leastF (l.take (j + 1)) = lstep (leastF (l.take j)) x.e.t := by
        unfold leastF
        rw [List.take_add_one, hx]
        simp
      have HST := hid (⟨hst, hb1⟩ : _ ∧ _)
      have HW4 := hid hW4
      clear hx mm hF hk hO hLe hsz hst hb1 hW4
      go_wp2_with fail
      (with_reducible refine HC.out.mono ?_)
      rintro r W5 ⟨rfl, hL5, hk5⟩
      rw [← HW4.out] at hk5
      rw [← HST.out.1] at hL5
      have hb4 := HST.out.2
      obtain ⟨hF, hk, hO, hLe, hsz⟩ := HI.out
      have hF4 := hF.below hb4
      have hlow : ∀ b, b < tc → b ∉ [fc, tc] := fun b hb hm => by
        simp only [List.mem_cons, List.not_mem_nil, or_false] at hm
        have := HFT.out.1
        omega
      have hwt : w.heap.size ≤ tc := by rw [HFT.out.2]; exact HB.out.2
      have hF5 : FlI W5 fb s O N n l := hF4.of_blocks (fun b hb => hk5.block b (hF4.lts b hb) (hlow b (Nat.lt_of_lt_of_le (hlts.out b hb) hwt)))
      have hO4 := row_of hO (fun b hb => hb4.block b (hO.lt b hb).2)
      have hO5 := row_of hO4 (fun b hb => hk5.block b (hO4.lt b hb).2 (hlow b (by rw [HFT.out.2]; exact (HB.out.1 b hb).2)))
      have hk5' : Kp O w W5 := (hk.trans (Kp.of_below hb4)).trans_gr (O' := [fc, tc] ++ O) (fun b hb => by
        rcases List.mem_append.1 hb with hb | hb
        · refine .inr ?_
          simp only [List.mem_cons, List.not_mem_nil, or_false] at hb
          have := HFT.out.1
          omega
        · exact .inl hb) (hk5.mono (fun b hb => .inl (List.mem_append_left _ hb)))
      have HI5 : Hid (FlI W5 fb s O N n l ∧ Kp O w W5 ∧ W5.ownsRow w.heap.size 99 6 (.slice (some ⟨g, 0, none⟩) nl pc) nl (rowV msgC l) ∧ LeI W5 fc tc (leastF (l.take (j + 1))) ∧ tc + 2 ≤ W5.heap.size) := hid ⟨hF5, hk5', hO5, hL5, Nat.le_trans hsz (Nat.le_trans hb4.size hk5.size)⟩
      clear hb4 hF hk hO hLe hsz hF4 hF5 hO4 hO5 hk5' hL5 hk5 hlow hwt
      go_wp2
      go_roundg (nl - (j + 1))
      case measure => omega
      case rel => exact ⟨j + 1, by omega, by omega, by go_num, HI5⟩
    · have hjl : j = nl := by omega
      have HJ := hid hjl
      have hji : ¬ ((j : Int) < (nl : Int)) := by omega
      obtain ⟨hF, hk, hO, hLe, hsz⟩ := HI.out
      rw [hjl, HNL.out, List.take_length] at hLe
      have c0 : wr.cell? ⟨fc, 0, none⟩ = some (.bool (leastF l).1) := hLe.1.cell 0
      have c1 : wr.cell? ⟨tc, 0, none⟩ = some (.float .f64 (leastF l).2) := hLe.2.cell 0
      have HF := hid (⟨hF, hk⟩ : _ ∧ _)
      have HC := hid (⟨c0, c1⟩ : _ ∧ _)
      clear hjl hF hk hO hLe hsz
      go_wp2
      go_region_held3 (fun W => W.cell? ⟨fc, 0, none⟩ = some (.bool (leastF l).1) ∧ W.cell? ⟨tc, 0, none⟩ = some (.float .f64 (leastF l).2)) (exact HC.out) (fail)
      all_goals
        go_wp2
        go_ret3
        exact ⟨rfl, by first | exact HF.out | exact ⟨HF.out.1.of_blocks (fun _ _ => rfl), HF.out.2.drew⟩⟩
end
end Go.Proofs.YtnnghcooidjlhaaGreat
end
section
set_option linter.unusedSimpArgs false
set_option linter.unusedVariables false
set_option maxRecDepth 100000
namespace Go.Proofs.YtnnghcooidjlhaaGreat
open Go.RowKit Go.Lib
set_option maxHeartbeats 4000000 in
theorem same02_any (t : Nat) (src n : Int) (w : World) :
    Calls Tryz.prog 101 #[.agg #[.float .f64 t, .int .i64 src, .int .i64 n], .agg #[.float .f64 t, .int .i64 src, .int .i64 n]] w fun e w' => e = .returned (.bool true) ∧ Below w.heap.size w w' := by
  obtain ⟨W1, hW1⟩ : ∃ W1, W1 = (w.alloc (.cells #[.float .f64 t, .int .i64 src, .int .i64 n] 65)).alloc (.cells #[.float .f64 t, .int .i64 src, .int .i64 n] 65) := ⟨_, rfl⟩
  have hb1 : Below w.heap.size w W1 := by rw [hW1]; exact ((Below.refl _ w).alloc (Nat.le_refl _) _).alloc (by simp) _
  have hB1 : Blk W1 w.heap.size 65 #[.float .f64 t, .int .i64 src, .int .i64 n] := by rw [hW1]; exact (Blk.new w _ _).alloc _
  have hB2 : Blk W1 (w.heap.size + 1) 65 #[.float .f64 t, .int .i64 src, .int .i64 n] := by
    rw [hW1]
    have := Blk.new (w.alloc (.cells #[.float .f64 t, .int .i64 src, .int .i64 n] 65)) 65 #[.float .f64 t, .int .i64 src, .int .i64 n]
    simpa using this
  have HCL : Hid (∀ W, BelC W1 W → W.cell? ⟨w.heap.size, 0, none⟩ = some (.float .f64 t) ∧ W.cell? ⟨w.heap.size, 1, none⟩ = some (.int .i64 src) ∧ W.cell? ⟨w.heap.size, 2, none⟩ = some (.int .i64 n) ∧ W.cell? ⟨w.heap.size + 1, 0, none⟩ = some (.float .f64 t) ∧ W.cell? ⟨w.heap.size + 1, 1, none⟩ = some (.int .i64 src) ∧ W.cell? ⟨w.heap.size + 1, 2, none⟩ = some (.int .i64 n)) := hid fun W hW => by
    have h1 := hW.blk hB1
    have h2 := hW.blk hB2
    exact ⟨h1.cell 0, h1.cell 1, h1.cell 2, h2.cell 0, h2.cell 1, h2.cell 2⟩
  have HC0 : Hid (BelC W1 W1.drew) := hid (BelC.drew W1)
  have HF := hid hb1
  have HW1 := hid hW1
  clear hb1 hB1 hB2 hW1
  go_enter Tryz.func101, Tryz.ntmps101
  go_wp2
  rw [← HW1.out]
  refine qC_region (by kernel_rfl) (by kernel_rfl) (BelC W1) HC0.out ?_
  repeat (first | (refine qC_none rfl (fun K hK => ?_); apply Exists.intro; refine ⟨fun w0 hw0 => ?_, ?_⟩; (focus (obtain ⟨q0, q1, q2, q3, q4, q5⟩ := HCL.out w0 hw0; go_simp; first | exact rfl | exact ⟨rfl, rfl⟩ | (fail))); go_simp; refine hK _ ?_; clear hK K) | (refine qC_yes _ _ _ rfl rfl (by rfl) (fun K hK => ?_); apply Exists.intro; refine ⟨fun w0 hw0 => ?_, ?_⟩; (focus (obtain ⟨q0, q1, q2, q3, q4, q5⟩ := HCL.out w0 hw0; go_simp; first | exact rfl | exact ⟨rfl, rfl⟩ | (fail))); go_simp; refine hK _ ?_; clear hK K) | (refine qC_no _ _ _ rfl rfl (by rfl) (fun K hK => ?_); go_simp; refine hK _ ?_; clear hK K) | (refine qC_undef _ _ _ rfl rfl (by rfl) (fun K hK => ?_); go_simp; refine hK _ ?_; clear hK K))
  refine qC_nil ?_
  intro w5 hw5
  have H5 := hid (HF.out.trans (hw5.out.mono HF.out.size))
  clear hw5
  go_wp2
  go_ret
  exact ⟨rfl, H5.out⟩
set_option maxHeartbeats 4000000 in
theorem same20_any (e : Ev) (w : World) :
    Calls Tryz.prog 39 #[evV e, evV e] w fun r w' => r = .returned (.bool true) ∧ Below w.heap.size w w' := by
  unfold evV
  obtain ⟨W1, hW1⟩ : ∃ W1, W1 = (w.alloc (.cells #[.float .f64 e.t, .int .i64 e.src, .int .i64 e.n, .int .i64 e.dst, .int .i64 e.pay] 67)).alloc (.cells #[.float .f64 e.t, .int .i64 e.src, .int .i64 e.n, .int .i64 e.dst, .int .i64 e.pay] 67) := ⟨_, rfl⟩
  have hb1 : Below w.heap.size w W1 := by rw [hW1]; exact ((Below.refl _ w).alloc (Nat.le_refl _) _).alloc (by simp) _
  have hB1 : Blk W1 w.heap.size 67 #[.float .f64 e.t, .int .i64 e.src, .int .i64 e.n, .int .i64 e.dst, .int .i64 e.pay] := by rw [hW1]; exact (Blk.new w _ _).alloc _
  have hB2 : Blk W1 (w.heap.size + 1) 67 #[.float .f64 e.t, .int .i64 e.src, .int .i64 e.n, .int .i64 e.dst, .int .i64 e.pay] := by
    rw [hW1]
    have := Blk.new (w.alloc (.cells #[.float .f64 e.t, .int .i64 e.src, .int .i64 e.n, .int .i64 e.dst, .int .i64 e.pay] 67)) 67 #[.float .f64 e.t, .int .i64 e.src, .int .i64 e.n, .int .i64 e.dst, .int .i64 e.pay]
    simpa using this
  have HS := hid (same02_any e.t e.src e.n W1)
  rw [hW1] at HS
  have HX := hid (⟨hb1, hB1, hB2⟩ : _ ∧ _ ∧ _)
  have HW1 := hid hW1
  clear hb1 hB1 hB2 hW1
  go_enter Tryz.func39, Tryz.ntmps39
  go_wp2_with fail
  (with_reducible refine HS.out.mono ?_)
  rintro r W2 ⟨rfl, hb2⟩
  rw [← HW1.out] at hb2
  have h1 := HX.out.2.1.below hb2 HX.out.2.1.lt
  have h2 := HX.out.2.2.below hb2 HX.out.2.2.lt
  have p3 : W2.cell? ⟨w.heap.size, 3, none⟩ = some (.int .i64 e.dst) := h1.cell 3
  have p4 : W2.cell? ⟨w.heap.size, 4, none⟩ = some (.int .i64 e.pay) := h1.cell 4
  have q3 : W2.cell? ⟨w.heap.size + 1, 3, none⟩ = some (.int .i64 e.dst) := h2.cell 3
  have q4 : W2.cell? ⟨w.heap.size + 1, 4, none⟩ = some (.int .i64 e.pay) := h2.cell 4
  have HF := hid (HX.out.1.trans (hb2.mono HX.out.1.size))
  clear hb2 h1 h2
  go_wp2
  go_ret
  exact ⟨rfl, HF.out⟩
structure Ms (w : World) (v : Value) (l : List Fl) : Prop where
  form : ∃ p c, v = .slice p l.length c ∧ (l = [] ∨ ∃ b off, p = some ⟨b, off, none⟩ ∧ b < w.heap.size ∧ ∀ i x, l[i]? = some x → ∀ q u, (msgC x)[q]? = some u → w.cell? ⟨b, off + i * 6 + q, none⟩ = some u)
theorem Ms.of_block {w w' : World} {v : Value} {l : List Fl} (h : Ms w v l) (e : ∀ b, b < w.heap.size → (∃ o n c, v = .slice (some ⟨b, o, none⟩) n c) → w'.heap[b]? = w.heap[b]?) (hs : w.heap.size ≤ w'.heap.size) : Ms w' v l := by
  obtain ⟨p, c, rfl, g⟩ := h.form
  refine ⟨p, c, rfl, ?_⟩
  rcases g with g | ⟨b, off, rfl, hb, hc⟩
  · exact .inl g
  · exact .inr ⟨b, off, rfl, Nat.lt_of_lt_of_le hb hs, fun i x hx q u hu => (World.cell?_of_block (e b hb ⟨_, _, _, rfl⟩)).trans (hc i x hx q u hu)⟩
theorem Ms.below {w w' : World} {v : Value} {l : List Fl} (h : Ms w v l) (hb : Below w.heap.size w w') : Ms w' v l := h.of_block (fun b hlt _ => hb.block b hlt) hb.size
theorem Ms.of_own {w : World} {B : Nat} {T : TypeId} {v : Value} {l : List Fl} {n : Nat} (h : w.ownsRow B T 6 v n (rowV msgC l)) (hn : n = l.length) : Ms w v l := by
  subst hn
  obtain ⟨p, c, rfl⟩ := own_slice2 h
  refine ⟨p, c, rfl, ?_⟩
  by_cases h0 : l = []
  · exact .inl h0
  · obtain ⟨g, c', e, hg1, hg2, hg3⟩ := own_form h (List.length_pos_iff.2 h0)
    injection e with e1 e2 e3
    subst e1
    refine .inr ⟨g, 0, rfl, hg2, fun i x hx q u hu => ?_⟩
    have hq : q < 6 := by
      have := (List.getElem?_eq_some_iff.1 hu).1
      rwa [msgC_len] at this
    rw [Nat.zero_add]
    exact own_at h rfl (j := i * 6 + q) ((rowV_get msgC_len l i x hx q hq).trans hu)
set_option maxHeartbeats 8000000 in
theorem same22_any {w : World} {v1 v2 : Value} {l : List Fl} (h1 : Ms w v1 l) (h2 : Ms w v2 l) (hl : l.length ≤ 1000) :
    Calls Tryz.prog 61 #[v1, v2] w fun r w' => r = .returned (.bool true) ∧ Below w.heap.size w w' := by
  obtain ⟨p1, c1, rfl, g1⟩ := h1.form
  obtain ⟨p2, c2, rfl, g2⟩ := h2.form
  obtain ⟨nl, hnl⟩ : ∃ nl, nl = l.length := ⟨_, rfl⟩
  have HNL := hid hnl
  rw [← hnl] at hl ⊢
  have hli : (nl : Int) ≤ 1000 := by omega
  have HG := hid (⟨g1, g2⟩ : _ ∧ _)
  clear h1 h2 g1 g2 hnl hl
  go_enter Tryz.func61, Tryz.ntmps61
  go_wp2
  go_loopg [5] nl (fun gg s5 wr => ∃ j : Nat, j ≤ nl ∧ nl - j ≤ gg ∧ s5 = .int .i64 j ∧ Hid (Below w.heap.size w wr))
  case atStart => exact ⟨0, by omega, by omega, rfl, hid (Below.refl _ _)⟩
  case round =>
    obtain ⟨j, hj, hgg, rfl, HI⟩ := hrel
    by_cases hje : j < nl
    · obtain ⟨x, hx⟩ : ∃ x, l[j]? = some x := ⟨_, List.getElem?_eq_getElem (by rw [← HNL.out]; exact hje)⟩
      have hne : l ≠ [] := by rintro rfl; simp at hx
      obtain ⟨b1, o1, e1, hb1, k1⟩ := HG.out.1.resolve_left hne
      obtain ⟨b2, o2, e2, hb2, k2⟩ := HG.out.2.resolve_left hne
      subst e1 e2
      have K1 : Hid (∀ W, BelC wr W → ∀ q u, (msgC x)[q]? = some u → W.cell? ⟨b1, o1 + j * 6 + q, none⟩ = some u) := hid fun W hW q u hu => by
        have e := (HI.out.trans (hW.out.mono HI.out.size)).block b1 hb1
        exact (World.cell?_of_block e).trans (k1 j x hx q u hu)
      have K2 : Hid (∀ W, BelC wr W → ∀ q u, (msgC x)[q]? = some u → W.cell? ⟨b2, o2 + j * 6 + q, none⟩ = some u) := hid fun W hW q u hu => by
        have e := (HI.out.trans (hW.out.mono HI.out.size)).block b2 hb2
        exact (World.cell?_of_block e).trans (k2 j x hx q u hu)
      have hji : (j : Int) < (nl : Int) := by omega
      have HSM := hid (BelC.call (W1 := wr) (fun W => same20_any x.e W))
      have HR := hid (BelC.refl wr)
      have HDR := hid (BelC.drew wr)
      clear hx hne k1 k2 hb1 hb2
      have HC1 : Hid (∀ W, BelC wr W → W.cell? ⟨b1, o1 + j * 6, none⟩ = some (.float .f64 x.e.t) ∧ W.cell? ⟨b1, o1 + j * 6 + 1, none⟩ = some (.int .i64 x.e.src) ∧ W.cell? ⟨b1, o1 + j * 6 + 2, none⟩ = some (.int .i64 x.e.n) ∧ W.cell? ⟨b1, o1 + j * 6 + 3, none⟩ = some (.int .i64 x.e.dst) ∧ W.cell? ⟨b1, o1 + j * 6 + 4, none⟩ = some (.int .i64 x.e.pay) ∧ W.cell? ⟨b1, o1 + j * 6 + 5, none⟩ = some (.bool x.a)) := hid fun W hW => ⟨K1.out W hW 0 _ rfl, K1.out W hW 1 _ rfl, K1.out W hW 2 _ rfl, K1.out W hW 3 _ rfl, K1.out W hW 4 _ rfl, K1.out W hW 5 _ rfl⟩
      have HC2 : Hid (∀ W, BelC wr W → W.cell? ⟨b2, o2 + j * 6, none⟩ = some (.float .f64 x.e.t) ∧ W.cell? ⟨b2, o2 + j * 6 + 1, none⟩ = some (.int .i64 x.e.src) ∧ W.cell? ⟨b2, o2 + j * 6 + 2, none⟩ = some (.int .i64 x.e.n) ∧ W.cell? ⟨b2, o2 + j * 6 + 3, none⟩ = some (.int .i64 x.e.dst) ∧ W.cell? ⟨b2, o2 + j * 6 + 4, none⟩ = some (.int .i64 x.e.pay) ∧ W.cell? ⟨b2, o2 + j * 6 + 5, none⟩ = some (.bool x.a)) := hid fun W hW => ⟨K2.out W hW 0 _ rfl, K2.out W hW 1 _ rfl, K2.out W hW 2 _ rfl, K2.out W hW 3 _ rfl, K2.out W hW 4 _ rfl, K2.out W hW 5 _ rfl⟩
      unfold evV at HSM
      clear K1 K2
      obtain ⟨wo, hwo⟩ : ∃ wo, wo = wr := ⟨_, rfl⟩
      subst hwo
      go_wp2
      refine qC_region (by kernel_rfl) (by kernel_rfl) (BelC wo) HDR.out ?_
      repeat (first | (refine qC_none rfl (fun K hK => ?_); apply Exists.intro; refine ⟨fun w0 hw0 => ?_, ?_⟩; (focus (obtain ⟨p0, p1, p2, p3, p4, p5⟩ := HC1.out w0 hw0; obtain ⟨q0, q1, q2, q3, q4, q5⟩ := HC2.out w0 hw0; go_simp; first | exact rfl | exact ⟨rfl, rfl⟩ | (exact HSM.out w0 hw0))); go_simp; refine hK _ ?_; clear hK K) | (refine qC_yes _ _ _ rfl rfl (by rfl) (fun K hK => ?_); apply Exists.intro; refine ⟨fun w0 hw0 => ?_, ?_⟩; (focus (obtain ⟨p0, p1, p2, p3, p4, p5⟩ := HC1.out w0 hw0; obtain ⟨q0, q1, q2, q3, q4, q5⟩ := HC2.out w0 hw0; go_simp; first | exact rfl | exact ⟨rfl, rfl⟩ | (exact HSM.out w0 hw0))); go_simp; refine hK _ ?_; clear hK K) | (refine qC_no _ _ _ rfl rfl (by rfl) (fun K hK => ?_); go_simp; refine hK _ ?_; clear hK K) | (refine qC_undef _ _ _ rfl rfl (by rfl) (fun K hK => ?_); go_simp; refine hK _ ?_; clear hK K))
      refine qC_nil ?_
      intro w5 hw5
      have HI5 := hid (HI.out.trans (hw5.out.mono HI.out.size))
      clear hw5
      go_wp2
      go_roundg (nl - (j + 1))
      case measure => omega
      case rel => exact ⟨j + 1, by omega, by omega, by go_num, HI5⟩
    · have hjl : j = nl := by omega
      have hji : ¬ ((j : Int) < (nl : Int)) := by omega
      clear hjl
      go_wp2
      go_ret
      exact ⟨rfl, HI.out⟩
end Go.Proofs.YtnnghcooidjlhaaGreat
end
section
set_option linter.unusedSimpArgs false
set_option linter.unusedVariables false
set_option maxRecDepth 100000
namespace Go.Proofs.YtnnghcooidjlhaaGreat
open Go.RowKit Go.Lib
theorem flist_nil (w : World) : Calls Tryz.prog 57 #[.pointer none] w fun r w' => r = .returned (.tuple #[.slice none 0 0, .int .i64 1]) ∧ w = w' := by
  go_enter Tryz.func57, Tryz.ntmps57
  go_wp2_with (go_at_call 116; refine (fpairs_nil _).mono ?_; rintro e w' ⟨rfl, rfl⟩)
  go_ret2
  exact ⟨rfl, rfl⟩
theorem flen_nil (w : World) : Calls Tryz.prog 58 #[.pointer none] w fun r w' => r = .returned (.tuple #[.int .i64 0, .int .i64 1]) ∧ w = w' := by
  go_enter Tryz.func58, Tryz.ntmps58
  go_wp2_with (go_at_call 116; refine (fpairs_nil _).mono ?_; rintro e w' ⟨rfl, rfl⟩)
  go_ret2
  exact ⟨rfl, rfl⟩
theorem fleast_nil (w : World) : Calls Tryz.prog 59 #[.pointer none] w fun r w' => r = .returned (.tuple #[.float .f64 0, .bool false, .int .i64 1]) ∧ w = w' := by
  go_enter Tryz.func59, Tryz.ntmps59
  go_wp2_with (go_at_call 57; refine (flist_nil _).mono ?_; rintro e w' ⟨rfl, rfl⟩)
  go_ret3
  exact ⟨rfl, rfl⟩
set_option maxHeartbeats 4000000 in
theorem ftake_nil (i : Int) (w : World) : Calls Tryz.prog 65 #[.pointer none, .int .i64 i] w fun r w' => r = .returned (.tuple #[msg0, .int .i64 1]) ∧ Below w.heap.size w w' := by
  unfold msg0
  obtain ⟨W1, hW1⟩ : ∃ W1, W1 = w.alloc (.cells #[.float .f64 0, .int .i64 0, .int .i64 0, .int .i64 0, .int .i64 0, .bool false] 99) := ⟨_, rfl⟩
  have hb1 : Below w.heap.size w W1 := by rw [hW1]; exact (Below.refl _ w).alloc (Nat.le_refl _) _
  have hB2 : Blk W1 w.heap.size 99 #[.float .f64 0, .int .i64 0, .int .i64 0, .int .i64 0, .int .i64 0, .bool false] := by rw [hW1]; exact Blk.new w _ _
  have HX := hid (⟨hb1, hB2⟩ : _ ∧ _)
  have HP := hid (fpairs_nil W1)
  rw [hW1] at HP
  have HW1 := hid hW1
  clear hb1 hB2 hW1
  go_enter Tryz.func65, Tryz.ntmps65
  go_wp2_with fail
  (with_reducible refine HP.out.mono ?_)
  rintro r W2 ⟨rfl, rfl⟩
  rw [← HW1.out]
  obtain ⟨hb1, hB2⟩ := HX.out
  have b0 : W1.cell? ⟨w.heap.size, 0, none⟩ = some (.float .f64 0) := hB2.cell 0
  have b1 : W1.cell? ⟨w.heap.size, 1, none⟩ = some (.int .i64 0) := hB2.cell 1
  have b2 : W1.cell? ⟨w.heap.size, 2, none⟩ = some (.int .i64 0) := hB2.cell 2
  have b3 : W1.cell? ⟨w.heap.size, 3, none⟩ = some (.int .i64 0) := hB2.cell 3
  have b4 : W1.cell? ⟨w.heap.size, 4, none⟩ = some (.int .i64 0) := hB2.cell 4
  have b5 : W1.cell? ⟨w.heap.size, 5, none⟩ = some (.bool false) := hB2.cell 5
  have bf0 := hB2.frozen 0
  have bf1 := hB2.frozen 1
  have bf2 := hB2.frozen 2
  have bf3 := hB2.frozen 3
  have bf4 := hB2.frozen 4
  have bf5 := hB2.frozen 5
  have bl := hB2.lt
  clear hb1 hB2
  go_wp2
  obtain ⟨hb1, hB2⟩ := HX.out
  have hr8 := ((((((hB2.set_ 0 (.float .f64 0)).set_ 1 (.int .i64 0)).set_ 2 (.int .i64 0)).set_ 3 (.int .i64 0)).set_ 4 (.int .i64 0)).set_ 5 (.bool false))
  have v0 := hr8.cell 0
  have v1 := hr8.cell 1
  have v2 := hr8.cell 2
  have v3 := hr8.cell 3
  have v4 := hr8.cell 4
  have v5 := hr8.cell 5
  simp only [List.setIfInBounds_toArray, List.set_cons_zero, List.set_cons_succ, List.getElem?_toArray, List.getElem?_cons_zero, List.getElem?_cons_succ] at v0 v1 v2 v3 v4 v5
  refine bodyPost_ret (v := .tuple #[.agg #[.float .f64 0, .int .i64 0, .int .i64 0, .int .i64 0, .int .i64 0, .bool false], .int .i64 1]) (by simp [results, Tryz.results65, go_sem, v0, v1, v2, v3, v4, v5]) rfl ?_
  exact ⟨rfl, (((((hb1.setCell (Nat.le_refl _) _).setCell (Nat.le_refl _) _).setCell (Nat.le_refl _) _).setCell (Nat.le_refl _) _).setCell (Nat.le_refl _) _).setCell (Nat.le_refl _) _⟩
set_option maxHeartbeats 4000000 in
theorem begun22_any (w : World) :
    Calls Tryz.prog 54 #[] w fun e w' => ∃ fb s O, e = .returned (.pointer (some ⟨fb, 0, none⟩)) ∧ FlI w' fb s O 0 0 [] ∧ Below w.heap.size w w' ∧ ∀ b ∈ fb :: s.sb :: s.tb :: O, w.heap.size ≤ b := by
  have HB := hid (begun_any w)
  go_enter Tryz.func54, Tryz.ntmps54
  go_wp2_with fail
  (with_reducible refine HB.out.mono ?_)
  rintro r W1 ⟨s, O, rfl, hS, hb, ho⟩
  have HO := hid (flight_of s.sb W1)
  have HX := hid (⟨hS, hb, ho⟩ : _ ∧ _ ∧ _)
  clear hS hb ho
  go_wp2_with fail
  (with_reducible refine HO.out.mono ?_)
  rintro r W2 ⟨rfl, hw2⟩
  obtain ⟨hS, hb, ho⟩ := HX.out
  have hF := FlI.new hS
  have hb2 : Below W1.heap.size W1 W2 := by rw [← hw2]; exact (Below.refl _ W1).alloc (Nat.le_refl _) _
  rw [hw2] at hF
  have HF : Hid (FlI W2 W1.heap.size s O 0 0 [] ∧ Below w.heap.size w W2 ∧ ∀ b ∈ W1.heap.size :: s.sb :: s.tb :: O, w.heap.size ≤ b) := hid ⟨hF, hb.trans (hb2.mono hb.size), fun b hm => by
    rcases List.mem_cons.1 hm with rfl | hm
    · exact hb.size
    · exact ho b hm⟩
  clear hS hb ho hF hb2 hw2
  go_wp2
  go_ret
  exact ⟨_, s, O, rfl, HF.out⟩
set_option maxHeartbeats 4000000 in
theorem msg22_any (e : Ev) (a : Bool) (w : World) :
    Calls Tryz.prog 63 #[msgV e a] w fun r w' => r = .returned (msgV e a) ∧ Below w.heap.size w w' := by
  unfold msgV
  go_enter Tryz.func63, Tryz.ntmps63
  go_wp2
  have hb := ((Below.refl _ w).alloc (Nat.le_refl _) (.cells #[.float .f64 e.t, .int .i64 e.src, .int .i64 e.n, .int .i64 e.dst, .int .i64 e.pay, .bool a] 116)).alloc (by simp) (.cells #[.float .f64 e.t, .int .i64 e.src, .int .i64 e.n, .int .i64 e.dst, .int .i64 e.pay, .bool a] 99)
  refine bodyPost_ret (v := .agg #[.float .f64 e.t, .int .i64 e.src, .int .i64 e.n, .int .i64 e.dst, .int .i64 e.pay, .bool a]) (by simp [results, Tryz.results63, go_sem]) rfl ?_
  exact ⟨rfl, hb⟩
end Go.Proofs.YtnnghcooidjlhaaGreat
end
