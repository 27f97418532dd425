/- Parts of the proof: Yf Yg Yh Yi Yj Yk Yl Ym. -/
import Derived.Test.YtnnghcooidjlhaaGreatA28
set_option linter.all false
section
set_option linter.unusedSimpArgs false
set_option linter.unusedVariables false
set_option maxRecDepth 100000
namespace Go.Proofs.YtnnghcooidjlhaaGreat
open Go.RowKit Go.Lib
section
variable {w : World} {xb : Nat} {s : SL} {lp : Int} {O : List Nat} {N : Nat} {M : List KV}
theorem sfrom_nil (k : ByteArray) (w : World) : Calls Tryz.prog 28 #[.pointer none, .string k] w fun e w' => e = .returned (.tuple #[.int .i64 0, .int .i64 1]) ∧ w = w' := by
  have HM := hid (fun W => snmay_nil k W)
  go_enter Tryz.func28, Tryz.ntmps28
  go_wp2_with (go_at_call 78; refine (HM.out _).mono ?_; rintro r w1 ⟨rfl, rfl⟩)
  go_ret2
  exact ⟨rfl, rfl⟩
theorem sfrom_long (q : Addr) (k : Bs) (h : 29 < k.length) (w : World) : Calls Tryz.prog 28 #[.pointer (some q), .string (S k)] w fun e w' => e = .returned (.tuple #[.int .i64 0, .int .i64 2]) ∧ w = w' := by
  have HM := hid (fun W => snmay_long q k h W)
  clear h
  go_enter Tryz.func28, Tryz.ntmps28
  go_wp2_with (go_at_call 78; refine (HM.out _).mono ?_; rintro r w1 ⟨rfl, rfl⟩)
  go_ret2
  exact ⟨rfl, rfl⟩
set_option maxHeartbeats 4000000 in
theorem sfrom_any (hX : SnX w xb s lp) (hS : StI w s O N M) (hxO : xb ∉ O) (hlp : 0 ≤ lp ∧ lp < 6) {k : Bs} (hk : k.length ≤ 29) :
    Calls Tryz.prog 28 #[.pointer (some ⟨xb, 0, none⟩), .string (S k)] w fun e w' => e = .returned (.tuple #[.int .i64 ((partM M (hdP 3 lp)).filter fun a => inR k [] a.1).length, .int .i64 0]) ∧ StI w' s O N (M.filter fun a => !inR (hdP 3 lp ++ k) (toK (hdP 3 lp) []) a.1) ∧ Kp O w w' := by
  have HM := hid (fun W => snmay_ok ⟨xb, 0, none⟩ k hk W)
  have HS := hid (sclear_any (sp := 3) (lp := lp) (fr := k) (to := []) (hS.below (below_drewN (Below.refl w.heap.size w) 1)) (by unfold okP; omega) (by omega) (by simp))
  rw [show S [] = { data := #[] } from rfl] at HS
  have c0 : w.cell? ⟨xb, 0, none⟩ = some (.pointer (some ⟨s.sb, 0, none⟩)) := Blk.cell hX 0
  have c1 : w.cell? ⟨xb, 1, none⟩ = some (.int .i64 lp) := Blk.cell hX 1
  have HCK : Hid (∀ W', Kp O w.drew W' → W'.cell? ⟨xb, 0, none⟩ = some (.pointer (some ⟨s.sb, 0, none⟩)) ∧ W'.cell? ⟨xb, 1, none⟩ = some (.int .i64 lp)) := hid fun W' hk => by
    have := (Blk.drew hX).kp hk hxO
    exact ⟨this.cell 0, this.cell 1⟩
  obtain ⟨nl, hnl⟩ : ∃ nl, nl = ((partM M (hdP 3 lp)).filter fun a => inR k [] a.1).length := ⟨_, rfl⟩
  rw [← hnl] at HS ⊢
  clear hX hS hxO hlp hk hnl
  go_enter Tryz.func28, Tryz.ntmps28
  go_wp2_with (go_at_call 78; refine (HM.out _).mono ?_; rintro r w1 ⟨rfl, rfl⟩)
  go_region_held3 (fun W => W.cell? ⟨xb, 0, none⟩ = some (.pointer (some ⟨s.sb, 0, none⟩)) ∧ W.cell? ⟨xb, 1, none⟩ = some (.int .i64 lp)) (first | exact hck5 | exact ⟨c0, c1⟩)
    (first
      | (go_at_call 93; refine HS.out.mono ?_; rintro r W5 ⟨rfl, hS5, hk5⟩; have hck5 := HCK.out W5 hk5))
  all_goals
    have HF := hid (⟨hS5, (Kp.refl O w).drew.trans hk5⟩ : _ ∧ _)
    clear hS5 hk5 hck5
    go_wp2
    go_ret2
    exact ⟨rfl, HF.out⟩
theorem sbelow_nil (k : ByteArray) (w : World) : Calls Tryz.prog 30 #[.pointer none, .string k] w fun e w' => e = .returned (.tuple #[.int .i64 0, .int .i64 1]) ∧ w = w' := by
  have HM := hid (fun W => snmay_nil k W)
  go_enter Tryz.func30, Tryz.ntmps30
  go_wp2_with (go_at_call 78; refine (HM.out _).mono ?_; rintro r w1 ⟨rfl, rfl⟩)
  go_ret2
  exact ⟨rfl, rfl⟩
theorem sbelow_long (q : Addr) (k : Bs) (h : 29 < k.length) (w : World) : Calls Tryz.prog 30 #[.pointer (some q), .string (S k)] w fun e w' => e = .returned (.tuple #[.int .i64 0, .int .i64 2]) ∧ w = w' := by
  have HM := hid (fun W => snmay_long q k h W)
  clear h
  go_enter Tryz.func30, Tryz.ntmps30
  go_wp2_with (go_at_call 78; refine (HM.out _).mono ?_; rintro r w1 ⟨rfl, rfl⟩)
  go_ret2
  exact ⟨rfl, rfl⟩
theorem sbelow_empty (q : Addr) (w : World) : Calls Tryz.prog 30 #[.pointer (some q), .string (S [])] w fun e w' => e = .returned (.tuple #[.int .i64 0, .int .i64 0]) ∧ w = w' := by
  have HM := hid (fun W => snmay_ok q [] (by simp) W)
  rw [show S [] = { data := #[] } from rfl] at HM ⊢
  go_enter Tryz.func30, Tryz.ntmps30
  go_wp2_with (go_at_call 78; refine (HM.out _).mono ?_; rintro r w1 ⟨rfl, rfl⟩)
  go_ret2
  exact ⟨rfl, rfl⟩
set_option maxHeartbeats 4000000 in
theorem sbelow_any (hX : SnX w xb s lp) (hS : StI w s O N M) (hxO : xb ∉ O) (hlp : 0 ≤ lp ∧ lp < 6) {k : Bs} (hk : k.length ≤ 29) (hk0 : k ≠ []) :
    Calls Tryz.prog 30 #[.pointer (some ⟨xb, 0, none⟩), .string (S k)] w fun e w' => e = .returned (.tuple #[.int .i64 ((partM M (hdP 3 lp)).filter fun a => inR [] k a.1).length, .int .i64 0]) ∧ StI w' s O N (M.filter fun a => !inR (hdP 3 lp ++ []) (toK (hdP 3 lp) k) a.1) ∧ Kp O w w' := by
  have HM := hid (fun W => snmay_ok ⟨xb, 0, none⟩ k hk W)
  have HS := hid (sclear_any (sp := 3) (lp := lp) (fr := []) (to := k) (hS.below (below_drewN (Below.refl w.heap.size w) 1)) (by unfold okP; omega) (by simp) (by omega))
  rw [show S [] = { data := #[] } from rfl] at HS
  have c0 : w.cell? ⟨xb, 0, none⟩ = some (.pointer (some ⟨s.sb, 0, none⟩)) := Blk.cell hX 0
  have c1 : w.cell? ⟨xb, 1, none⟩ = some (.int .i64 lp) := Blk.cell hX 1
  have HCK : Hid (∀ W', Kp O w.drew W' → W'.cell? ⟨xb, 0, none⟩ = some (.pointer (some ⟨s.sb, 0, none⟩)) ∧ W'.cell? ⟨xb, 1, none⟩ = some (.int .i64 lp)) := hid fun W' hk => by
    have := (Blk.drew hX).kp hk hxO
    exact ⟨this.cell 0, this.cell 1⟩
  obtain ⟨nl, hnl⟩ : ∃ nl, nl = ((partM M (hdP 3 lp)).filter fun a => inR [] k a.1).length := ⟨_, rfl⟩
  rw [← hnl] at HS ⊢
  have hkE : k.isEmpty = false := by
    cases k with
    | nil => exact absurd rfl hk0
    | cons a t => rfl
  clear hX hS hxO hlp hk hnl hk0
  go_enter Tryz.func30, Tryz.ntmps30
  go_wp2_with (go_at_call 78; refine (HM.out _).mono ?_; rintro r w1 ⟨rfl, rfl⟩)
  go_region_held3 (fun W => W.cell? ⟨xb, 0, none⟩ = some (.pointer (some ⟨s.sb, 0, none⟩)) ∧ W.cell? ⟨xb, 1, none⟩ = some (.int .i64 lp)) (first | exact hck5 | exact ⟨c0, c1⟩)
    (first
      | (go_at_call 93; refine HS.out.mono ?_; rintro r W5 ⟨rfl, hS5, hk5⟩; have hck5 := HCK.out W5 hk5))
  all_goals
    have HF := hid (⟨hS5, (Kp.refl O w).drew.trans hk5⟩ : _ ∧ _)
    clear hS5 hk5 hck5
    go_wp2
    go_ret2
    exact ⟨rfl, HF.out⟩
end
end Go.Proofs.YtnnghcooidjlhaaGreat
end
section
set_option linter.unusedSimpArgs false
set_option linter.unusedVariables false
set_option maxRecDepth 100000
namespace Go.Proofs.YtnnghcooidjlhaaGreat
open Go.RowKit Go.Lib
def kC (k : Bs) : List Value := [.string (S k)]
theorem kC_len (k : Bs) : (kC k).length = 1 := rfl
theorem kC_one (k : Bs) : ∀ u ∈ kC k, u.oneCell' = true := by
  intro u hu
  simp [kC] at hu
  rw [hu]; rfl
theorem skeys_nil (w : World) : Calls Tryz.prog 24 #[.pointer none] w fun e w' => e = .returned (.tuple #[.slice none 0 0, .int .i64 1]) ∧ w = w' := by
  go_enter Tryz.func24, Tryz.ntmps24
  go_wp2
  go_ret2
  exact ⟨rfl, rfl⟩
section
variable {w : World} {xb : Nat} {s : SL} {lp : Int} {O : List Nat} {N : Nat} {M : List KV} {l : List Sn}
set_option maxHeartbeats 8000000 in
theorem skeys_any (hX : SnX w xb s lp) (hS : StI w s O N M) (hxO : xb ∉ O) (hlp : 0 ≤ lp ∧ lp < 6) (hm : SnM M lp l) (hl : l.length ≤ 1000) :
    Calls Tryz.prog 24 #[.pointer (some ⟨xb, 0, none⟩)] w fun e w' => ∃ v, e = .returned (.tuple #[v, .int .i64 0]) ∧ StI w' s O N M ∧ Kp O w w' ∧ w'.ownsRow w.heap.size 9 1 v l.length (rowV kC (l.map Sn.k)) := by
  have HS := hid (sscan_any (sp := 3) (lp := lp) (fr := []) (to := []) (hS.below (below_drewN (Below.refl w.heap.size w) 1)) (by unfold okP; omega) (by simp) (by simp) 1099511627776)
  rw [hm.scan hl, show S [] = { data := #[] } from rfl, show (snP l).length = l.length by simp [snP]] at HS
  have c0 : w.cell? ⟨xb, 0, none⟩ = some (.pointer (some ⟨s.sb, 0, none⟩)) := Blk.cell hX 0
  have c1 : w.cell? ⟨xb, 1, none⟩ = some (.int .i64 lp) := Blk.cell hX 1
  have HCK : Hid (∀ W', Kp O w.drew W' → W'.cell? ⟨xb, 0, none⟩ = some (.pointer (some ⟨s.sb, 0, none⟩)) ∧ W'.cell? ⟨xb, 1, none⟩ = some (.int .i64 lp)) := hid fun W' hk => by
    have := (Blk.drew hX).kp hk hxO
    exact ⟨this.cell 0, this.cell 1⟩
  have hlts := hid hS.lts
  obtain ⟨nl, hnl⟩ : ∃ nl, nl = l.length := ⟨_, rfl⟩
  have HNL := hid hnl
  rw [← hnl] at HS hl ⊢
  have hli : (nl : Int) ≤ 1000 := by omega
  have HL := hid hl
  clear hX hS hxO hlp hm hl hnl
  go_enter Tryz.func24, Tryz.ntmps24
  go_wp2
  go_region_held3 (fun W => W.cell? ⟨xb, 0, none⟩ = some (.pointer (some ⟨s.sb, 0, none⟩)) ∧ W.cell? ⟨xb, 1, none⟩ = some (.int .i64 lp)) (first | exact hck5 | exact ⟨c0, c1⟩)
    (first
      | (go_at_call 84; refine HS.out.mono ?_; rintro r W1 ⟨v1, rfl, hS1, hk1, hO1⟩; have hck5 := HCK.out W1 hk1; obtain ⟨pa, pc, rfl⟩ := own_slice2 hO1))
  all_goals
    have hk01 : Kp O w W1 := (Kp.refl O w).drew.trans hk1
    have HI0 : Hid (StI W1 s O N M ∧ Kp O w W1 ∧ W1.ownsRow w.heap.size 168 2 (.slice pa nl pc) nl (rowV pairC (snP l)) ∧ W1.ownsRow W1.heap.size 9 1 (.slice none 0 0) 0 (rowV kC ((l.map Sn.k).take 0)) ∧ W1.heap.size ≤ W1.heap.size) := hid ⟨hS1, hk01, hO1, ⟨rfl, .inl ⟨rfl, rfl⟩⟩, Nat.le_refl _⟩
    have HB := hid (⟨fun b hb => hO1.lt b hb, hk01.size⟩ : (∀ b, (Value.slice pa nl pc).ownBlock = some b → w.heap.size ≤ b ∧ b < W1.heap.size) ∧ w.heap.size ≤ W1.heap.size)
    clear hS1 hk1 hO1 hck5 hk01
    go_wp2
    go_loopg [6, 28] nl (fun gg s6 s28 wr => ∃ (j : Nat) (v : Value), j ≤ nl ∧ nl - j ≤ gg ∧ s28 = .int .i64 j ∧ s6 = v ∧ Hid (StI wr s O N M ∧ Kp O w wr ∧ wr.ownsRow w.heap.size 168 2 (.slice pa nl pc) nl (rowV pairC (snP l)) ∧ wr.ownsRow W1.heap.size 9 1 v j (rowV kC ((l.map Sn.k).take j)) ∧ W1.heap.size ≤ wr.heap.size))
    case atStart => exact ⟨0, _, by omega, by omega, rfl, rfl, HI0⟩
    case round =>
      obtain ⟨j, v, hj, hgg, rfl, rfl, HI⟩ := hrel
      by_cases hje : j < nl
      · obtain ⟨x, hx⟩ : ∃ x, l[j]? = some x := ⟨_, List.getElem?_eq_getElem (by rw [← HNL.out]; exact hje)⟩
        obtain ⟨hS, hk, hOp, hOo, hsz⟩ := HI.out
        obtain ⟨g, c, e1, hg1, hg2, hg3⟩ := own_form hOp (by omega)
        injection e1 with e1 elen e3
        clear elen
        subst e1 e3
        have hxp : (snP l)[j]? = some (x.k, staB x.st) := by simp [snP, hx]
        have m0 : wr.cell? ⟨g, j * 2, none⟩ = some (.string (S x.k)) := own_at hOp rfl (j := j * 2) (by
          have := rowV_get pairC_len _ j _ hxp 0 (by omega)
          rw [Nat.add_zero] at this
          rw [this]; rfl)
        have m1 : wr.cell? ⟨g, j * 2 + 1, none⟩ = some (.string (S (staB x.st))) := own_at hOp rfl (j := j * 2 + 1) (by
          rw [rowV_get pairC_len _ j _ hxp 1 (by omega)]; rfl)
        have hji : (j : Int) < (nl : Int) := by omega
        obtain ⟨wo, hwo⟩ : ∃ wo, wo = wr := ⟨_, rfl⟩
        subst hwo
        obtain ⟨av, cv, rfl⟩ := own_slice2 hOo
        have htk : (l.map Sn.k).take (j + 1) = (l.map Sn.k).take j ++ [x.k] := by rw [List.take_add_one, List.getElem?_map, hx]; rfl
        have HTK := hid htk
        obtain ⟨W4, hW4⟩ : ∃ W4, W4 = wo.alloc (.cells #[.string (S x.k), .string (S (staB x.st))] 168) := ⟨_, rfl⟩
        have hb04 : Below wo.heap.size wo W4 := by rw [hW4]; exact (Below.refl _ wo).alloc (Nat.le_refl _) _
        have hs4 : W4.heap.size = wo.heap.size + 1 := by rw [hW4]; simp
        have HW4 := hid (⟨hW4, hb04, hs4⟩ : _ ∧ _ ∧ _)
        clear hx hS hk hOp hOo hsz hxp htk hW4 hb04 hs4
        go_wp2_with (with_reducible refine stopAt .append rfl ?_)
        with_reducible refine goOn ?_
        rw [← HW4.out.1, ← HW4.out.2.2]
        obtain ⟨hS, hk, hOp, hOo, hsz⟩ := HI.out
        have hb04 := HW4.out.2.1
        have hO4 := row_of hOo (fun b hb => hb04.block b (hOo.lt b hb).2)
        have hOp4 := row_of hOp (fun b hb => hb04.block b (hOp.lt b hb).2)
        have hS4 := hS.below hb04
        refine app_one rfl _ _ 36 rfl kC infStr Tryz.underlying36 rfl (by decide) (by decide) kC_len kC_one x.k hO4 (by have := HL.out; omega) (Nat.le_trans hsz hb04.size) rfl rfl ?_
        intro v' W6 hO6 hk6 _
        rw [← HTK.out] at hO6
        have hno6 : ∀ b, b < W1.heap.size → b ∉ (Value.slice av j cv).ownBlock.toList := fun b hb hm => by
          have := (hO4.lt b (Option.mem_toList.1 hm)).1
          omega
        have hlt0 : ∀ b ∈ s.sb :: s.tb :: O, b < W1.heap.size := fun b hb => Nat.lt_of_lt_of_le (hlts.out b hb) HB.out.2
        have hS6 : StI W6 s O N M := hS4.of_blocks (fun b hb => hk6.block b (hS4.lts b hb) (hno6 b (hlt0 b hb)))
        have hOp6 := row_of hOp4 (fun b hb => hk6.block b (hOp4.lt b hb).2 (hno6 b (HB.out.1 b hb).2))
        have hk06 : Kp O w W6 := (hk.trans (Kp.of_below hb04)).trans_gr (O' := (Value.slice av j cv).ownBlock.toList ++ O) (fun b hb => by
          rcases List.mem_append.1 hb with hb | hb
          · have := (hO4.lt b (Option.mem_toList.1 hb)).1
            have := HB.out.2
            exact .inr (by omega)
          · exact .inl hb) (hk6.mono (fun b hb => .inl (by simp [hb])))
        have HI6 := hid (⟨hS6, hk06, hOp6, hO6, Nat.le_trans (Nat.le_trans hsz hb04.size) hk6.size⟩ : _ ∧ _ ∧ _ ∧ _ ∧ _)
        clear hS hk hOp hOo hsz hO4 hOp4 hS4 hO6 hk6 hno6 hlt0 hS6 hOp6 hk06 hb04
        go_wp2
        go_roundg (nl - (j + 1))
        case measure => omega
        case rel => exact ⟨j + 1, v', by omega, by omega, by go_num, rfl, HI6⟩
      · have hjl : j = nl := by omega
        have HJ := hid hjl
        have hji : ¬ ((j : Int) < (nl : Int)) := by omega
        clear hjl
        go_wp2
        go_ret2
        obtain ⟨hS, hk, hOp, hOo, hsz⟩ := HI.out
        rw [HJ.out, HNL.out, ← List.length_map (f := Sn.k), List.take_length, List.length_map, ← HNL.out] at hOo
        exact ⟨_, rfl, hS, hk, own_base hOo HB.out.2⟩
end
end Go.Proofs.YtnnghcooidjlhaaGreat
end
section
set_option linter.unusedSimpArgs false
set_option linter.unusedVariables false
set_option maxRecDepth 100000
namespace Go.Proofs.YtnnghcooidjlhaaGreat
open Go.RowKit Go.Lib
def sta0 : Value := .agg #[.slice none 0 0, .int .i64 0, .int .i64 0]
set_option maxHeartbeats 4000000 in
theorem ahead1_any {w : World} {g : Nat} {st : Sta} {kb : ByteArray} (hP : Blk w g 168 #[.string kb, .string (S (staB st))]) (hr : st.right) (ho : st.ok) :
    Calls Tryz.prog 82 #[.pointer (some ⟨g, 0, none⟩)] w fun r w' => ∃ p n c, r = .returned (.tuple #[staV p n c st, .int .i64 0]) ∧ n = st.words.length ∧ Vw 1 wC w' (.slice p n c) st.words ∧ (∀ b, (Value.slice p n c).ownBlock = some b → w.heap.size ≤ b) ∧ Below w.heap.size w w' := by
  obtain ⟨W1, hW1⟩ : ∃ W1, W1 = w.alloc (.cells #[.slice none 0 0, .int .i64 0, .int .i64 0] 29) := ⟨_, rfl⟩
  have hb1 : Below w.heap.size w W1 := by rw [hW1]; exact (Below.refl _ w).alloc (Nat.le_refl _) _
  have hB1 : Blk W1 w.heap.size 29 #[.slice none 0 0, .int .i64 0, .int .i64 0] := by rw [hW1]; exact Blk.new w _ _
  have hs1 : W1.heap.size = w.heap.size + 1 := by rw [hW1]; simp
  have c1 : w.cell? ⟨g, 1, none⟩ = some (.string (S (staB st))) := hP.cell 1
  have hlt := hP.lt
  have HG := hid (getsta_any st hr ho W1)
  rw [hW1] at HG
  have HX := hid (⟨hb1, hB1, hs1⟩ : _ ∧ _ ∧ _)
  have HW1 := hid hW1
  unfold staV at HG ⊢
  clear hP hr ho hb1 hB1 hs1 hW1
  go_enter Tryz.func82, Tryz.ntmps82
  go_wp2_with fail
  (with_reducible refine HG.out.mono ?_)
  rintro r W2 ⟨p, n, c, rfl, hn, hV, hvo, hb2⟩
  rw [← HW1.out] at hb2 hvo
  have hB2 := HX.out.2.1.below hb2 HX.out.2.1.lt
  have b0 : W2.cell? ⟨w.heap.size, 0, none⟩ = some (.slice none 0 0) := hB2.cell 0
  have b1 : W2.cell? ⟨w.heap.size, 1, none⟩ = some (.int .i64 0) := hB2.cell 1
  have b2 : W2.cell? ⟨w.heap.size, 2, none⟩ = some (.int .i64 0) := hB2.cell 2
  have bf0 := hB2.frozen 0
  have bf1 := hB2.frozen 1
  have bf2 := hB2.frozen 2
  have bl := hB2.lt
  have H2 := hid (⟨hn, hV, hvo, HX.out.1.trans (hb2.mono HX.out.1.size), hB2⟩ : _ ∧ _ ∧ _ ∧ _ ∧ _)
  clear hn hV hvo hb2 hB2
  go_wp2
  have hr8 := (((H2.out.2.2.2.2.set_ 0 (.slice p n c)).set_ 1 (.int .i64 st.sent)).set_ 2 (.int .i64 st.dice))
  have v0 := hr8.cell 0
  have v1 := hr8.cell 1
  have v2 := hr8.cell 2
  simp only [List.setIfInBounds_toArray, List.set_cons_zero, List.set_cons_succ, List.getElem?_toArray, List.getElem?_cons_zero, List.getElem?_cons_succ] at v0 v1 v2
  refine bodyPost_ret (v := .tuple #[.agg #[.slice p n c, .int .i64 st.sent, .int .i64 st.dice], .int .i64 0]) (by simp [results, Tryz.results82, go_sem, v0, v1, v2]) rfl ?_
  have hvo' : ∀ b, (Value.slice p n c).ownBlock = some b → w.heap.size + 1 ≤ b := fun b hb => by have := H2.out.2.2.1 b hb; have := HX.out.2.2; omega
  refine ⟨p, n, c, rfl, H2.out.1, H2.out.2.1.of_block (fun b hlt hb => ?_) (by simp [World.setCell]), fun b hb => by have := hvo' b hb; omega, ((H2.out.2.2.2.1.setCell (Nat.le_refl _) _).setCell (Nat.le_refl _) _).setCell (Nat.le_refl _) _⟩
  have := hvo' b hb
  exact ((Below.heap_setCell _ ⟨w.heap.size, 2, none⟩ _ _ (by show b ≠ w.heap.size; omega)).trans (Below.heap_setCell _ ⟨w.heap.size, 1, none⟩ _ _ (by show b ≠ w.heap.size; omega))).trans (Below.heap_setCell _ ⟨w.heap.size, 0, none⟩ _ _ (by show b ≠ w.heap.size; omega))
set_option maxHeartbeats 4000000 in
theorem sahead_no (q : Option Addr) (k : Bs) (er : Int) (h : (q = none ∧ er = 1) ∨ (q ≠ none ∧ 29 < k.length ∧ er = 2) ∨ (q ≠ none ∧ k = [] ∧ er = 9)) (w : World) :
    Calls Tryz.prog 23 #[.pointer q, .string (S k)] w fun r w' => r = .returned (.tuple #[.string ⟨#[]⟩, sta0, .int .i64 er]) ∧ Below w.heap.size w w' := by
  unfold sta0
  obtain ⟨W1, hW1⟩ : ∃ W1, W1 = w.alloc (.cells #[.slice none 0 0, .int .i64 0, .int .i64 0] 29) := ⟨_, rfl⟩
  have hb1 : Below w.heap.size w W1 := by rw [hW1]; exact (Below.refl _ w).alloc (Nat.le_refl _) _
  have hB1 : Blk W1 w.heap.size 29 #[.slice none 0 0, .int .i64 0, .int .i64 0] := by rw [hW1]; exact Blk.new w _ _
  have HX := hid (⟨hb1, hB1⟩ : _ ∧ _)
  have HW1 := hid hW1
  clear hb1 hB1 hW1
  rcases h with ⟨rfl, rfl⟩ | ⟨hq, h2, rfl⟩ | ⟨hq, rfl, rfl⟩
  · have HM := hid (fun W => snmay_nil (S k) W)
    go_enter Tryz.func23, Tryz.ntmps23
    go_wp2_with (go_at_call 78; refine (HM.out _).mono ?_; rintro r w1 ⟨rfl, rfl⟩)
    have hr8 := HX.out.2
    rw [HW1.out] at hr8
    have v0 := hr8.cell 0
    have v1 := hr8.cell 1
    have v2 := hr8.cell 2
    simp only [List.setIfInBounds_toArray, List.set_cons_zero, List.set_cons_succ, List.getElem?_toArray, List.getElem?_cons_zero, List.getElem?_cons_succ] at v0 v1 v2
    refine bodyPost_ret (v := .tuple #[.string ⟨#[]⟩, .agg #[.slice none 0 0, .int .i64 0, .int .i64 0], .int .i64 1]) (by simp [results, Tryz.results23, go_sem, v0, v1, v2]) rfl ⟨rfl, by rw [← HW1.out]; exact HX.out.1⟩
  · obtain ⟨qa, rfl⟩ := Option.ne_none_iff_exists'.1 hq
    have HM := hid (fun W => snmay_long qa k h2 W)
    clear hq h2
    go_enter Tryz.func23, Tryz.ntmps23
    go_wp2_with (go_at_call 78; refine (HM.out _).mono ?_; rintro r w1 ⟨rfl, rfl⟩)
    have hr8 := HX.out.2
    rw [HW1.out] at hr8
    have v0 := hr8.cell 0
    have v1 := hr8.cell 1
    have v2 := hr8.cell 2
    simp only [List.setIfInBounds_toArray, List.set_cons_zero, List.set_cons_succ, List.getElem?_toArray, List.getElem?_cons_zero, List.getElem?_cons_succ] at v0 v1 v2
    refine bodyPost_ret (v := .tuple #[.string ⟨#[]⟩, .agg #[.slice none 0 0, .int .i64 0, .int .i64 0], .int .i64 2]) (by simp [results, Tryz.results23, go_sem, v0, v1, v2]) rfl ⟨rfl, by rw [← HW1.out]; exact HX.out.1⟩
  · obtain ⟨qa, rfl⟩ := Option.ne_none_iff_exists'.1 hq
    have HM := hid (fun W => snmay_ok qa [] (by simp) W)
    rw [show S [] = { data := #[] } from rfl] at HM ⊢
    clear hq
    go_enter Tryz.func23, Tryz.ntmps23
    go_wp2_with (go_at_call 78; refine (HM.out _).mono ?_; rintro r w1 ⟨rfl, rfl⟩)
    have hr8 := HX.out.2
    rw [HW1.out] at hr8
    have v0 := hr8.cell 0
    have v1 := hr8.cell 1
    have v2 := hr8.cell 2
    simp only [List.setIfInBounds_toArray, List.set_cons_zero, List.set_cons_succ, List.getElem?_toArray, List.getElem?_cons_zero, List.getElem?_cons_succ] at v0 v1 v2
    refine bodyPost_ret (v := .tuple #[.string ⟨#[]⟩, .agg #[.slice none 0 0, .int .i64 0, .int .i64 0], .int .i64 9]) (by simp [results, Tryz.results23, go_sem, v0, v1, v2]) rfl ⟨rfl, by rw [← HW1.out]; exact HX.out.1⟩
end Go.Proofs.YtnnghcooidjlhaaGreat
end
section
set_option linter.unusedSimpArgs false
set_option linter.unusedVariables false
set_option maxRecDepth 100000
namespace Go.Proofs.YtnnghcooidjlhaaGreat
open Go.RowKit Go.Lib
section
variable {w : World} {xb : Nat} {s : SL} {lp : Int} {O : List Nat} {N : Nat} {M : List KV} {l : List Sn}
set_option maxHeartbeats 8000000 in
theorem sahead_none (hX : SnX w xb s lp) (hS : StI w s O N M) (hxO : xb ∉ O) (hlp : 0 ≤ lp ∧ lp < 6) (hm : SnM M lp l) {k : Bs} (hk : k.length ≤ 29) (hk0 : k ≠ []) (hl : belowS l k = []) :
    Calls Tryz.prog 23 #[.pointer (some ⟨xb, 0, none⟩), .string (S k)] w fun r w' => r = .returned (.tuple #[.string ⟨#[]⟩, sta0, .int .i64 9]) ∧ StI w' s O N M ∧ Kp O w w' := by
  unfold sta0
  have HM := hid (fun W => snmay_ok ⟨xb, 0, none⟩ k hk W)
  obtain ⟨W1, hW1⟩ : ∃ W1, W1 = w.alloc (.cells #[.slice none 0 0, .int .i64 0, .int .i64 0] 29) := ⟨_, rfl⟩
  have hb1 : Below w.heap.size w W1 := by rw [hW1]; exact (Below.refl _ w).alloc (Nat.le_refl _) _
  have hB1 : Blk W1 w.heap.size 29 #[.slice none 0 0, .int .i64 0, .int .i64 0] := by rw [hW1]; exact Blk.new w _ _
  have hs1 : W1.heap.size = w.heap.size + 1 := by rw [hW1]; simp
  have hS1 := hS.below hb1
  have hX1 : SnX W1 xb s lp := Blk.below hX hb1 (Blk.lt hX)
  have HS : Hid (∀ W, Below W1.heap.size W1 W → Calls Tryz.prog 81 #[.pointer (some ⟨s.sb, 0, none⟩), .int .i64 3, .int .i64 lp, .string ⟨#[]⟩, .string (S k)] W fun e w' => e = .returned (.tuple #[.agg #[.string ⟨#[]⟩, .string ⟨#[]⟩], .int .i64 9]) ∧ StI w' s O N M ∧ Kp O W w') := hid fun W hW => by
    have := slast_any (sp := 3) (lp := lp) (fr := []) (to := k) (hS1.below hW) (by unfold okP; omega) (by simp) (by omega)
    rwa [hm.last hk0, hl, show S [] = { data := #[] } from rfl] at this
  have hkE : k.isEmpty = false := by
    cases k with
    | nil => exact absurd rfl hk0
    | cons a t => rfl
  have HCK : Hid (∀ W, Kp O W1 W → W.cell? ⟨xb, 0, none⟩ = some (.pointer (some ⟨s.sb, 0, none⟩)) ∧ W.cell? ⟨xb, 1, none⟩ = some (.int .i64 lp)) := hid fun W hk => by
    have := Blk.kp hX1 hk hxO
    exact ⟨this.cell 0, this.cell 1⟩
  have hno : w.heap.size ∉ O := fun hm => by have := hS.lts w.heap.size (by simp [hm]); omega
  have hno1 : W1.heap.size ∉ O := fun hm => by have := hS1.lts W1.heap.size (by simp [hm]); omega
  have HX := hid (⟨hb1, hB1, hs1, hno, hno1, hS1.lts⟩ : _ ∧ _ ∧ _ ∧ _ ∧ _ ∧ _)
  have HNS : Hid (w.heap.size ≠ s.sb ∧ w.heap.size ≠ s.tb) := hid ⟨fun e => by have := hS.lts s.sb (by simp); omega, fun e => by have := hS.lts s.tb (by simp); omega⟩
  have HW1 := hid hW1
  clear hX hS hxO hlp hm hk hk0 hl hb1 hB1 hs1 hS1 hX1 hW1 hno hno1
  go_enter Tryz.func23, Tryz.ntmps23
  go_wp2_with (go_at_call 78; refine (HM.out _).mono ?_; rintro r w1 ⟨rfl, rfl⟩)
  rw [← HW1.out]
  go_region_held3 (fun W => W.cell? ⟨xb, 0, none⟩ = some (.pointer (some ⟨s.sb, 0, none⟩)) ∧ W.cell? ⟨xb, 1, none⟩ = some (.int .i64 lp))
    (first
      | exact HCK.out _ (((hkk.setCell (.inr zl) _).setCell (.inr zl) _))
      | exact HCK.out _ hkk
      | exact HCK.out _ (hkk.alloc _)
      | exact HCK.out _ (((hkk.alloc _).setCell (.inr (by show W1.heap.size ≤ _; exact hkk.size)) _).setCell (.inr (by show W1.heap.size ≤ _; exact hkk.size)) _)
      | exact HCK.out _ ((Kp.refl O W1).drew.alloc _)
      | exact HCK.out _ ((Kp.refl O W1).drew))
    (first
      | (go_at_call 81; refine (HS.out (W1.drew.alloc _) ((below_drewN (Below.refl _ W1) 1).alloc (Nat.le_refl _) _)).mono ?_; rintro r W5 ⟨rfl, hS5, hk5⟩; have hkk := ((Kp.refl O W1).drew.alloc _).trans hk5; have hz : Blk W5 W1.heap.size 168 #[.string ⟨#[]⟩, .string ⟨#[]⟩] := (Blk.new W1.drew 168 #[.string ⟨#[]⟩, .string ⟨#[]⟩]).kp hk5 HX.out.2.2.2.2.1; have z0 : W5.cell? ⟨W1.heap.size, 0, none⟩ = some (.string ⟨#[]⟩) := hz.cell 0; have z1 : W5.cell? ⟨W1.heap.size, 1, none⟩ = some (.string ⟨#[]⟩) := hz.cell 1; have zf0 := hz.frozen 0; have zf1 := hz.frozen 1; have zlt := hz.lt; have zl : W1.heap.size ≤ W1.heap.size := Nat.le_refl _)
      | (go_at_call 81; refine (HS.out W1.drew (below_drewN (Below.refl _ W1) 1)).mono ?_; rintro r W5 ⟨rfl, hS5, hk5⟩; have hkk := (Kp.refl O W1).drew.trans hk5))
  all_goals
    first
      | (obtain ⟨WF, hWF⟩ : ∃ WF, WF = (W5.setCell ⟨W1.heap.size, 0, none⟩ (.string ⟨#[]⟩)).setCell ⟨W1.heap.size, 1, none⟩ (.string ⟨#[]⟩) := ⟨_, rfl⟩
         rw [← hWF]
         have hkF : Kp O W1 WF := by rw [hWF]; exact ((hkk.setCell (.inr zl) _).setCell (.inr zl) _)
         have hSF : StI WF s O N M := by
           rw [hWF]
           refine hS5.of_blocks (fun b hb => ?_)
           have := HX.out.2.2.2.2.2 b hb
           exact (Below.heap_setCell _ ⟨W1.heap.size, 1, none⟩ _ _ (by show b ≠ W1.heap.size; omega)).trans (Below.heap_setCell _ ⟨W1.heap.size, 0, none⟩ _ _ (by show b ≠ W1.heap.size; omega))
         obtain ⟨g, hg⟩ : ∃ g, g = W1.heap.size := ⟨_, rfl⟩
         have hPF : Blk WF g 168 #[.string ⟨#[]⟩, .string ⟨#[]⟩] := by rw [hWF, hg]; simpa using (hz.set_ 0 (.string ⟨#[]⟩)).set_ 1 (.string ⟨#[]⟩)
         have hgl : W1.heap.size ≤ g := by omega
         rw [← hg]
         clear hz z0 z1 zf0 zf1 zlt zl)
      | (obtain ⟨WF, hWF⟩ : ∃ WF, WF = W5.alloc (.cells #[.string ⟨#[]⟩, .string ⟨#[]⟩] 168) := ⟨_, rfl⟩
         rw [← hWF]
         have hkF : Kp O W1 WF := by rw [hWF]; exact hkk.alloc _
         have hSF : StI WF s O N M := by rw [hWF]; exact hS5.below ((Below.refl _ W5).alloc (Nat.le_refl _) _)
         obtain ⟨g, hg⟩ : ∃ g, g = W5.heap.size := ⟨_, rfl⟩
         have hPF : Blk WF g 168 #[.string ⟨#[]⟩, .string ⟨#[]⟩] := by rw [hWF, hg]; exact Blk.new W5 _ _
         have hgl : W1.heap.size ≤ g := by rw [hg]; exact hkk.size
         rw [← hg])
    have hBF := HX.out.2.1.kp hkF HX.out.2.2.2.1
    have b0 : WF.cell? ⟨w.heap.size, 0, none⟩ = some (.slice none 0 0) := hBF.cell 0
    have b1 : WF.cell? ⟨w.heap.size, 1, none⟩ = some (.int .i64 0) := hBF.cell 1
    have b2 : WF.cell? ⟨w.heap.size, 2, none⟩ = some (.int .i64 0) := hBF.cell 2
    have bf0 := hBF.frozen 0
    have bf1 := hBF.frozen 1
    have bf2 := hBF.frozen 2
    have bl := hBF.lt
    have HF := hid (⟨hSF, (Kp.of_below HX.out.1).trans hkF, hBF⟩ : _ ∧ _ ∧ _)
    clear hSF hkF hBF hPF hkk hS5 hk5 hWF hg hgl
    go_wp2
    have hr8 := (((HF.out.2.2.set_ 0 (.slice none 0 0)).set_ 1 (.int .i64 0)).set_ 2 (.int .i64 0))
    have v0 := hr8.cell 0
    have v1 := hr8.cell 1
    have v2 := hr8.cell 2
    simp only [List.setIfInBounds_toArray, List.set_cons_zero, List.set_cons_succ, List.getElem?_toArray, List.getElem?_cons_zero, List.getElem?_cons_succ] at v0 v1 v2
    refine bodyPost_ret (v := .tuple #[.string ⟨#[]⟩, .agg #[.slice none 0 0, .int .i64 0, .int .i64 0], .int .i64 9]) (by simp [results, Tryz.results23, go_sem, v0, v1, v2]) rfl ?_
    exact ⟨rfl, HF.out.1.of_blocks (fun b hb => by
      have h1 := HX.out.2.2.2.2.2 b hb
      have h2 : b ≠ w.heap.size := fun e => by
        subst e
        rcases List.mem_cons.1 hb with e | hb
        · exact HNS.out.1 e
        · rcases List.mem_cons.1 hb with e | hb
          · exact HNS.out.2 e
          · exact HX.out.2.2.2.1 hb
      exact ((Below.heap_setCell _ ⟨w.heap.size, 2, none⟩ _ _ (by show b ≠ w.heap.size; omega)).trans (Below.heap_setCell _ ⟨w.heap.size, 1, none⟩ _ _ (by show b ≠ w.heap.size; omega))).trans (Below.heap_setCell _ ⟨w.heap.size, 0, none⟩ _ _ (by show b ≠ w.heap.size; omega))), ((HF.out.2.1.setCell (.inr (Nat.le_refl _)) _).setCell (.inr (Nat.le_refl _)) _).setCell (.inr (Nat.le_refl _)) _⟩
end
end Go.Proofs.YtnnghcooidjlhaaGreat
end
section
set_option linter.unusedSimpArgs false
set_option linter.unusedVariables false
set_option maxRecDepth 100000
namespace Go.Proofs.YtnnghcooidjlhaaGreat
open Go.RowKit Go.Lib
section
variable {w : World} {xb : Nat} {s : SL} {lp : Int} {O : List Nat} {N : Nat} {M : List KV} {l : List Sn}
set_option maxHeartbeats 8000000 in
theorem sahead_some (hX : SnX w xb s lp) (hS : StI w s O N M) (hxO : xb ∉ O) (hlp : 0 ≤ lp ∧ lp < 6) (hm : SnM M lp l) {k : Bs} (hk : k.length ≤ 29) (hk0 : k ≠ []) {x : Sn} (hl : (belowS l k).getLast? = some x) :
    Calls Tryz.prog 23 #[.pointer (some ⟨xb, 0, none⟩), .string (S k)] w fun r w' => ∃ p n c, r = .returned (.tuple #[.string (S x.k), staV p n c x.st, .int .i64 0]) ∧ n = x.st.words.length ∧ Vw 1 wC w' (.slice p n c) x.st.words ∧ (∀ b, (Value.slice p n c).ownBlock = some b → w.heap.size ≤ b) ∧ StI w' s O N M ∧ Kp O w w' := by
  have hxl : x ∈ l := by
    have := List.mem_of_getLast? hl
    exact (List.mem_filter.1 this).1
  have hxo := hm.ok x hxl
  have HM := hid (fun W => snmay_ok ⟨xb, 0, none⟩ k hk W)
  obtain ⟨W1, hW1⟩ : ∃ W1, W1 = w.alloc (.cells #[.slice none 0 0, .int .i64 0, .int .i64 0] 29) := ⟨_, rfl⟩
  have hb1 : Below w.heap.size w W1 := by rw [hW1]; exact (Below.refl _ w).alloc (Nat.le_refl _) _
  have hB1 : Blk W1 w.heap.size 29 #[.slice none 0 0, .int .i64 0, .int .i64 0] := by rw [hW1]; exact Blk.new w _ _
  have hs1 : W1.heap.size = w.heap.size + 1 := by rw [hW1]; simp
  have hS1 := hS.below hb1
  have hX1 : SnX W1 xb s lp := Blk.below hX hb1 (Blk.lt hX)
  have HS : Hid (∀ W, Below W1.heap.size W1 W → Calls Tryz.prog 81 #[.pointer (some ⟨s.sb, 0, none⟩), .int .i64 3, .int .i64 lp, .string ⟨#[]⟩, .string (S k)] W fun e w' => e = .returned (.tuple #[.agg #[.string (S x.k), .string (S (staB x.st))], .int .i64 0]) ∧ StI w' s O N M ∧ Kp O W w') := hid fun W hW => by
    have := slast_any (sp := 3) (lp := lp) (fr := []) (to := k) (hS1.below hW) (by unfold okP; omega) (by simp) (by omega)
    rwa [hm.last hk0, hl, show S [] = { data := #[] } from rfl] at this
  have hkE : k.isEmpty = false := by
    cases k with
    | nil => exact absurd rfl hk0
    | cons a t => rfl
  have HCK : Hid (∀ W, Kp O W1 W → W.cell? ⟨xb, 0, none⟩ = some (.pointer (some ⟨s.sb, 0, none⟩)) ∧ W.cell? ⟨xb, 1, none⟩ = some (.int .i64 lp)) := hid fun W hk => by
    have := Blk.kp hX1 hk hxO
    exact ⟨this.cell 0, this.cell 1⟩
  have hno : w.heap.size ∉ O := fun hm => by have := hS.lts w.heap.size (by simp [hm]); omega
  have hno1 : W1.heap.size ∉ O := fun hm => by have := hS1.lts W1.heap.size (by simp [hm]); omega
  have HA1 := hid (fun (W : World) (g : Nat) (kb : ByteArray) (hP : Blk W g 168 #[.string kb, .string (S (staB x.st))]) => ahead1_any hP hxo.2.1 hxo.2.2)
  unfold staV at HA1 ⊢
  have HX := hid (⟨hb1, hB1, hs1, hno, hno1, hS1.lts⟩ : _ ∧ _ ∧ _ ∧ _ ∧ _ ∧ _)
  have HNS : Hid (w.heap.size ≠ s.sb ∧ w.heap.size ≠ s.tb) := hid ⟨fun e => by have := hS.lts s.sb (by simp); omega, fun e => by have := hS.lts s.tb (by simp); omega⟩
  have HW1 := hid hW1
  clear hX hS hxO hlp hm hk hk0 hl hxl hxo hb1 hB1 hs1 hS1 hX1 hW1 hno hno1
  go_enter Tryz.func23, Tryz.ntmps23
  go_wp2_with (go_at_call 78; refine (HM.out _).mono ?_; rintro r w1 ⟨rfl, rfl⟩)
  rw [← HW1.out]
  go_region_held3 (fun W => W.cell? ⟨xb, 0, none⟩ = some (.pointer (some ⟨s.sb, 0, none⟩)) ∧ W.cell? ⟨xb, 1, none⟩ = some (.int .i64 lp))
    (first
      | exact HCK.out _ (((hkk.setCell (.inr zl) _).setCell (.inr zl) _))
      | exact HCK.out _ hkk
      | exact HCK.out _ (hkk.alloc _)
      | exact HCK.out _ (((hkk.alloc _).setCell (.inr (by show W1.heap.size ≤ _; exact hkk.size)) _).setCell (.inr (by show W1.heap.size ≤ _; exact hkk.size)) _)
      | exact HCK.out _ ((Kp.refl O W1).drew.alloc _)
      | exact HCK.out _ ((Kp.refl O W1).drew))
    (first
      | (go_at_call 81; refine (HS.out (W1.drew.alloc _) ((below_drewN (Below.refl _ W1) 1).alloc (Nat.le_refl _) _)).mono ?_; rintro r W5 ⟨rfl, hS5, hk5⟩; have hkk := ((Kp.refl O W1).drew.alloc _).trans hk5; have hz : Blk W5 W1.heap.size 168 #[.string ⟨#[]⟩, .string ⟨#[]⟩] := (Blk.new W1.drew 168 #[.string ⟨#[]⟩, .string ⟨#[]⟩]).kp hk5 HX.out.2.2.2.2.1; have z0 : W5.cell? ⟨W1.heap.size, 0, none⟩ = some (.string ⟨#[]⟩) := hz.cell 0; have z1 : W5.cell? ⟨W1.heap.size, 1, none⟩ = some (.string ⟨#[]⟩) := hz.cell 1; have zf0 := hz.frozen 0; have zf1 := hz.frozen 1; have zlt := hz.lt; have zl : W1.heap.size ≤ W1.heap.size := Nat.le_refl _)
      | (go_at_call 81; refine (HS.out W1.drew (below_drewN (Below.refl _ W1) 1)).mono ?_; rintro r W5 ⟨rfl, hS5, hk5⟩; have hkk := (Kp.refl O W1).drew.trans hk5))
  all_goals
    first
      | (obtain ⟨WF, hWF⟩ : ∃ WF, WF = (W5.setCell ⟨W1.heap.size, 0, none⟩ (.string (S x.k))).setCell ⟨W1.heap.size, 1, none⟩ (.string (S (staB x.st))) := ⟨_, rfl⟩
         rw [← hWF]
         have hkF : Kp O W1 WF := by rw [hWF]; exact ((hkk.setCell (.inr zl) _).setCell (.inr zl) _)
         have hSF : StI WF s O N M := by
           rw [hWF]
           refine hS5.of_blocks (fun b hb => ?_)
           have := HX.out.2.2.2.2.2 b hb
           exact (Below.heap_setCell _ ⟨W1.heap.size, 1, none⟩ _ _ (by show b ≠ W1.heap.size; omega)).trans (Below.heap_setCell _ ⟨W1.heap.size, 0, none⟩ _ _ (by show b ≠ W1.heap.size; omega))
         obtain ⟨g, hg⟩ : ∃ g, g = W1.heap.size := ⟨_, rfl⟩
         have hPF : Blk WF g 168 #[.string (S x.k), .string (S (staB x.st))] := by rw [hWF, hg]; simpa using (hz.set_ 0 (.string (S x.k))).set_ 1 (.string (S (staB x.st)))
         have hgl : W1.heap.size ≤ g := by omega
         rw [← hg]
         clear hz z0 z1 zf0 zf1 zlt zl)
      | (obtain ⟨WF, hWF⟩ : ∃ WF, WF = W5.alloc (.cells #[.string (S x.k), .string (S (staB x.st))] 168) := ⟨_, rfl⟩
         rw [← hWF]
         have hkF : Kp O W1 WF := by rw [hWF]; exact hkk.alloc _
         have hSF : StI WF s O N M := by rw [hWF]; exact hS5.below ((Below.refl _ W5).alloc (Nat.le_refl _) _)
         obtain ⟨g, hg⟩ : ∃ g, g = W5.heap.size := ⟨_, rfl⟩
         have hPF : Blk WF g 168 #[.string (S x.k), .string (S (staB x.st))] := by rw [hWF, hg]; exact Blk.new W5 _ _
         have hgl : W1.heap.size ≤ g := by rw [hg]; exact hkk.size
         rw [← hg])
    have hBF := HX.out.2.1.kp hkF HX.out.2.2.2.1
    have HF := hid (⟨hSF, hkF, hBF, hPF, hgl⟩ : _ ∧ _ ∧ _ ∧ _ ∧ _)
    have HA := hid (HA1.out WF g _ hPF)
    clear hSF hkF hBF hPF hkk hS5 hk5 hWF hg hgl
    go_wp2_with fail
    (with_reducible refine HA.out.mono ?_)
    rintro r W6 ⟨p6, n6, c6, rfl, hn6, hV6, hvo6, hb6⟩
    obtain ⟨hSF, hkF, hBF, hPF, hgl⟩ := HF.out
    obtain ⟨W7, hW7⟩ : ∃ W7, W7 = W6.alloc (.cells #[.slice p6 n6 c6, .int .i64 x.st.sent, .int .i64 x.st.dice] 29) := ⟨_, rfl⟩
    have hb67 : Below W6.heap.size W6 W7 := by rw [hW7]; exact (Below.refl _ W6).alloc (Nat.le_refl _) _
    have hbF7 : Below WF.heap.size WF W7 := hb6.trans (hb67.mono hb6.size)
    have hB7 := hBF.below hbF7 hBF.lt
    have hP7 := hPF.below hbF7 hPF.lt
    have hT7 : Blk W7 W6.heap.size 29 #[.slice p6 n6 c6, .int .i64 x.st.sent, .int .i64 x.st.dice] := by rw [hW7]; exact Blk.new W6 _ _
    have hgA : g ≠ w.heap.size := by have := HX.out.2.2.1; omega
    have htA : W6.heap.size ≠ w.heap.size := by have := hBF.lt; have := hb6.size; omega
    have b0 : W7.cell? ⟨w.heap.size, 0, none⟩ = some (.slice none 0 0) := hB7.cell 0
    have b1 : W7.cell? ⟨w.heap.size, 1, none⟩ = some (.int .i64 0) := hB7.cell 1
    have b2 : W7.cell? ⟨w.heap.size, 2, none⟩ = some (.int .i64 0) := hB7.cell 2
    have bf0 := hB7.frozen 0
    have bf1 := hB7.frozen 1
    have bf2 := hB7.frozen 2
    have bl := hB7.lt
    have HCL : Hid (∀ W : World, (∀ b, b ≠ w.heap.size → W.heap[b]? = W7.heap[b]?) → W.cell? ⟨g, 0, none⟩ = some (.string (S x.k)) ∧ W.cell? ⟨W6.heap.size, 0, none⟩ = some (.slice p6 n6 c6) ∧ W.cell? ⟨W6.heap.size, 1, none⟩ = some (.int .i64 x.st.sent) ∧ W.cell? ⟨W6.heap.size, 2, none⟩ = some (.int .i64 x.st.dice)) := hid fun W hW =>
      ⟨(World.cell?_of_block (a := ⟨g, 0, none⟩) (hW g hgA)).trans (hP7.cell 0), (World.cell?_of_block (a := ⟨W6.heap.size, 0, none⟩) (hW _ htA)).trans (hT7.cell 0), (World.cell?_of_block (a := ⟨W6.heap.size, 1, none⟩) (hW _ htA)).trans (hT7.cell 1), (World.cell?_of_block (a := ⟨W6.heap.size, 2, none⟩) (hW _ htA)).trans (hT7.cell 2)⟩
    have H3S : Hid (∀ (u0 u1 u2 : Value) b, b ≠ w.heap.size → (((W7.drew.setCell ⟨w.heap.size, 0, none⟩ u0).setCell ⟨w.heap.size, 1, none⟩ u1).setCell ⟨w.heap.size, 2, none⟩ u2).heap[b]? = W7.heap[b]?) := hid fun u0 u1 u2 b hb =>
      ((Below.heap_setCell _ ⟨w.heap.size, 2, none⟩ _ _ (by show b ≠ w.heap.size; exact hb)).trans (Below.heap_setCell _ ⟨w.heap.size, 1, none⟩ _ _ (by show b ≠ w.heap.size; exact hb))).trans (Below.heap_setCell _ ⟨w.heap.size, 0, none⟩ _ _ (by show b ≠ w.heap.size; exact hb))
    have hvA : ∀ b, (Value.slice p6 n6 c6).ownBlock = some b → b ≠ w.heap.size := fun b hb => by have := hvo6 b hb; have := hBF.lt; omega
    have H7 := hid (⟨hSF.below hbF7, (Kp.of_below HX.out.1).trans (hkF.trans (Kp.of_below hbF7)), hV6.below hb67, hvA, hn6, fun b hb => Nat.le_trans (Nat.le_trans HX.out.1.size hkF.size) (hvo6 b hb), hB7⟩ : _ ∧ _ ∧ _ ∧ _ ∧ _ ∧ _ ∧ _)
    have HW7 := hid hW7
    clear hSF hkF hBF hPF hgl hb67 hbF7 hB7 hP7 hT7 hgA htA hvA hV6 hvo6 hb6 hn6 hW7
    go_wp2
    rw [← HW7.out]
    go_region_held3 (fun W => W.cell? ⟨g, 0, none⟩ = some (.string (S x.k)) ∧ W.cell? ⟨W6.heap.size, 0, none⟩ = some (.slice p6 n6 c6) ∧ W.cell? ⟨W6.heap.size, 1, none⟩ = some (.int .i64 x.st.sent) ∧ W.cell? ⟨W6.heap.size, 2, none⟩ = some (.int .i64 x.st.dice))
      (first | exact HCL.out _ (H3S.out _ _ _) | exact HCL.out _ (fun _ _ => rfl)) (fail)
    all_goals
      go_wp2
      have hr6 := H7.out.2.2.2.2.2.2.set_ 0 (.slice p6 n6 c6)
      have hr7 := hr6.set_ 1 (.int .i64 x.st.sent)
      have hr8 := hr7.set_ 2 (.int .i64 x.st.dice)
      have v0 := hr6.cell 0
      have v1 := hr7.cell 1
      have v2 := hr8.cell 2
      simp only [List.setIfInBounds_toArray, List.set_cons_zero, List.set_cons_succ, List.getElem?_toArray, List.getElem?_cons_zero, List.getElem?_cons_succ] at v0 v1 v2
      refine bodyPost_ret (v := .tuple #[.string (S x.k), .agg #[.slice p6 n6 c6, .int .i64 x.st.sent, .int .i64 x.st.dice], .int .i64 0]) (by simp [results, Tryz.results23, go_sem, v0, v1, v2]) rfl ?_
      refine ⟨p6, n6, c6, rfl, H7.out.2.2.2.2.1, H7.out.2.2.1.of_block (fun b hlt hb => H3S.out _ _ _ b (H7.out.2.2.2.1 b hb)) (by simp [World.setCell]), H7.out.2.2.2.2.2.1, H7.out.1.of_blocks (fun b hb => H3S.out _ _ _ b (fun e => ?_)), ((H7.out.2.1.drew.setCell (.inr (Nat.le_refl _)) _).setCell (.inr (Nat.le_refl _)) _).setCell (.inr (Nat.le_refl _)) _⟩
      subst e
      rcases List.mem_cons.1 hb with e | hb
      · exact HNS.out.1 e
      · rcases List.mem_cons.1 hb with e | hb
        · exact HNS.out.2 e
        · exact HX.out.2.2.2.1 hb
end
end Go.Proofs.YtnnghcooidjlhaaGreat
end
section
set_option linter.unusedSimpArgs false
set_option linter.unusedVariables false
set_option maxRecDepth 100000
namespace Go.Proofs.YtnnghcooidjlhaaGreat
open Go.RowKit Go.Lib
set_option maxHeartbeats 4000000 in
theorem ints_same {w : World} {p1 p2 : Option Addr} {n c1 c2 : Nat} {l : List Int} (h1 : Vw 1 wC w (.slice p1 n c1) l) (h2 : Vw 1 wC w (.slice p2 n c2) l) (hn : n = l.length) (hl : n ≤ 1000) :
    Calls Tryz.prog 94 #[.slice p1 n c1, .slice p2 n c2] w fun r w' => r = .returned (.bool true) ∧ Below w.heap.size w w' := by
  have hli : (n : Int) ≤ 1000 := by omega
  have HG := hid (⟨h1, h2, hn⟩ : _ ∧ _ ∧ _)
  clear h1 h2 hn hl
  go_enter Tryz.func94, Tryz.ntmps94
  go_wp2
  go_loopg [5] n (fun gg s5 wr => ∃ j : Nat, j ≤ n ∧ n - j ≤ gg ∧ s5 = .int .i64 j ∧ Hid (Below w.heap.size w wr))
  case atStart => exact ⟨0, by omega, by omega, rfl, hid (Below.refl _ _)⟩
  case round =>
    obtain ⟨j, hj, hgg, rfl, HI⟩ := hrel
    by_cases hje : j < n
    · obtain ⟨x, hx⟩ : ∃ x, l[j]? = some x := ⟨_, List.getElem?_eq_getElem (by rw [← HG.out.2.2]; exact hje)⟩
      have hne : l ≠ [] := by rintro rfl; simp at hx
      obtain ⟨b1, o1, _, e1, _, hb1, k1⟩ := HG.out.1.ex hne
      obtain ⟨b2, o2, _, e2, _, hb2, k2⟩ := HG.out.2.1.ex hne
      injection e1 with e1 e3 e4
      injection e2 with e2 e5 e6
      subst e1 e2
      clear e3 e4 e5 e6
      have HC : Hid (∀ W, BelC wr W → W.cell? ⟨b1, o1 + j, none⟩ = some (.int .i64 x) ∧ W.cell? ⟨b2, o2 + j, none⟩ = some (.int .i64 x)) := hid fun W hW => by
        have hb := HI.out.trans (hW.out.mono HI.out.size)
        have q1 := k1 j x hx 0 _ rfl
        have q2 := k2 j x hx 0 _ rfl
        rw [Nat.mul_one, Nat.add_zero] at q1 q2
        exact ⟨(World.cell?_of_block (hb.block b1 hb1)).trans q1, (World.cell?_of_block (hb.block b2 hb2)).trans q2⟩
      have hji : (j : Int) < (n : Int) := by omega
      have HDR := hid (BelC.drew wr)
      clear hx hne k1 k2 hb1 hb2
      obtain ⟨wo, hwo⟩ : ∃ wo, wo = wr := ⟨_, rfl⟩
      subst hwo
      go_wp2
      refine qC_region (by kernel_rfl) (by kernel_rfl) (BelC wo) HDR.out ?_
      repeat (first | (refine qC_none rfl (fun K hK => ?_); apply Exists.intro; refine ⟨fun w0 hw0 => ?_, ?_⟩; (focus (obtain ⟨q0, q1⟩ := HC.out w0 hw0; go_simp; first | exact rfl | exact ⟨rfl, rfl⟩ | (fail))); go_simp; refine hK _ ?_; clear hK K) | (refine qC_yes _ _ _ rfl rfl (by rfl) (fun K hK => ?_); apply Exists.intro; refine ⟨fun w0 hw0 => ?_, ?_⟩; (focus (obtain ⟨q0, q1⟩ := HC.out w0 hw0; go_simp; first | exact rfl | exact ⟨rfl, rfl⟩ | (fail))); go_simp; refine hK _ ?_; clear hK K) | (refine qC_no _ _ _ rfl rfl (by rfl) (fun K hK => ?_); go_simp; refine hK _ ?_; clear hK K) | (refine qC_undef _ _ _ rfl rfl (by rfl) (fun K hK => ?_); go_simp; refine hK _ ?_; clear hK K))
      refine qC_nil ?_
      intro w5 hw5
      have HI5 := hid (HI.out.trans (hw5.out.mono HI.out.size))
      clear hw5
      go_wp2
      go_roundg (n - (j + 1))
      case measure => omega
      case rel => exact ⟨j + 1, by omega, by omega, by go_num, HI5⟩
    · have hji : ¬ ((j : Int) < (n : Int)) := by omega
      go_wp2
      go_ret
      exact ⟨rfl, HI.out⟩
set_option maxHeartbeats 4000000 in
theorem same08_any {w : World} {p1 p2 : Option Addr} {n c1 c2 : Nat} {st : Sta} (h1 : Vw 1 wC w (.slice p1 n c1) st.words) (h2 : Vw 1 wC w (.slice p2 n c2) st.words) (hn : n = st.words.length) (hl : n ≤ 1000) :
    Calls Tryz.prog 31 #[staV p1 n c1 st, staV p2 n c2 st] w fun r w' => r = .returned (.bool true) ∧ Below w.heap.size w w' := by
  unfold staV
  obtain ⟨W1, hW1⟩ : ∃ W1, W1 = (w.alloc (.cells #[.slice p1 n c1, .int .i64 st.sent, .int .i64 st.dice] 29)).alloc (.cells #[.slice p2 n c2, .int .i64 st.sent, .int .i64 st.dice] 29) := ⟨_, rfl⟩
  have hb1 : Below w.heap.size w W1 := by rw [hW1]; exact ((Below.refl _ w).alloc (Nat.le_refl _) _).alloc (by simp) _
  have hB1 : Blk W1 w.heap.size 29 #[.slice p1 n c1, .int .i64 st.sent, .int .i64 st.dice] := by rw [hW1]; exact (Blk.new w _ _).alloc _
  have hB2 : Blk W1 (w.heap.size + 1) 29 #[.slice p2 n c2, .int .i64 st.sent, .int .i64 st.dice] := by
    rw [hW1]
    have := Blk.new (w.alloc (.cells #[.slice p1 n c1, .int .i64 st.sent, .int .i64 st.dice] 29)) 29 #[.slice p2 n c2, .int .i64 st.sent, .int .i64 st.dice]
    simpa using this
  have HS := hid (ints_same (h1.below hb1) (h2.below hb1) hn hl)
  rw [hW1] at HS
  have HX := hid (⟨hb1, hB1, hB2⟩ : _ ∧ _ ∧ _)
  have HW1 := hid hW1
  clear hb1 hB1 hB2 hW1 h1 h2 hn hl
  go_enter Tryz.func31, Tryz.ntmps31
  go_wp2_with fail
  (with_reducible refine HS.out.mono ?_)
  rintro r W2 ⟨rfl, hb2⟩
  rw [← HW1.out] at hb2
  have h1 := HX.out.2.1.below hb2 HX.out.2.1.lt
  have h2 := HX.out.2.2.below hb2 HX.out.2.2.lt
  have p3 : W2.cell? ⟨w.heap.size, 1, none⟩ = some (.int .i64 st.sent) := h1.cell 1
  have p4 : W2.cell? ⟨w.heap.size, 2, none⟩ = some (.int .i64 st.dice) := h1.cell 2
  have q3 : W2.cell? ⟨w.heap.size + 1, 1, none⟩ = some (.int .i64 st.sent) := h2.cell 1
  have q4 : W2.cell? ⟨w.heap.size + 1, 2, none⟩ = some (.int .i64 st.dice) := h2.cell 2
  have HF := hid (HX.out.1.trans (hb2.mono HX.out.1.size))
  clear hb2 h1 h2
  go_wp2
  go_ret
  exact ⟨rfl, HF.out⟩
end Go.Proofs.YtnnghcooidjlhaaGreat
end
section
set_option linter.unusedSimpArgs false
set_option linter.unusedVariables false
set_option maxRecDepth 100000
namespace Go.Proofs.YtnnghcooidjlhaaGreat
open Go.RowKit Go.Lib
structure SnI (w : World) (xb : Nat) (s : SL) (lp : Int) (O : List Nat) (N : Nat) (l : List Sn) : Prop where
  b : SnX w xb s lp
  no : xb ∉ s.sb :: s.tb :: O
  hlp : 0 ≤ lp ∧ lp < 6
  m : ∃ M, StI w s O N M ∧ SnM M lp l ∧ longs M ≤ N
section
variable {w w' : World} {xb : Nat} {s : SL} {lp : Int} {O : List Nat} {N : Nat} {l : List Sn}
theorem SnI.below (h : SnI w xb s lp O N l) (hb : Below w.heap.size w w') : SnI w' xb s lp O N l := by
  obtain ⟨M, h1, h2, h3⟩ := h.m
  exact ⟨Blk.below h.b hb (Blk.lt h.b), h.no, h.hlp, M, h1.below hb, h2, h3⟩
theorem SnI.lts (h : SnI w xb s lp O N l) : ∀ b ∈ xb :: s.sb :: s.tb :: O, b < w.heap.size := by
  obtain ⟨M, h1, h2, h3⟩ := h.m
  intro b hb
  rcases List.mem_cons.1 hb with rfl | hb
  · exact Blk.lt h.b
  · exact h1.lts b hb
theorem SnI.noO (h : SnI w xb s lp O N l) : xb ∉ O := fun hm => h.no (by simp [hm])
theorem SnI.turn {O' : List Nat} {N' : Nat} {l' : List Sn} {M' : List KV} (h : SnI w xb s lp O N l) (hk : Kp O w w') (hg : Gr O w.heap.size O') (hs : StI w' s O' N' M') (hf : SnM M' lp l') (hl : longs M' ≤ N') : SnI w' xb s lp O' N' l' := by
  have hno := h.no
  simp only [List.mem_cons, not_or] at hno
  refine ⟨Blk.kp h.b hk hno.2.2, ?_, h.hlp, M', hs, hf, hl⟩
  simp only [List.mem_cons, not_or]
  exact ⟨hno.1, hno.2.1, hg.out (Blk.lt h.b) hno.2.2⟩
theorem sn_take (h : SnI w xb s lp O N l) (hN : N ≤ 50) {k : Bs} (hk : k.length ≤ 29) {p : Option Addr} {n c : Nat} {st : Sta} (hv : Vw 1 wC w (.slice p n c) st.words) (hn : n = st.words.length) (hr : st.right) (ho : st.ok) :
    Calls Tryz.prog 22 #[.pointer (some ⟨xb, 0, none⟩), .string (S k), staV p n c st] w fun e w' => ∃ O', e = .returned (.int .i64 0) ∧ SnI w' xb s lp O' (N + 1) (setS l ⟨k, st⟩) ∧ Kp O w w' ∧ Gr O w.heap.size O' := by
  obtain ⟨M, h1, h2, h3⟩ := h.m
  refine (stake_any h.b h1 h.noO h.hlp hk hv hn hr ho (.inl ⟨by omega, by omega⟩)).mono ?_
  rintro e w' ⟨O', rfl, hS, hK, hG⟩
  refine ⟨O', rfl, h.turn hK hG hS (h2.set h1.asc (x := ⟨k, st⟩) ⟨hk, hr, ho⟩) ?_, hK, hG⟩
  have := longs_set h1.asc (hdP 3 lp ++ k) (staB st)
  have e2 : (if 40 < (staB st).length then 1 else 0) ≤ 1 := by split <;> omega
  omega
theorem sn_ahead_some (h : SnI w xb s lp O N l) {k : Bs} (hk : k.length ≤ 29) (hk0 : k ≠ []) {x : Sn} (hl : (belowS l k).getLast? = some x) :
    Calls Tryz.prog 23 #[.pointer (some ⟨xb, 0, none⟩), .string (S k)] w fun r w' => ∃ p n c, r = .returned (.tuple #[.string (S x.k), staV p n c x.st, .int .i64 0]) ∧ n = x.st.words.length ∧ Vw 1 wC w' (.slice p n c) x.st.words ∧ (∀ b, (Value.slice p n c).ownBlock = some b → w.heap.size ≤ b) ∧ SnI w' xb s lp O N l ∧ Kp O w w' := by
  obtain ⟨M, h1, h2, h3⟩ := h.m
  refine (sahead_some h.b h1 h.noO h.hlp h2 hk hk0 hl).mono ?_
  rintro e w' ⟨p, n, c, rfl, e1, e2, e3, hS, hK⟩
  exact ⟨p, n, c, rfl, e1, e2, e3, h.turn hK (Gr.refl _ _) hS h2 h3, hK⟩
end
theorem begun25_no (lp : Int) (h : ¬ (0 ≤ lp ∧ lp < 6)) (w : World) :
    Calls Tryz.prog 19 #[.int .i64 lp] w fun e w' => e = .returned (.pointer none) ∧ Below w.heap.size w w' := by
  have HB := hid (begun_any w)
  have HO := hid (fun p W => snof_bad p lp h W)
  clear h
  go_enter Tryz.func19, Tryz.ntmps19
  go_wp2_with fail
  (with_reducible refine HB.out.mono ?_)
  rintro r W1 ⟨s, O, rfl, hS, hb, ho⟩
  have HX := hid hb
  clear hS hb ho
  go_wp2_with fail
  (with_reducible refine (HO.out _ _).mono ?_)
  rintro r W2 ⟨rfl, rfl⟩
  go_wp2
  go_ret
  exact ⟨rfl, HX.out⟩
set_option maxHeartbeats 4000000 in
theorem begun25_any (lp : Int) (h : 0 ≤ lp ∧ lp < 6) (w : World) :
    Calls Tryz.prog 19 #[.int .i64 lp] w fun e w' => ∃ xb s O, e = .returned (.pointer (some ⟨xb, 0, none⟩)) ∧ SnI w' xb s lp O 0 [] ∧ Below w.heap.size w w' ∧ ∀ b ∈ xb :: s.sb :: s.tb :: O, w.heap.size ≤ b := by
  have HB := hid (begun_any w)
  have HO := hid (fun s W => snof_any s lp h W)
  have HLP := hid h
  clear h
  go_enter Tryz.func19, Tryz.ntmps19
  go_wp2_with fail
  (with_reducible refine HB.out.mono ?_)
  rintro r W1 ⟨s, O, rfl, hS, hb, ho⟩
  have HX := hid (⟨hS, hb, ho⟩ : _ ∧ _ ∧ _)
  clear hS hb ho
  go_wp2_with fail
  (with_reducible refine (HO.out _ _).mono ?_)
  rintro r W2 ⟨rfl, hw2⟩
  obtain ⟨hS, hb, ho⟩ := HX.out
  have hb2 : Below W1.heap.size W1 W2 := by rw [← hw2]; exact (Below.refl _ W1).alloc (Nat.le_refl _) _
  have hB2 : SnX W2 W1.heap.size s lp := by rw [← hw2]; exact Blk.new W1 _ _
  have HF : Hid (SnI W2 W1.heap.size s lp O 0 [] ∧ Below w.heap.size w W2 ∧ ∀ b ∈ W1.heap.size :: s.sb :: s.tb :: O, w.heap.size ≤ b) := hid ⟨⟨hB2, fun hm => by have := hS.lts _ hm; omega, HLP.out, [], hS.below hb2, SnM.nil lp, by simp [longs]⟩, hb.trans (hb2.mono hb.size), fun b hm => by
    rcases List.mem_cons.1 hm with rfl | hm
    · exact hb.size
    · exact ho b hm⟩
  clear hS hb ho hb2 hB2 hw2
  go_wp2
  go_ret
  exact ⟨_, s, O, rfl, HF.out⟩
end Go.Proofs.YtnnghcooidjlhaaGreat
end
section
set_option linter.unusedSimpArgs false
set_option linter.unusedVariables false
set_option maxRecDepth 100000
namespace Go.Proofs.YtnnghcooidjlhaaGreat
open Go.RowKit Go.Lib
def awS (j : Nat) : Sta := if j = 0 then ⟨[], 1, 0⟩ else if j = 1 then ⟨[5], 0, 0⟩ else ⟨[], 0, 0⟩
def awK (j : Nat) : Bs := if j = 0 then [] else if j = 1 then [97] else [99]
theorem aw_list : (belowS (setS (setS (setS [] ⟨awK 0, awS 0⟩) ⟨awK 1, awS 1⟩) ⟨awK 2, awS 2⟩) [98]).getLast? = some ⟨[97], awS 1⟩ := by
  rfl
theorem awS_ok (j : Nat) : (awS j).right ∧ (awS j).ok := by
  unfold awS
  split
  · exact ⟨by decide, by simp [Sta.ok]⟩
  split
  · exact ⟨by decide, by simp [Sta.ok]⟩
  · exact ⟨by decide, by simp [Sta.ok]⟩
set_option maxHeartbeats 8000000 in
theorem awake25_any (w : World) :
    Calls Tryz.prog 20 #[] w fun e w' => e = .returned (.bool true) ∧ Below w.heap.size w w' := by
  have HB := hid (begun25_any 3 (by omega) w)
  go_enter Tryz.func20, Tryz.ntmps20
  go_wp2_with fail
  (with_reducible refine HB.out.mono ?_)
  rintro r W1 ⟨xb, s, O, rfl, hI, hb, ho⟩
  have HT := hid (sn_take hI (by omega) (k := awK 0) (by decide) (st := awS 0) (Vw.nil 1 wC W1 none 0) rfl (awS_ok 0).1 (awS_ok 0).2)
  rw [show S (awK 0) = ⟨#[]⟩ from rfl, show staV none 0 0 (awS 0) = .agg #[.slice none 0 0, .int .i64 1, .int .i64 0] from rfl] at HT
  have HX := hid (⟨hb, ho⟩ : _ ∧ _)
  clear hI hb ho
  go_wp2_with fail
  (with_reducible refine HT.out.mono ?_)
  rintro r W2 ⟨O2, rfl, hI2, hk2, hg2⟩
  have h2b : Below w.heap.size w W2 := HX.out.1.trans (hk2.to_below HX.out.1.size (fun x hx => HX.out.2 x (by simp [hx])))
  have h2o : ∀ b ∈ O2, w.heap.size ≤ b := fun b hm => by
    rcases hg2 b hm with h | h
    · exact HX.out.2 b (by simp [h])
    · exact Nat.le_trans HX.out.1.size h
  obtain ⟨W3, hW3⟩ : ∃ W3, W3 = W2.alloc (.cells #[.int .i64 5] 3) := ⟨_, rfl⟩
  have hb3 : Below W2.heap.size W2 W3 := by rw [hW3]; exact (Below.refl _ W2).alloc (Nat.le_refl _) _
  have hB3 : Blk W3 W2.heap.size 3 #[.int .i64 5] := by rw [hW3]; exact Blk.new W2 _ _
  have hv3 : Vw 1 wC W3 (.slice (some ⟨W2.heap.size, 0, none⟩) 1 1) [5] := Vw.one hB3 (Nat.le_refl _)
  have HT3 := hid (sn_take (hI2.below hb3) (by omega) (k := awK 1) (by decide) (st := awS 1) hv3 rfl (awS_ok 1).1 (awS_ok 1).2)
  rw [show S (awK 1) = ⟨#[97]⟩ from rfl, show staV (some ⟨W2.heap.size, 0, none⟩) 1 1 (awS 1) = .agg #[.slice (some ⟨W2.heap.size, 0, none⟩) 1 1, .int .i64 0, .int .i64 0] from rfl, hW3] at HT3
  have HX3 := hid (⟨h2b.trans (hb3.mono h2b.size), h2o⟩ : _ ∧ _)
  have HW3 := hid hW3
  clear hI2 hk2 hg2 h2b h2o hb3 hB3 hv3 hW3
  go_wp2_with fail
  (with_reducible refine HT3.out.mono ?_)
  rintro r W4 ⟨O4, rfl, hI4, hk4, hg4⟩
  rw [← HW3.out] at hk4 hg4
  have HT4 := hid (sn_take hI4 (by omega) (k := awK 2) (by decide) (st := awS 2) (Vw.nil 1 wC W4 none 0) rfl (awS_ok 2).1 (awS_ok 2).2)
  rw [show S (awK 2) = ⟨#[99]⟩ from rfl, show staV none 0 0 (awS 2) = .agg #[.slice none 0 0, .int .i64 0, .int .i64 0] from rfl] at HT4
  have h4b : Below w.heap.size w W4 := HX3.out.1.trans (hk4.to_below HX3.out.1.size (fun x hx => HX3.out.2 x hx))
  have h4o : ∀ b ∈ O4, w.heap.size ≤ b := fun b hm => by
    rcases hg4 b hm with h | h
    · exact HX3.out.2 b h
    · exact Nat.le_trans HX3.out.1.size h
  have HX4 := hid (⟨h4b, h4o⟩ : _ ∧ _)
  clear hI4 hk4 hg4 h4b h4o
  go_wp2_with fail
  (with_reducible refine HT4.out.mono ?_)
  rintro r W5 ⟨O5, rfl, hI5, hk5, hg5⟩
  have h5b : Below w.heap.size w W5 := HX4.out.1.trans (hk5.to_below HX4.out.1.size (fun x hx => HX4.out.2 x hx))
  have h5o : ∀ b ∈ O5, w.heap.size ≤ b := fun b hm => by
    rcases hg5 b hm with h | h
    · exact HX4.out.2 b h
    · exact Nat.le_trans HX4.out.1.size h
  have HA := hid (sn_ahead_some hI5 (k := [98]) (by decide) (by decide) aw_list)
  rw [show S [98] = ⟨#[98]⟩ from rfl, show S [97] = ⟨#[97]⟩ from rfl] at HA
  have HX5 := hid (⟨h5b, h5o, hI5.noO⟩ : _ ∧ _ ∧ _)
  clear hI5 hk5 hg5 h5b h5o
  go_wp2_with fail
  (with_reducible refine HA.out.mono ?_)
  rintro r W6 ⟨p, n, c, rfl, hn, hv, ho6, hI6, hk6⟩
  rw [show (awS 1).words = [5] from rfl] at hn hv
  obtain ⟨b, off, c', e, hc', hbl, hcx⟩ := hv.ex (by simp)
  injection e with e1 e2 e3
  subst e1
  have hn1 : n = 1 := by simpa using hn
  subst hn1
  subst e3
  unfold staV
  rw [show (awS 1).sent = 0 from rfl, show (awS 1).dice = 0 from rfl]
  have h6b : Below w.heap.size w W6 := HX5.out.1.trans (hk6.to_below HX5.out.1.size (fun x hx => HX5.out.2.1 x hx))
  obtain ⟨W7, hW7⟩ : ∃ W7, W7 = W6.alloc (.cells #[.slice (some ⟨b, off, none⟩) 1 c, .int .i64 0, .int .i64 0] 29) := ⟨_, rfl⟩
  have hb7 : Below W6.heap.size W6 W7 := by rw [hW7]; exact (Below.refl _ W6).alloc (Nat.le_refl _) _
  have hB7 : Blk W7 W6.heap.size 29 #[.slice (some ⟨b, off, none⟩) 1 c, .int .i64 0, .int .i64 0] := by rw [hW7]; exact Blk.new W6 _ _
  have hc7 : W7.cell? ⟨b, off, none⟩ = some (.int .i64 5) := by
    have := hcx 0 5 rfl 0 _ rfl
    rw [Nat.zero_mul] at this
    exact (World.cell?_of_block (hb7.block b hbl)).trans this
  have hb67 := h6b.trans (hb7.mono h6b.size)
  have H7 := hid (⟨hb67, hB7, hc7, Nat.lt_of_lt_of_le hbl hb7.size⟩ : _ ∧ _ ∧ _ ∧ _)
  have HN := hid (sahead_no (some ⟨xb, 0, none⟩) [] 9 (.inr (.inr ⟨by simp, rfl, rfl⟩)) W7)
  rw [show S [] = ⟨#[]⟩ from rfl, hW7] at HN
  have HW7 := hid hW7
  clear hv hn hcx hbl hc' e2 ho6 hI6 hk6 h6b hb7 hB7 hc7 hb67 hW7
  go_wp2_with fail
  (with_reducible refine HN.out.mono ?_)
  rintro r W8 ⟨rfl, hb8⟩
  rw [← HW7.out] at hb8
  unfold sta0
  obtain ⟨W9, hW9⟩ : ∃ W9, W9 = W8.alloc (.cells #[.slice none 0 0, .int .i64 0, .int .i64 0] 29) := ⟨_, rfl⟩
  have hb9 : Below W8.heap.size W8 W9 := by rw [hW9]; exact (Below.refl _ W8).alloc (Nat.le_refl _) _
  have hb79 : Below W7.heap.size W7 W9 := hb8.trans (hb9.mono hb8.size)
  have hB9 := H7.out.2.1.below hb79 H7.out.2.1.lt
  have d0 : W9.cell? ⟨W6.heap.size, 0, none⟩ = some (.slice (some ⟨b, off, none⟩) 1 c) := hB9.cell 0
  have d1 : W9.cell? ⟨b, off, none⟩ = some (.int .i64 5) := (World.cell?_of_block (hb79.block b H7.out.2.2.2)).trans H7.out.2.2.1
  have HF := hid (H7.out.1.trans (hb79.mono H7.out.1.size))
  have HW9 := hid hW9
  rw [hW9] at d0 d1
  clear hb8 hb9 hb79 hB9 hW9
  go_wp2
  go_ret
  rw [← HW9.out]
  exact ⟨rfl, HF.out⟩
end Go.Proofs.YtnnghcooidjlhaaGreat
end
