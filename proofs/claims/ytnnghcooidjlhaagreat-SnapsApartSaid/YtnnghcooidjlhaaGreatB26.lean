/- Parts of the proof: Yk Yl Ym Yn Ot Yo Yp. -/
import Derived.Test.YtnnghcooidjlhaaGreatB23
import Derived.Test.YtnnghcooidjlhaaGreatB25
set_option linter.all false
section
set_option linter.unusedSimpArgs false
set_option linter.unusedVariables false
set_option maxRecDepth 100000
namespace Go.Proofs.YtnnghcooidjlhaaGreat
open Go.RowKit Go.Lib
set_option maxHeartbeats 4000000 in
theorem ints_same {w : World} {p1 p2 : Option Addr} {n c1 c2 : Nat} {l : List Int} (h1 : Vw 1 wC w (.slice p1 n c1) l) (h2 : Vw 1 wC w (.slice p2 n c2) l) (hn : n = l.length) (hl : n ≤ 1000) :
    Calls Tryz.prog 94 #[.slice p1 n c1, .slice p2 n c2] w fun r w' => r = .returned (.bool true) ∧ Below w.heap.size w w' := by
  have hli : (n : Int) ≤ 1000 := by omega
  have HG := hid (⟨h1, h2, hn⟩ : _ ∧ _ ∧ _)
  clear h1 h2 hn hl
  go_enter Tryz.func94, Tryz.ntmps94
  go_wp2
  go_loopg [5] n (fun gg s5 wr => ∃ j : Nat, j ≤ n ∧ n - j ≤ gg ∧ s5 = .int .i64 j ∧ Hid (Below w.heap.size w wr))
  case atStart => exact ⟨0, by omega, by omega, rfl, hid (Below.refl _ _)⟩
  case round =>
    obtain ⟨j, hj, hgg, rfl, HI⟩ := hrel
    by_cases hje : j < n
    · obtain ⟨x, hx⟩ : ∃ x, l[j]? = some x := ⟨_, List.getElem?_eq_getElem (by rw [← HG.out.2.2]; exact hje)⟩
      have hne : l ≠ [] := by rintro rfl; simp at hx
      obtain ⟨b1, o1, _, e1, _, hb1, k1⟩ := HG.out.1.ex hne
      obtain ⟨b2, o2, _, e2, _, hb2, k2⟩ := HG.out.2.1.ex hne
      injection e1 with e1 e3 e4
      injection e2 with e2 e5 e6
      subst e1 e2
      clear e3 e4 e5 e6
      have HC : Hid (∀ W, BelC wr W → W.cell? ⟨b1, o1 + j, none⟩ = some (.int .i64 x) ∧ W.cell? ⟨b2, o2 + j, none⟩ = some (.int .i64 x)) := hid fun W hW => by
        have hb := HI.out.trans (hW.out.mono HI.out.size)
        have q1 := k1 j x hx 0 _ rfl
        have q2 := k2 j x hx 0 _ rfl
        rw [Nat.mul_one, Nat.add_zero] at q1 q2
        exact ⟨(World.cell?_of_block (hb.block b1 hb1)).trans q1, (World.cell?_of_block (hb.block b2 hb2)).trans q2⟩
      have hji : (j : Int) < (n : Int) := by omega
      have HDR := hid (BelC.drew wr)
      clear hx hne k1 k2 hb1 hb2
      obtain ⟨wo, hwo⟩ : ∃ wo, wo = wr := ⟨_, rfl⟩
      subst hwo
      go_wp2
      refine qC_region (by kernel_rfl) (by kernel_rfl) (BelC wo) HDR.out ?_
      repeat (first | (refine qC_none rfl (fun K hK => ?_); apply Exists.intro; refine ⟨fun w0 hw0 => ?_, ?_⟩; (focus (obtain ⟨q0, q1⟩ := HC.out w0 hw0; go_simp; first | exact rfl | exact ⟨rfl, rfl⟩ | (fail))); go_simp; refine hK _ ?_; clear hK K) | (refine qC_yes _ _ _ rfl rfl (by rfl) (fun K hK => ?_); apply Exists.intro; refine ⟨fun w0 hw0 => ?_, ?_⟩; (focus (obtain ⟨q0, q1⟩ := HC.out w0 hw0; go_simp; first | exact rfl | exact ⟨rfl, rfl⟩ | (fail))); go_simp; refine hK _ ?_; clear hK K) | (refine qC_no _ _ _ rfl rfl (by rfl) (fun K hK => ?_); go_simp; refine hK _ ?_; clear hK K) | (refine qC_undef _ _ _ rfl rfl (by rfl) (fun K hK => ?_); go_simp; refine hK _ ?_; clear hK K))
      refine qC_nil ?_
      intro w5 hw5
      have HI5 := hid (HI.out.trans (hw5.out.mono HI.out.size))
      clear hw5
      go_wp2
      go_roundg (n - (j + 1))
      case measure => omega
      case rel => exact ⟨j + 1, by omega, by omega, by go_num, HI5⟩
    · have hji : ¬ ((j : Int) < (n : Int)) := by omega
      go_wp2
      go_ret
      exact ⟨rfl, HI.out⟩
set_option maxHeartbeats 4000000 in
theorem same08_any {w : World} {p1 p2 : Option Addr} {n c1 c2 : Nat} {st : Sta} (h1 : Vw 1 wC w (.slice p1 n c1) st.words) (h2 : Vw 1 wC w (.slice p2 n c2) st.words) (hn : n = st.words.length) (hl : n ≤ 1000) :
    Calls Tryz.prog 31 #[staV p1 n c1 st, staV p2 n c2 st] w fun r w' => r = .returned (.bool true) ∧ Below w.heap.size w w' := by
  unfold staV
  obtain ⟨W1, hW1⟩ : ∃ W1, W1 = (w.alloc (.cells #[.slice p1 n c1, .int .i64 st.sent, .int .i64 st.dice] 29)).alloc (.cells #[.slice p2 n c2, .int .i64 st.sent, .int .i64 st.dice] 29) := ⟨_, rfl⟩
  have hb1 : Below w.heap.size w W1 := by rw [hW1]; exact ((Below.refl _ w).alloc (Nat.le_refl _) _).alloc (by simp) _
  have hB1 : Blk W1 w.heap.size 29 #[.slice p1 n c1, .int .i64 st.sent, .int .i64 st.dice] := by rw [hW1]; exact (Blk.new w _ _).alloc _
  have hB2 : Blk W1 (w.heap.size + 1) 29 #[.slice p2 n c2, .int .i64 st.sent, .int .i64 st.dice] := by
    rw [hW1]
    have := Blk.new (w.alloc (.cells #[.slice p1 n c1, .int .i64 st.sent, .int .i64 st.dice] 29)) 29 #[.slice p2 n c2, .int .i64 st.sent, .int .i64 st.dice]
    simpa using this
  have HS := hid (ints_same (h1.below hb1) (h2.below hb1) hn hl)
  rw [hW1] at HS
  have HX := hid (⟨hb1, hB1, hB2⟩ : _ ∧ _ ∧ _)
  have HW1 := hid hW1
  clear hb1 hB1 hB2 hW1 h1 h2 hn hl
  go_enter Tryz.func31, Tryz.ntmps31
  go_wp2_with fail
  (with_reducible refine HS.out.mono ?_)
  rintro r W2 ⟨rfl, hb2⟩
  rw [← HW1.out] at hb2
  have h1 := HX.out.2.1.below hb2 HX.out.2.1.lt
  have h2 := HX.out.2.2.below hb2 HX.out.2.2.lt
  have p3 : W2.cell? ⟨w.heap.size, 1, none⟩ = some (.int .i64 st.sent) := h1.cell 1
  have p4 : W2.cell? ⟨w.heap.size, 2, none⟩ = some (.int .i64 st.dice) := h1.cell 2
  have q3 : W2.cell? ⟨w.heap.size + 1, 1, none⟩ = some (.int .i64 st.sent) := h2.cell 1
  have q4 : W2.cell? ⟨w.heap.size + 1, 2, none⟩ = some (.int .i64 st.dice) := h2.cell 2
  have HF := hid (HX.out.1.trans (hb2.mono HX.out.1.size))
  clear hb2 h1 h2
  go_wp2
  go_ret
  exact ⟨rfl, HF.out⟩
end Go.Proofs.YtnnghcooidjlhaaGreat
end
section
set_option linter.unusedSimpArgs false
set_option linter.unusedVariables false
set_option maxRecDepth 100000
namespace Go.Proofs.YtnnghcooidjlhaaGreat
open Go.RowKit Go.Lib
def RK (R : List KV → Prop) (lp : Int) : Prop :=
  (∀ M k v, AscM M → R M → R (setM M (hdP 3 lp ++ k) v)) ∧ ∀ M fr to, R M → R (M.filter fun a => !inR (hdP 3 lp ++ fr) (toK (hdP 3 lp) to) a.1)
def TR : List KV → Prop := fun _ => True
theorem TR.rk (lp : Int) : RK TR lp := ⟨fun _ _ _ _ _ => trivial, fun _ _ _ _ => trivial⟩
structure SnI (R : List KV → Prop) (w : World) (xb : Nat) (s : SL) (lp : Int) (O : List Nat) (N : Nat) (l : List Sn) : Prop where
  b : SnX w xb s lp
  no : xb ∉ s.sb :: s.tb :: O
  hlp : 0 ≤ lp ∧ lp < 6
  m : ∃ M, StI w s O N M ∧ SnM M lp l ∧ longs M ≤ N ∧ R M
  rk : RK R lp
section
variable {R : List KV → Prop} {w w' : World} {xb : Nat} {s : SL} {lp : Int} {O : List Nat} {N : Nat} {l : List Sn}
theorem SnI.below (h : SnI R w xb s lp O N l) (hb : Below w.heap.size w w') : SnI R w' xb s lp O N l := by
  obtain ⟨M, h1, h2, h3⟩ := h.m
  exact ⟨Blk.below h.b hb (Blk.lt h.b), h.no, h.hlp, ⟨M, h1.below hb, h2, h3⟩, h.rk⟩
theorem SnI.lts (h : SnI R w xb s lp O N l) : ∀ b ∈ xb :: s.sb :: s.tb :: O, b < w.heap.size := by
  obtain ⟨M, h1, h2, h3⟩ := h.m
  intro b hb
  rcases List.mem_cons.1 hb with rfl | hb
  · exact Blk.lt h.b
  · exact h1.lts b hb
theorem SnI.noO (h : SnI R w xb s lp O N l) : xb ∉ O := fun hm => h.no (by simp [hm])
theorem SnI.turn {O' : List Nat} {N' : Nat} {l' : List Sn} {M' : List KV} (h : SnI R w xb s lp O N l) (hk : Kp O w w') (hg : Gr O w.heap.size O') (hs : StI w' s O' N' M') (hf : SnM M' lp l') (hl : longs M' ≤ N' ∧ R M') : SnI R w' xb s lp O' N' l' := by
  have hno := h.no
  simp only [List.mem_cons, not_or] at hno
  refine ⟨Blk.kp h.b hk hno.2.2, ?_, h.hlp, ⟨M', hs, hf, hl⟩, h.rk⟩
  simp only [List.mem_cons, not_or]
  exact ⟨hno.1, hno.2.1, hg.out (Blk.lt h.b) hno.2.2⟩
theorem sn_take (h : SnI R w xb s lp O N l) (hN : N ≤ 50) {k : Bs} (hk : k.length ≤ 29) {p : Option Addr} {n c : Nat} {st : Sta} (hv : Vw 1 wC w (.slice p n c) st.words) (hn : n = st.words.length) (hr : st.right) (ho : st.ok) :
    Calls Tryz.prog 22 #[.pointer (some ⟨xb, 0, none⟩), .string (S k), staV p n c st] w fun e w' => ∃ O', e = .returned (.int .i64 0) ∧ SnI R w' xb s lp O' (N + 1) (setS l ⟨k, st⟩) ∧ Kp O w w' ∧ Gr O w.heap.size O' := by
  obtain ⟨M, h1, h2, h3⟩ := h.m
  refine (stake_any h.b h1 h.noO h.hlp hk hv hn hr ho (.inl ⟨by omega, by omega⟩)).mono ?_
  rintro e w' ⟨O', rfl, hS, hK, hG⟩
  refine ⟨O', rfl, h.turn hK hG hS (h2.set h1.asc (x := ⟨k, st⟩) ⟨hk, hr, ho⟩) ⟨?_, h.rk.1 _ _ _ h1.asc h3.2⟩, hK, hG⟩
  have := longs_set h1.asc (hdP 3 lp ++ k) (staB st)
  have e2 : (if 40 < (staB st).length then 1 else 0) ≤ 1 := by split <;> omega
  omega
theorem sn_ahead_some (h : SnI R w xb s lp O N l) {k : Bs} (hk : k.length ≤ 29) (hk0 : k ≠ []) {x : Sn} (hl : (belowS l k).getLast? = some x) :
    Calls Tryz.prog 23 #[.pointer (some ⟨xb, 0, none⟩), .string (S k)] w fun r w' => ∃ p n c, r = .returned (.tuple #[.string (S x.k), staV p n c x.st, .int .i64 0]) ∧ n = x.st.words.length ∧ Vw 1 wC w' (.slice p n c) x.st.words ∧ (∀ b, (Value.slice p n c).ownBlock = some b → w.heap.size ≤ b) ∧ SnI R w' xb s lp O N l ∧ Kp O w w' := by
  obtain ⟨M, h1, h2, h3⟩ := h.m
  refine (sahead_some h.b h1 h.noO h.hlp h2 hk hk0 hl).mono ?_
  rintro e w' ⟨p, n, c, rfl, e1, e2, e3, hS, hK⟩
  exact ⟨p, n, c, rfl, e1, e2, e3, h.turn hK (Gr.refl _ _) hS h2 h3, hK⟩
end
theorem begun25_no (lp : Int) (h : ¬ (0 ≤ lp ∧ lp < 6)) (w : World) :
    Calls Tryz.prog 19 #[.int .i64 lp] w fun e w' => e = .returned (.pointer none) ∧ Below w.heap.size w w' := by
  have HB := hid (begun_any w)
  have HO := hid (fun p W => snof_bad p lp h W)
  clear h
  go_enter Tryz.func19, Tryz.ntmps19
  go_wp2_with fail
  (with_reducible refine HB.out.mono ?_)
  rintro r W1 ⟨s, O, rfl, hS, hb, ho⟩
  have HX := hid hb
  clear hS hb ho
  go_wp2_with fail
  (with_reducible refine (HO.out _ _).mono ?_)
  rintro r W2 ⟨rfl, rfl⟩
  go_wp2
  go_ret
  exact ⟨rfl, HX.out⟩
set_option maxHeartbeats 4000000 in
theorem begun25_any (lp : Int) (h : 0 ≤ lp ∧ lp < 6) (w : World) :
    Calls Tryz.prog 19 #[.int .i64 lp] w fun e w' => ∃ xb s O, e = .returned (.pointer (some ⟨xb, 0, none⟩)) ∧ SnI TR w' xb s lp O 0 [] ∧ Below w.heap.size w w' ∧ ∀ b ∈ xb :: s.sb :: s.tb :: O, w.heap.size ≤ b := by
  have HB := hid (begun_any w)
  have HO := hid (fun s W => snof_any s lp h W)
  have HLP := hid h
  clear h
  go_enter Tryz.func19, Tryz.ntmps19
  go_wp2_with fail
  (with_reducible refine HB.out.mono ?_)
  rintro r W1 ⟨s, O, rfl, hS, hb, ho⟩
  have HX := hid (⟨hS, hb, ho⟩ : _ ∧ _ ∧ _)
  clear hS hb ho
  go_wp2_with fail
  (with_reducible refine (HO.out _ _).mono ?_)
  rintro r W2 ⟨rfl, hw2⟩
  obtain ⟨hS, hb, ho⟩ := HX.out
  have hb2 : Below W1.heap.size W1 W2 := by rw [← hw2]; exact (Below.refl _ W1).alloc (Nat.le_refl _) _
  have hB2 : SnX W2 W1.heap.size s lp := by rw [← hw2]; exact Blk.new W1 _ _
  have HF : Hid (SnI TR W2 W1.heap.size s lp O 0 [] ∧ Below w.heap.size w W2 ∧ ∀ b ∈ W1.heap.size :: s.sb :: s.tb :: O, w.heap.size ≤ b) := hid ⟨⟨hB2, fun hm => by have := hS.lts _ hm; omega, HLP.out, ⟨[], hS.below hb2, SnM.nil lp, by simp [longs], trivial⟩, TR.rk lp⟩, hb.trans (hb2.mono hb.size), fun b hm => by
    rcases List.mem_cons.1 hm with rfl | hm
    · exact hb.size
    · exact ho b hm⟩
  clear hS hb ho hb2 hB2 hw2
  go_wp2
  go_ret
  exact ⟨_, s, O, rfl, HF.out⟩
end Go.Proofs.YtnnghcooidjlhaaGreat
end
section
set_option linter.unusedSimpArgs false
set_option linter.unusedVariables false
set_option maxRecDepth 100000
namespace Go.Proofs.YtnnghcooidjlhaaGreat
open Go.RowKit Go.Lib
def awS (j : Nat) : Sta := if j = 0 then ⟨[], 1, 0⟩ else if j = 1 then ⟨[5], 0, 0⟩ else ⟨[], 0, 0⟩
def awK (j : Nat) : Bs := if j = 0 then [] else if j = 1 then [97] else [99]
theorem aw_list : (belowS (setS (setS (setS [] ⟨awK 0, awS 0⟩) ⟨awK 1, awS 1⟩) ⟨awK 2, awS 2⟩) [98]).getLast? = some ⟨[97], awS 1⟩ := by
  rfl
theorem awS_ok (j : Nat) : (awS j).right ∧ (awS j).ok := by
  unfold awS
  split
  · exact ⟨by decide, by simp [Sta.ok]⟩
  split
  · exact ⟨by decide, by simp [Sta.ok]⟩
  · exact ⟨by decide, by simp [Sta.ok]⟩
set_option maxHeartbeats 8000000 in
theorem awake25_any (w : World) :
    Calls Tryz.prog 20 #[] w fun e w' => e = .returned (.bool true) ∧ Below w.heap.size w w' := by
  have HB := hid (begun25_any 3 (by omega) w)
  go_enter Tryz.func20, Tryz.ntmps20
  go_wp2_with fail
  (with_reducible refine HB.out.mono ?_)
  rintro r W1 ⟨xb, s, O, rfl, hI, hb, ho⟩
  have HT := hid (sn_take hI (by omega) (k := awK 0) (by decide) (st := awS 0) (Vw.nil 1 wC W1 none 0) rfl (awS_ok 0).1 (awS_ok 0).2)
  rw [show S (awK 0) = ⟨#[]⟩ from rfl, show staV none 0 0 (awS 0) = .agg #[.slice none 0 0, .int .i64 1, .int .i64 0] from rfl] at HT
  have HX := hid (⟨hb, ho⟩ : _ ∧ _)
  clear hI hb ho
  go_wp2_with fail
  (with_reducible refine HT.out.mono ?_)
  rintro r W2 ⟨O2, rfl, hI2, hk2, hg2⟩
  have h2b : Below w.heap.size w W2 := HX.out.1.trans (hk2.to_below HX.out.1.size (fun x hx => HX.out.2 x (by simp [hx])))
  have h2o : ∀ b ∈ O2, w.heap.size ≤ b := fun b hm => by
    rcases hg2 b hm with h | h
    · exact HX.out.2 b (by simp [h])
    · exact Nat.le_trans HX.out.1.size h
  obtain ⟨W3, hW3⟩ : ∃ W3, W3 = W2.alloc (.cells #[.int .i64 5] 3) := ⟨_, rfl⟩
  have hb3 : Below W2.heap.size W2 W3 := by rw [hW3]; exact (Below.refl _ W2).alloc (Nat.le_refl _) _
  have hB3 : Blk W3 W2.heap.size 3 #[.int .i64 5] := by rw [hW3]; exact Blk.new W2 _ _
  have hv3 : Vw 1 wC W3 (.slice (some ⟨W2.heap.size, 0, none⟩) 1 1) [5] := Vw.one hB3 (Nat.le_refl _)
  have HT3 := hid (sn_take (hI2.below hb3) (by omega) (k := awK 1) (by decide) (st := awS 1) hv3 rfl (awS_ok 1).1 (awS_ok 1).2)
  rw [show S (awK 1) = ⟨#[97]⟩ from rfl, show staV (some ⟨W2.heap.size, 0, none⟩) 1 1 (awS 1) = .agg #[.slice (some ⟨W2.heap.size, 0, none⟩) 1 1, .int .i64 0, .int .i64 0] from rfl, hW3] at HT3
  have HX3 := hid (⟨h2b.trans (hb3.mono h2b.size), h2o⟩ : _ ∧ _)
  have HW3 := hid hW3
  clear hI2 hk2 hg2 h2b h2o hb3 hB3 hv3 hW3
  go_wp2_with fail
  (with_reducible refine HT3.out.mono ?_)
  rintro r W4 ⟨O4, rfl, hI4, hk4, hg4⟩
  rw [← HW3.out] at hk4 hg4
  have HT4 := hid (sn_take hI4 (by omega) (k := awK 2) (by decide) (st := awS 2) (Vw.nil 1 wC W4 none 0) rfl (awS_ok 2).1 (awS_ok 2).2)
  rw [show S (awK 2) = ⟨#[99]⟩ from rfl, show staV none 0 0 (awS 2) = .agg #[.slice none 0 0, .int .i64 0, .int .i64 0] from rfl] at HT4
  have h4b : Below w.heap.size w W4 := HX3.out.1.trans (hk4.to_below HX3.out.1.size (fun x hx => HX3.out.2 x hx))
  have h4o : ∀ b ∈ O4, w.heap.size ≤ b := fun b hm => by
    rcases hg4 b hm with h | h
    · exact HX3.out.2 b h
    · exact Nat.le_trans HX3.out.1.size h
  have HX4 := hid (⟨h4b, h4o⟩ : _ ∧ _)
  clear hI4 hk4 hg4 h4b h4o
  go_wp2_with fail
  (with_reducible refine HT4.out.mono ?_)
  rintro r W5 ⟨O5, rfl, hI5, hk5, hg5⟩
  have h5b : Below w.heap.size w W5 := HX4.out.1.trans (hk5.to_below HX4.out.1.size (fun x hx => HX4.out.2 x hx))
  have h5o : ∀ b ∈ O5, w.heap.size ≤ b := fun b hm => by
    rcases hg5 b hm with h | h
    · exact HX4.out.2 b h
    · exact Nat.le_trans HX4.out.1.size h
  have HA := hid (sn_ahead_some hI5 (k := [98]) (by decide) (by decide) aw_list)
  rw [show S [98] = ⟨#[98]⟩ from rfl, show S [97] = ⟨#[97]⟩ from rfl] at HA
  have HX5 := hid (⟨h5b, h5o, hI5.noO⟩ : _ ∧ _ ∧ _)
  clear hI5 hk5 hg5 h5b h5o
  go_wp2_with fail
  (with_reducible refine HA.out.mono ?_)
  rintro r W6 ⟨p, n, c, rfl, hn, hv, ho6, hI6, hk6⟩
  rw [show (awS 1).words = [5] from rfl] at hn hv
  obtain ⟨b, off, c', e, hc', hbl, hcx⟩ := hv.ex (by simp)
  injection e with e1 e2 e3
  subst e1
  have hn1 : n = 1 := by simpa using hn
  subst hn1
  subst e3
  unfold staV
  rw [show (awS 1).sent = 0 from rfl, show (awS 1).dice = 0 from rfl]
  have h6b : Below w.heap.size w W6 := HX5.out.1.trans (hk6.to_below HX5.out.1.size (fun x hx => HX5.out.2.1 x hx))
  obtain ⟨W7, hW7⟩ : ∃ W7, W7 = W6.alloc (.cells #[.slice (some ⟨b, off, none⟩) 1 c, .int .i64 0, .int .i64 0] 29) := ⟨_, rfl⟩
  have hb7 : Below W6.heap.size W6 W7 := by rw [hW7]; exact (Below.refl _ W6).alloc (Nat.le_refl _) _
  have hB7 : Blk W7 W6.heap.size 29 #[.slice (some ⟨b, off, none⟩) 1 c, .int .i64 0, .int .i64 0] := by rw [hW7]; exact Blk.new W6 _ _
  have hc7 : W7.cell? ⟨b, off, none⟩ = some (.int .i64 5) := by
    have := hcx 0 5 rfl 0 _ rfl
    rw [Nat.zero_mul] at this
    exact (World.cell?_of_block (hb7.block b hbl)).trans this
  have hb67 := h6b.trans (hb7.mono h6b.size)
  have H7 := hid (⟨hb67, hB7, hc7, Nat.lt_of_lt_of_le hbl hb7.size⟩ : _ ∧ _ ∧ _ ∧ _)
  have HN := hid (sahead_no (some ⟨xb, 0, none⟩) [] 9 (.inr (.inr ⟨by simp, rfl, rfl⟩)) W7)
  rw [show S [] = ⟨#[]⟩ from rfl, hW7] at HN
  have HW7 := hid hW7
  clear hv hn hcx hbl hc' e2 ho6 hI6 hk6 h6b hb7 hB7 hc7 hb67 hW7
  go_wp2_with fail
  (with_reducible refine HN.out.mono ?_)
  rintro r W8 ⟨rfl, hb8⟩
  rw [← HW7.out] at hb8
  unfold sta0
  obtain ⟨W9, hW9⟩ : ∃ W9, W9 = W8.alloc (.cells #[.slice none 0 0, .int .i64 0, .int .i64 0] 29) := ⟨_, rfl⟩
  have hb9 : Below W8.heap.size W8 W9 := by rw [hW9]; exact (Below.refl _ W8).alloc (Nat.le_refl _) _
  have hb79 : Below W7.heap.size W7 W9 := hb8.trans (hb9.mono hb8.size)
  have hB9 := H7.out.2.1.below hb79 H7.out.2.1.lt
  have d0 : W9.cell? ⟨W6.heap.size, 0, none⟩ = some (.slice (some ⟨b, off, none⟩) 1 c) := hB9.cell 0
  have d1 : W9.cell? ⟨b, off, none⟩ = some (.int .i64 5) := (World.cell?_of_block (hb79.block b H7.out.2.2.2)).trans H7.out.2.2.1
  have HF := hid (H7.out.1.trans (hb79.mono H7.out.1.size))
  have HW9 := hid hW9
  rw [hW9] at d0 d1
  clear hb8 hb9 hb79 hB9 hW9
  go_wp2
  go_ret
  rw [← HW9.out]
  exact ⟨rfl, HF.out⟩
end Go.Proofs.YtnnghcooidjlhaaGreat
end
section
set_option linter.unusedSimpArgs false
set_option linter.unusedVariables false
set_option maxRecDepth 100000
namespace Go.Proofs.YtnnghcooidjlhaaGreat
open Go.RowKit Go.Lib
set_option maxHeartbeats 8000000 in
theorem snone25_any (kd : Int) (k : Bs) (p : Option Addr) (n c : Nat) (st : Sta) (lp : Int) (w : World) :
    Calls Tryz.prog 6 #[.agg #[.int .i64 kd, .string (S k), .slice p n c, .int .i64 st.sent, .int .i64 st.dice], .int .i64 lp] w fun r w' => r = .returned (.bool true) ∧ Below w.heap.size w w' := by
  obtain ⟨W1, hW1⟩ : ∃ W1, W1 = w.alloc (.cells #[.int .i64 kd, .string (S k), .slice p n c, .int .i64 st.sent, .int .i64 st.dice] 31) := ⟨_, rfl⟩
  have hb1 : Below w.heap.size w W1 := by rw [hW1]; exact (Below.refl _ w).alloc (Nat.le_refl _) _
  have hB1 : Blk W1 w.heap.size 31 #[.int .i64 kd, .string (S k), .slice p n c, .int .i64 st.sent, .int .i64 st.dice] := by rw [hW1]; exact Blk.new w _ _
  have HA := hid (sahead_no none k 1 (.inl ⟨rfl, rfl⟩) W1)
  have HK := hid (fun W => skeys_nil W)
  have HFR := hid (fun W => sfrom_nil (S k) W)
  have HBL := hid (fun W => sbelow_nil (S k) W)
  have HO := hid (fun W => snof_nil lp W)
  have HBG := hid (fun W => begun_any W)
  have HAW := hid (fun W => awake25_any W)
  have HT := hid (fun W => stake_nil (S k) p n c st W)
  unfold staV at HT
  unfold sta0 at HA
  rw [hW1] at HA
  have HX := hid (⟨hb1, hB1⟩ : _ ∧ _)
  have HW1 := hid hW1
  clear hb1 hB1 hW1
  go_enter Tryz.func6, Tryz.ntmps6
  go_wp2_with fail
  (with_reducible refine HA.out.mono ?_)
  rintro r W2 ⟨rfl, hb2⟩
  rw [← HW1.out] at hb2
  obtain ⟨W3, hW3⟩ : ∃ W3, W3 = W2.alloc (.cells #[.slice none 0 0, .int .i64 0, .int .i64 0] 29) := ⟨_, rfl⟩
  have hb3 : Below W2.heap.size W2 W3 := by rw [hW3]; exact (Below.refl _ W2).alloc (Nat.le_refl _) _
  have hB3 : Blk W3 W2.heap.size 29 #[.slice none 0 0, .int .i64 0, .int .i64 0] := by rw [hW3]; exact Blk.new W2 _ _
  have hb13 := hb2.trans (hb3.mono hb2.size)
  have hA3 := HX.out.2.below hb13 HX.out.2.lt
  have a1 : W3.cell? ⟨w.heap.size, 1, none⟩ = some (.string (S k)) := hA3.cell 1
  have H3 := hid (⟨HX.out.1.trans (hb13.mono HX.out.1.size), hA3, hB3⟩ : _ ∧ _ ∧ _)
  have HW3 := hid hW3
  rw [hW3] at a1
  clear hb2 hb3 hB3 hb13 hA3 hW3
  go_wp2_with (first
      | (go_at_call 24; refine (HK.out _).mono ?_; rintro e w' ⟨rfl, rfl⟩)
      | (go_at_call 28; refine (HFR.out _).mono ?_; rintro e w' ⟨rfl, rfl⟩)
      | (go_at_call 30; refine (HBL.out _).mono ?_; rintro e w' ⟨rfl, rfl⟩)
      | (go_at_call 27; refine (HO.out _).mono ?_; rintro e w' ⟨rfl, rfl⟩))
  rw [← HW3.out]
  (with_reducible refine (HBG.out _).mono ?_)
  rintro r W4 ⟨s, O, rfl, hS, hb4, _⟩
  have H4 := hid (H3.out.1.trans (hb4.mono H3.out.1.size))
  have HB4 := hid hb4
  clear hS hb4 a1
  have hc : (0 ≤ lp ∧ lp < 6) ∨ (¬ 0 ≤ lp) ∨ (0 ≤ lp ∧ ¬ lp < 6) := by omega
  rcases hc with ⟨h0, h1⟩ | h0 | ⟨h0, h1⟩
  case' inl => have HOF : Hid (∀ W, Calls Tryz.prog 27 #[.pointer (some ⟨s.sb, 0, none⟩), .int .i64 lp] W fun e w' => ∃ g : Addr, e = .returned (.tuple #[.pointer (some g), .int .i64 0]) ∧ Below W.heap.size W w') := hid fun W => (snof_any s lp ⟨h0, h1⟩ W).mono fun e w' ⟨h1, h2⟩ => ⟨_, h1, by rw [← h2]; exact (Below.refl _ W).alloc (Nat.le_refl _) _⟩
  case' inr.inl => have HOF : Hid (∀ W, Calls Tryz.prog 27 #[.pointer (some ⟨s.sb, 0, none⟩), .int .i64 lp] W fun e w' => ∃ g : Nat, e = .returned (.tuple #[.pointer none, .int .i64 2]) ∧ Below W.heap.size W w') := hid fun W => (snof_bad _ lp (by omega) W).mono fun e w' ⟨h1, h2⟩ => ⟨0, h1, by rw [← h2]; exact Below.refl _ W⟩
  case' inr.inr => have HOF : Hid (∀ W, Calls Tryz.prog 27 #[.pointer (some ⟨s.sb, 0, none⟩), .int .i64 lp] W fun e w' => ∃ g : Nat, e = .returned (.tuple #[.pointer none, .int .i64 2]) ∧ Below W.heap.size W w') := hid fun W => (snof_bad _ lp (by omega) W).mono fun e w' ⟨h1, h2⟩ => ⟨0, h1, by rw [← h2]; exact Below.refl _ W⟩
  all_goals
    go_wp2_with fail
    (with_reducible refine (HOF.out _).mono ?_)
    rintro r W5 ⟨g, rfl, hb5⟩
    have hb35 : Below W3.heap.size W3 W5 := HB4.out.trans (hb5.mono HB4.out.size)
    have H5 := hid hb35
    clear hb5 hb35
    go_wp2_with fail
    (with_reducible refine (HAW.out _).mono ?_)
    rintro r W6 ⟨rfl, hb6⟩
    have hb36 : Below W3.heap.size W3 W6 := H5.out.trans (hb6.mono H5.out.size)
    have hv := Vw.nil (α := Int) 1 wC W6 none 0
    have HS := hid (same08_any (st := ⟨[], 0, 0⟩) hv hv rfl (by omega))
    unfold staV at HS
    have hB6 := H3.out.2.2.below hb36 H3.out.2.2.lt
    have b0 : W6.cell? ⟨W2.heap.size, 0, none⟩ = some (.slice none 0 0) := hB6.cell 0
    have b1 : W6.cell? ⟨W2.heap.size, 1, none⟩ = some (.int .i64 0) := hB6.cell 1
    have b2 : W6.cell? ⟨W2.heap.size, 2, none⟩ = some (.int .i64 0) := hB6.cell 2
    have H6 := hid hb36
    clear hb6 hb36 hv hB6
    go_wp2_with fail
    (with_reducible refine HS.out.mono ?_)
    rintro r W7 ⟨rfl, hb7⟩
    have hb37 : Below W3.heap.size W3 W7 := H6.out.trans (hb7.mono H6.out.size)
    have hA7 := H3.out.2.1.below hb37 H3.out.2.1.lt
    have a1 : W7.cell? ⟨w.heap.size, 1, none⟩ = some (.string (S k)) := hA7.cell 1
    have a2 : W7.cell? ⟨w.heap.size, 2, none⟩ = some (.slice p n c) := hA7.cell 2
    have a3 : W7.cell? ⟨w.heap.size, 3, none⟩ = some (.int .i64 st.sent) := hA7.cell 3
    have a4 : W7.cell? ⟨w.heap.size, 4, none⟩ = some (.int .i64 st.dice) := hA7.cell 4
    have H7 := hid (H3.out.1.trans (hb37.mono H3.out.1.size))
    clear hb7 hb37 hA7 b0 b1 b2
    go_wp2_with fail
    (with_reducible refine (HT.out _).mono ?_)
    rintro r W8 ⟨rfl, hb8⟩
    have H8 := hid (H7.out.trans (hb8.mono H7.out.size))
    clear hb8 a1 a2 a3 a4
    go_wp2
    go_ret
    exact ⟨by first | rfl | simp [h0, h1], H8.out⟩
end Go.Proofs.YtnnghcooidjlhaaGreat
end
section
set_option linter.unusedSimpArgs false
set_option maxRecDepth 100000
namespace Go.Proofs.YtnnghcooidjlhaaGreat
open Go.ChangeShapes Go.WideShapes Go.ChangeAt Go.RowKit Go.Deep
theorem cellsInts : Tryz.prog.cellsOf 27 = 1 := by kernel_rfl
theorem cellsString : Tryz.prog.cellsOf 9 = 1 := by kernel_rfl
theorem cellsState : Tryz.prog.cellsOf 29 = 3 := by kernel_rfl
theorem cellsAct25 : Tryz.prog.cellsOf 31 = 5 := by kernel_rfl
structure A25 where
  kd : Int
  k : Bs
  p : Option Addr
  c : Nat
  st : Sta
def a25C (a : A25) : List Value := [.int .i64 a.kd, .string (S a.k), .slice a.p a.st.words.length a.c, .int .i64 a.st.sent, .int .i64 a.st.dice]
theorem a25C_len (a : A25) : (a25C a).length = 5 := rfl
section
variable {H : Type} {enc : TypeId × Value → H} {w : World} {spare : Nat → Bool} {held : Bool} {fuel : Nat}
theorem leaf_string {P : Program} {base : Nat} {t : TypeId} {n : Nat} {c : Value} {x : DataW H × List MemPlace} (hu : P.underlying t = some .string) (h : DataW.trod enc P w base spare held n t [c] = some x) : ∃ k : Bs, c = .string (S k) := by
  cases n with
  | zero => cases h
  | succ n =>
    cases c <;> simp [DataW.trod, hu] at h
    rename_i z
    exact ⟨z.data.toList, rfl⟩
theorem open_ints {v : Value} {x : DataW H × List MemPlace} (h : DataW.trod enc Tryz.prog w 0 spare held fuel 27 [v] = some x) :
    ∃ (p : Option Addr) (n c : Nat) (l : List Int), v = .slice p n c ∧ n = l.length ∧ Vw 1 wC w (.slice p n c) l ∧ ∀ y ∈ l, -9223372036854775808 ≤ y ∧ y < 9223372036854775808 :=
  open_rows (R := fun y : Int => -9223372036854775808 ≤ y ∧ y < 9223372036854775808) 0 Tryz.underlying27 cellsInt (by decide) wC_len (fun fuel cs x h => by
    cases fuel with
    | zero => cases h
    | succ n =>
      have hl : cs.length = 1 := by
        have := h
        match cs, this with
        | [c], _ => rfl
        | [], h => simp [DataW.trod, Tryz.underlying3] at h
        | _ :: _ :: _, h => simp [DataW.trod, Tryz.underlying3] at h
      match cs, hl with
      | [c], _ =>
        obtain ⟨z, rfl, hz⟩ := leaf_int Tryz.underlying3 h
        exact ⟨z, rfl, wf_int hz⟩) h
theorem open_act25 {cs : List Value} {x : DataW H × List MemPlace} (h : DataW.trod enc Tryz.prog w 0 spare held fuel 31 cs = some x) :
    ∃ a : A25, cs = a25C a ∧ Vw 1 wC w (.slice a.p a.st.words.length a.c) a.st.words ∧ a.st.ok ∧ (-9223372036854775808 ≤ a.st.sent ∧ a.st.sent < 9223372036854775808) ∧ (-9223372036854775808 ≤ a.st.dice ∧ a.st.dice < 9223372036854775808) := by
  cases fuel with
  | zero => cases h
  | succ n =>
    obtain ⟨hl, hf⟩ := trod_fields Tryz.underlying31 h
    rw [cellsAct25] at hl
    match cs, hl with
    | [c0, c1, c2, c3, c4], _ =>
      simp [cellsState, cellsInt, cellsString] at hf
      obtain ⟨⟨_, _, h0⟩, ⟨_, _, h1⟩, ⟨_, _, hs⟩⟩ := hf
      obtain ⟨z0, rfl, w0⟩ := leaf_int Tryz.underlying3 h0
      obtain ⟨k, rfl⟩ := leaf_string Tryz.underlying9 h1
      cases n with
      | zero => cases hs
      | succ n =>
        obtain ⟨_, hf⟩ := trod_fields Tryz.underlying29 hs
        simp [cellsInt, cellsInts] at hf
        obtain ⟨⟨_, _, h2⟩, ⟨_, _, h3⟩, ⟨_, _, h4⟩⟩ := hf
        obtain ⟨p, n, c, l, rfl, rfl, hv, hok⟩ := open_ints h2
        obtain ⟨z3, rfl, w3⟩ := leaf_int Tryz.underlying3 h3
        obtain ⟨z4, rfl, w4⟩ := leaf_int Tryz.underlying3 h4
        exact ⟨⟨z0, k, p, c, ⟨l, z3, z4⟩⟩, rfl, hv, hok, wf_int w3, wf_int w4⟩
end
end Go.Proofs.YtnnghcooidjlhaaGreat
end
section
set_option linter.unusedSimpArgs false
set_option linter.unusedVariables false
set_option maxRecDepth 100000
namespace Go.Proofs.YtnnghcooidjlhaaGreat
open Go.RowKit Go.Lib
structure Sv where
  x : Sn
  p : Option Addr
  c : Nat
def svC (y : Sv) : List Value := [.string (S y.x.k), .slice y.p y.x.st.words.length y.c, .int .i64 y.x.st.sent, .int .i64 y.x.st.dice]
theorem svC_len (y : Sv) : (svC y).length = 4 := rfl
theorem svC_one (y : Sv) : ∀ u ∈ svC y, u.oneCell' = true := by
  intro u hu
  simp [svC] at hu
  rcases hu with rfl | rfl | rfl | rfl <;> rfl
theorem infSnap : (Tryz.prog.info? 44).map (fun i => (i.zero, i.size, i.bytes)) = some (some (.agg #[.string ⟨#[]⟩, .slice none 0 0, .int .i64 0, .int .i64 0]), 4, 56) := by kernel_rfl
def belowV (k : Bs) (l : List Sv) : List Sv := l.filter fun y => decide (y.x.k < k)
def fromV (k : Bs) (l : List Sv) : List Sv := l.filter fun y => !decide (y.x.k < k)
theorem belowV_take {k : Bs} {l : List Sv} {j : Nat} {y : Sv} (h : l[j]? = some y) : belowV k (l.take (j + 1)) = belowV k (l.take j) ++ if y.x.k < k then [y] else [] := by
  unfold belowV
  rw [List.take_add_one, h, Option.toList_some, List.filter_append]
  by_cases h1 : y.x.k < k <;> simp [h1]
theorem fromV_take {k : Bs} {l : List Sv} {j : Nat} {y : Sv} (h : l[j]? = some y) : fromV k (l.take (j + 1)) = fromV k (l.take j) ++ if y.x.k < k then [] else [y] := by
  unfold fromV
  rw [List.take_add_one, h, Option.toList_some, List.filter_append]
  by_cases h1 : y.x.k < k <;> simp [h1]
theorem belowV_len (k : Bs) (l : List Sv) : (belowV k l).length ≤ l.length := List.length_filter_le _ _
theorem fromV_len (k : Bs) (l : List Sv) : (fromV k l).length ≤ l.length := List.length_filter_le _ _
theorem below_own1 {w W W' : World} {B s n : Nat} {T : TypeId} {v : Value} {xs : List Value} (hb : Below w.heap.size w W) (ho : W.ownsRow B T s v n xs) (hB : w.heap.size ≤ B) (hk : Kp v.ownBlock.toList W W') : Below w.heap.size w W' :=
  hb.trans (hk.to_below hb.size (fun x hx => Nat.le_trans hB (ho.lt x (Option.mem_toList.1 hx)).1))
theorem Vw.kp1 {α : Type} {k : Nat} {enc : α → List Value} {w w' : World} {v : Value} {l : List α} {O : List Nat} (h : Vw k enc w v l) (hk : Kp O w w') (ho : ∀ b, v.ownBlock = some b → b ∉ O) : Vw k enc w' v l := h.of_block (fun b hb e => hk.block b hb (ho b e)) hk.size
def Two (B : Nat) (w W : World) (v1 v2 : Value) (l1 l2 : List Sv) : Prop :=
  Below B w W ∧ W.ownsRow B 44 4 v1 l1.length (rowV svC l1) ∧ W.ownsRow B 44 4 v2 l2.length (rowV svC l2) ∧ (∀ g, v1.ownBlock = some g → v2.ownBlock = some g → False) ∧ B ≤ W.heap.size
set_option maxHeartbeats 8000000 in
theorem part25_any {w : World} {p : Option Addr} {n c : Nat} {l : List Sv} (hv : Vw 4 svC w (.slice p n c) l) (hn : n = l.length) (hl : n ≤ 1000) (k : Bs) :
    Calls Tryz.prog 87 #[.slice p n c, .string (S k)] w fun r w' => ∃ v1 v2, r = .returned (.tuple #[v1, v2]) ∧ Two w.heap.size w w' v1 v2 (belowV k l) (fromV k l) := by
  have hli : (n : Int) ≤ 1000 := by omega
  have HG := hid (⟨hv, hn, hl⟩ : _ ∧ _ ∧ _)
  have HI0 : Hid (Two w.heap.size w w (.slice none 0 0) (.slice none 0 0) (belowV k (l.take 0)) (fromV k (l.take 0))) := hid ⟨Below.refl _ _, ⟨rfl, .inl ⟨rfl, rfl⟩⟩, ⟨rfl, .inl ⟨rfl, rfl⟩⟩, (fun g hg => by cases hg), Nat.le_refl _⟩
  clear hv hn hl
  go_enter Tryz.func87, Tryz.ntmps87
  go_wp2
  go_loopg [6, 7, 8] n (fun gg s6 s7 s8 wr => ∃ (j : Nat) (p1 : Option Addr) (n1 c1 : Nat) (p2 : Option Addr) (n2 c2 : Nat), j ≤ n ∧ n - j ≤ gg ∧ s8 = .int .i64 j ∧ s6 = .slice p1 n1 c1 ∧ s7 = .slice p2 n2 c2 ∧ Hid (Two w.heap.size w wr (.slice p1 n1 c1) (.slice p2 n2 c2) (belowV k (l.take j)) (fromV k (l.take j))))
  case atStart => exact ⟨0, _, _, _, _, _, _, by omega, by omega, rfl, rfl, rfl, HI0⟩
  case round =>
    obtain ⟨j, p1, n1, c1, p2, n2, c2, hj, hgg, rfl, rfl, rfl, HI⟩ := hrel
    by_cases hje : j < n
    · obtain ⟨y, hy⟩ : ∃ y, l[j]? = some y := ⟨_, List.getElem?_eq_getElem (by rw [← HG.out.2.1]; exact hje)⟩
      obtain ⟨b, off, c', e, _, hbl, hcx⟩ := HG.out.1.ex (by rintro rfl; simp at hy)
      injection e with e1 e2 e3
      subst e1
      clear e2 e3
      have hcell : ∀ q u, (svC y)[q]? = some u → wr.cell? ⟨b, off + j * 4 + q, none⟩ = some u := fun q u hu => (World.cell?_of_block (HI.out.1.block b hbl)).trans (hcx j y hy q u hu)
      have m0 : wr.cell? ⟨b, off + j * 4, none⟩ = some (.string (S y.x.k)) := hcell 0 _ rfl
      have m1 := hcell 1 (.slice y.p y.x.st.words.length y.c) rfl
      have m2 := hcell 2 (.int .i64 y.x.st.sent) rfl
      have m3 := hcell 3 (.int .i64 y.x.st.dice) rfl
      have HB := hid (belowV_take (k := k) hy)
      have HF := hid (fromV_take (k := k) hy)
      have hji : (j : Int) < (n : Int) := by omega
      clear hy hbl hcx hcell
      by_cases hlt : y.x.k < k
      · have hbl : Op.bytesLess y.x.k k = true := by rw [bl]; exact decide_eq_true hlt
        have HB1 := hid (HB.out.trans (by rw [if_pos hlt]))
        have HF1 := hid (HF.out.trans (by rw [if_pos hlt, List.append_nil]))
        go_wp2_with (with_reducible refine stopAt .append rfl ?_)
        with_reducible refine goOn ?_
        refine app_one rfl _ _ 40 rfl svC infSnap Tryz.underlying40 rfl (by decide) (by decide) svC_len svC_one y HI.out.2.1 (by have := belowV_len k (l.take j); have h3 : (l.take j).length ≤ j := List.length_take_le ..; have := HG.out.2.2; omega) HI.out.2.2.2.2 rfl rfl ?_
        intro v' W6 hO6 hk6 hg6
        obtain ⟨p6, n6, c6, rfl⟩ : ∃ p n c, v' = Value.slice p n c := by obtain ⟨p, c, h⟩ := own_slice2 hO6; exact ⟨_, _, _, h⟩
        have HI6 : Hid (Two w.heap.size w W6 (.slice p6 n6 c6) (.slice p2 n2 c2) (belowV k (l.take (j + 1))) (fromV k (l.take (j + 1)))) := hid (by
          obtain ⟨h1, h2, h3, h4, h5⟩ := HI.out
          rw [HB1.out, HF1.out]
          refine ⟨below_own1 h1 h2 (Nat.le_refl _) hk6, by simpa using hO6, row_of h3 (fun b hb => hk6.block b (h3.lt b hb).2 (fun hm => h4 b (Option.mem_toList.1 hm) hb)), fun g hg hg' => ?_, Nat.le_trans h5 hk6.size⟩
          rcases hg6 g hg with h | h
          · exact h4 g h hg'
          · have := (h3.lt g hg').2
            omega)
        clear hO6 hk6 hg6
        go_wp2
        go_roundg (n - (j + 1))
        case measure => omega
        case rel => exact ⟨j + 1, _, _, _, _, _, _, by omega, by omega, by go_num, rfl, rfl, HI6⟩
      · have hbl : Op.bytesLess y.x.k k = false := by rw [bl]; exact decide_eq_false hlt
        have HB1 := hid (HB.out.trans (by rw [if_neg hlt, List.append_nil]))
        have HF1 := hid (HF.out.trans (by rw [if_neg hlt]))
        go_wp2_with (with_reducible refine stopAt .append rfl ?_)
        with_reducible refine goOn ?_
        refine app_one rfl _ _ 40 rfl svC infSnap Tryz.underlying40 rfl (by decide) (by decide) svC_len svC_one y HI.out.2.2.1 (by have := fromV_len k (l.take j); have h3 : (l.take j).length ≤ j := List.length_take_le ..; have := HG.out.2.2; omega) HI.out.2.2.2.2 rfl rfl ?_
        intro v' W6 hO6 hk6 hg6
        obtain ⟨p6, n6, c6, rfl⟩ : ∃ p n c, v' = Value.slice p n c := by obtain ⟨p, c, h⟩ := own_slice2 hO6; exact ⟨_, _, _, h⟩
        have HI6 : Hid (Two w.heap.size w W6 (.slice p1 n1 c1) (.slice p6 n6 c6) (belowV k (l.take (j + 1))) (fromV k (l.take (j + 1)))) := hid (by
          obtain ⟨h1, h2, h3, h4, h5⟩ := HI.out
          rw [HB1.out, HF1.out]
          refine ⟨below_own1 h1 h3 (Nat.le_refl _) hk6, row_of h2 (fun b hb => hk6.block b (h2.lt b hb).2 (fun hm => h4 b hb (Option.mem_toList.1 hm))), by simpa using hO6, fun g hg hg' => ?_, Nat.le_trans h5 hk6.size⟩
          rcases hg6 g hg' with h | h
          · exact h4 g hg h
          · have := (h2.lt g hg).2
            omega)
        clear hO6 hk6 hg6
        go_wp2
        go_roundg (n - (j + 1))
        case measure => omega
        case rel => exact ⟨j + 1, _, _, _, _, _, _, by omega, by omega, by go_num, rfl, rfl, HI6⟩
    · have hjn : j = n := by omega
      have HJ : Hid (l.take j = l) := hid (by rw [hjn, HG.out.2.1, List.take_length])
      have hji : ¬ ((j : Int) < (n : Int)) := by omega
      clear hjn
      go_wp2
      go_ret2
      have h := HI.out
      rw [HJ.out] at h
      exact ⟨_, _, rfl, h⟩
end Go.Proofs.YtnnghcooidjlhaaGreat
end
section
set_option linter.unusedSimpArgs false
set_option linter.unusedVariables false
set_option maxRecDepth 100000
namespace Go.Proofs.YtnnghcooidjlhaaGreat
open Go.RowKit Go.Lib
def sv0 : Sv := ⟨⟨[], ⟨[], 0, 0⟩⟩, none, 0⟩
def aheadV (k : Bs) (l : List Sv) : Sv × Bool := match (belowV k l).getLast? with
  | some y => (y, true)
  | none => (sv0, false)
theorem aheadV_yes {k : Bs} {l : List Sv} {j : Nat} {y : Sv} (h : l[j]? = some y) (hk : y.x.k < k) : aheadV k (l.take (j + 1)) = (y, true) := by
  unfold aheadV
  rw [belowV_take h, if_pos hk, List.getLast?_concat]
theorem aheadV_no {k : Bs} {l : List Sv} {j : Nat} {y : Sv} (h : l[j]? = some y) (hk : ¬ y.x.k < k) : aheadV k (l.take (j + 1)) = aheadV k (l.take j) := by
  unfold aheadV
  rw [belowV_take h, if_neg hk, List.append_nil]
theorem Blk.set_ne {w : World} {g h : Nat} {t : TypeId} {cs : Array Value} (hB : Blk w g t cs) (hne : g ≠ h) (i : Nat) (u : Value) : Blk (w.setCell ⟨h, i, none⟩ u) g t cs := (Below.heap_setCell _ _ _ _ hne).trans hB
def AhS (B : Nat) (w W : World) (y : Sv) : Prop := Below B w W ∧ Blk W B 44 (svC sv0).toArray ∧ Blk W (B + 1) 44 (svC y).toArray
set_option maxHeartbeats 8000000 in
theorem ahead25_any {w : World} {p : Option Addr} {n c : Nat} {l : List Sv} (hv : Vw 4 svC w (.slice p n c) l) (hn : n = l.length) (hl : n ≤ 1000) (k : Bs) :
    Calls Tryz.prog 88 #[.slice p n c, .string (S k)] w fun r w' => r = .returned (.tuple #[.agg (svC (aheadV k l).1).toArray, .bool (aheadV k l).2]) ∧ Below w.heap.size w w' := by
  have hli : (n : Int) ≤ 1000 := by omega
  have HG := hid (⟨hv, hn, hl⟩ : _ ∧ _ ∧ _)
  obtain ⟨W1, hW1⟩ : ∃ W1, W1 = (w.alloc (.cells #[.string ⟨#[]⟩, .slice none 0 0, .int .i64 0, .int .i64 0] 44)).alloc (.cells #[.string ⟨#[]⟩, .slice none 0 0, .int .i64 0, .int .i64 0] 44) := ⟨_, rfl⟩
  have hb1 : Below w.heap.size w W1 := by rw [hW1]; exact ((Below.refl _ w).alloc (Nat.le_refl _) _).alloc (by simp) _
  have hB1 : Blk W1 w.heap.size 44 (svC sv0).toArray := by rw [hW1]; exact (Blk.new w _ _).alloc _
  have hB2 : Blk W1 (w.heap.size + 1) 44 (svC sv0).toArray := by
    rw [hW1]
    have := Blk.new (w.alloc (.cells #[.string ⟨#[]⟩, .slice none 0 0, .int .i64 0, .int .i64 0] 44)) 44 (svC sv0).toArray
    simpa [svC, sv0, S] using this
  have HI0 : Hid (AhS w.heap.size w W1 (aheadV k (l.take 0)).1) := hid ⟨hb1, hB1, hB2⟩
  have HW1 := hid hW1
  clear hv hn hl hb1 hB1 hB2 hW1
  go_enter Tryz.func88, Tryz.ntmps88
  go_wp2
  rw [← HW1.out]
  go_loopg [7, 8] n (fun gg s7 s8 wr => ∃ j : Nat, j ≤ n ∧ n - j ≤ gg ∧ s8 = .int .i64 j ∧ s7 = .bool (aheadV k (l.take j)).2 ∧ Hid (AhS w.heap.size w wr (aheadV k (l.take j)).1))
  case atStart => exact ⟨0, by omega, by omega, rfl, rfl, HI0⟩
  case round =>
    obtain ⟨j, hj, hgg, rfl, rfl, HI⟩ := hrel
    by_cases hje : j < n
    · obtain ⟨y, hy⟩ : ∃ y, l[j]? = some y := ⟨_, List.getElem?_eq_getElem (by rw [← HG.out.2.1]; exact hje)⟩
      obtain ⟨b, off, c', e, _, hbl, hcx⟩ := HG.out.1.ex (by rintro rfl; simp at hy)
      injection e with e1 e2 e3
      subst e1
      clear e2 e3
      have hcell : ∀ q u, (svC y)[q]? = some u → wr.cell? ⟨b, off + j * 4 + q, none⟩ = some u := fun q u hu => (World.cell?_of_block (HI.out.1.block b hbl)).trans (hcx j y hy q u hu)
      have m0 : wr.cell? ⟨b, off + j * 4, none⟩ = some (.string (S y.x.k)) := hcell 0 _ rfl
      have hji : (j : Int) < (n : Int) := by omega
      by_cases hlt : y.x.k < k
      · have hbs : Op.bytesLess y.x.k k = true := by rw [bl]; exact decide_eq_true hlt
        have HY := hid (aheadV_yes hy hlt)
        have m1 := hcell 1 (.slice y.p y.x.st.words.length y.c) rfl
        have m2 := hcell 2 (.int .i64 y.x.st.sent) rfl
        have m3 := hcell 3 (.int .i64 y.x.st.dice) rfl
        obtain ⟨cur, hcur⟩ : ∃ cur, cur = (aheadV k (l.take j)).1 := ⟨_, rfl⟩
        rw [← hcur] at HI
        clear hcur
        have g0 : wr.cell? ⟨w.heap.size + 1, 0, none⟩ = some (.string (S cur.x.k)) := HI.out.2.2.cell 0
        have g1 : wr.cell? ⟨w.heap.size + 1, 1, none⟩ = some (.slice cur.p cur.x.st.words.length cur.c) := HI.out.2.2.cell 1
        have g2 : wr.cell? ⟨w.heap.size + 1, 2, none⟩ = some (.int .i64 cur.x.st.sent) := HI.out.2.2.cell 2
        have g3 : wr.cell? ⟨w.heap.size + 1, 3, none⟩ = some (.int .i64 cur.x.st.dice) := HI.out.2.2.cell 3
        have f0 := HI.out.2.2.frozen 0
        have f1 := HI.out.2.2.frozen 1
        have f2 := HI.out.2.2.frozen 2
        have f3 := HI.out.2.2.frozen 3
        have fl := HI.out.2.2.lt
        clear hy hbl hcx hcell
        go_wp2
        have HI6 : Hid (AhS w.heap.size w ((((wr.setCell ⟨w.heap.size + 1, 0, none⟩ (.string (S y.x.k))).setCell ⟨w.heap.size + 1, 1, none⟩ (.slice y.p y.x.st.words.length y.c)).setCell ⟨w.heap.size + 1, 2, none⟩ (.int .i64 y.x.st.sent)).setCell ⟨w.heap.size + 1, 3, none⟩ (.int .i64 y.x.st.dice)) (aheadV k (l.take (j + 1))).1) := hid (by
          obtain ⟨h1, h2, h3⟩ := HI.out
          rw [HY.out]
          refine ⟨(((h1.setCell (by simp) _).setCell (by simp) _).setCell (by simp) _).setCell (by simp) _, ?_, ?_⟩
          · exact (((h2.set_ne (by simp) _ _).set_ne (by simp) _ _).set_ne (by simp) _ _).set_ne (by simp) _ _
          · exact (((h3.set_ 0 _).set_ 1 _).set_ 2 _).set_ 3 _)
        clear m0 m1 m2 m3 f0 f1 f2 f3 fl g0 g1 g2 g3
        go_roundg (n - (j + 1))
        case measure => omega
        case rel => exact ⟨j + 1, by omega, by omega, by go_num, by rw [HY.out], HI6⟩
      · have hbs : Op.bytesLess y.x.k k = false := by rw [bl]; exact decide_eq_false hlt
        have HY := hid (aheadV_no hy hlt)
        clear hy hbl hcx hcell
        go_wp2
        go_roundg (n - (j + 1))
        case measure => omega
        case rel => exact ⟨j + 1, by omega, by omega, by go_num, by rw [HY.out], by rw [HY.out]; exact HI⟩
    · have hjn : j = n := by omega
      have HJ : Hid (l.take j = l) := hid (by rw [hjn, HG.out.2.1, List.take_length])
      have hji : ¬ ((j : Int) < (n : Int)) := by omega
      clear hjn
      rw [HJ.out] at HI ⊢
      obtain ⟨cur, hcur⟩ : ∃ cur, cur = aheadV k l := ⟨_, rfl⟩
      rw [← hcur] at HI ⊢
      have c0 : wr.cell? ⟨w.heap.size + 1, 0, none⟩ = some (.string (S cur.1.x.k)) := HI.out.2.2.cell 0
      have c1 : wr.cell? ⟨w.heap.size + 1, 1, none⟩ = some (.slice cur.1.p cur.1.x.st.words.length cur.1.c) := HI.out.2.2.cell 1
      have c2 : wr.cell? ⟨w.heap.size + 1, 2, none⟩ = some (.int .i64 cur.1.x.st.sent) := HI.out.2.2.cell 2
      have c3 : wr.cell? ⟨w.heap.size + 1, 3, none⟩ = some (.int .i64 cur.1.x.st.dice) := HI.out.2.2.cell 3
      have g0 : wr.cell? ⟨w.heap.size, 0, none⟩ = some (.string (S [])) := HI.out.2.1.cell 0
      have g1 : wr.cell? ⟨w.heap.size, 1, none⟩ = some (.slice none 0 0) := HI.out.2.1.cell 1
      have g2 : wr.cell? ⟨w.heap.size, 2, none⟩ = some (.int .i64 0) := HI.out.2.1.cell 2
      have g3 : wr.cell? ⟨w.heap.size, 3, none⟩ = some (.int .i64 0) := HI.out.2.1.cell 3
      have f0 := HI.out.2.1.frozen 0
      have f1 := HI.out.2.1.frozen 1
      have f2 := HI.out.2.1.frozen 2
      have f3 := HI.out.2.1.frozen 3
      have fl := HI.out.2.1.lt
      have HCU := hid hcur
      clear hcur
      go_wp2
      obtain ⟨h1, h2, h3⟩ := HI.out
      have hr5 := h2.set_ 0 (.string (S cur.1.x.k))
      have hr6 := hr5.set_ 1 (.slice cur.1.p cur.1.x.st.words.length cur.1.c)
      have hr7 := hr6.set_ 2 (.int .i64 cur.1.x.st.sent)
      have hr8 := hr7.set_ 3 (.int .i64 cur.1.x.st.dice)
      have v0 := hr5.cell 0
      have v1 := hr6.cell 1
      have v2 := hr7.cell 2
      have v3 := hr8.cell 3
      simp only [svC, List.setIfInBounds_toArray, List.set_cons_zero, List.set_cons_succ, List.getElem?_toArray, List.getElem?_cons_zero, List.getElem?_cons_succ] at v0 v1 v2 v3
      refine bodyPost_ret (v := .tuple #[.agg #[.string (S cur.1.x.k), .slice cur.1.p cur.1.x.st.words.length cur.1.c, .int .i64 cur.1.x.st.sent, .int .i64 cur.1.x.st.dice], .bool cur.2]) (by simp [results, Tryz.results88, go_sem, v0, v1, v2, v3]) rfl ?_
      rw [← HCU.out]
      exact ⟨rfl, (((h1.setCell (Nat.le_refl _) _).setCell (Nat.le_refl _) _).setCell (Nat.le_refl _) _).setCell (Nat.le_refl _) _⟩
end Go.Proofs.YtnnghcooidjlhaaGreat
end
