/- Parts of the proof: Zb. -/
import Derived.Test.YtnnghcooidjlhaaGreatB28
set_option linter.all false
section
set_option linter.unusedSimpArgs false
set_option linter.unusedVariables false
set_option maxRecDepth 100000
namespace Go.Proofs.YtnnghcooidjlhaaGreat
open Go.RowKit Go.Lib
theorem hd14 : hdP 3 1 ≠ hdP 3 4 := by decide
theorem rkM {a b : Int} (hb : 0 ≤ b ∧ b < 6) (hn : hdP 3 a ≠ hdP 3 b) (l : List Sn) : RK (fun M => SnM M a l) b :=
  ⟨fun M k v hM h => h.other hM (hdP_len 3 b) hn k v, fun M fr to h => h.clear_far hb hn fr to⟩
structure Tw (W : World) (xb yb : Nat) (s : SL) (O : List Nat) (N : Nat) (l m : List Sn) : Prop where
  x : SnI (fun M => SnM M 4 m) W xb s 1 O N l
  y : SnI (fun M => SnM M 1 l) W yb s 4 O N m
section
variable {w W W' : World} {xb yb : Nat} {s : SL} {O O' : List Nat} {N N' j K : Nat} {l l' m m' : List Sn} {v : Value}
theorem SnI.noN {R : List KV → Prop} {lp : Int} (h : SnI R W xb s lp O N l) (hg : Gr O W.heap.size O') : xb ∉ s.sb :: s.tb :: O' := by
  have hno := h.no
  simp only [List.mem_cons, not_or] at hno ⊢
  exact ⟨hno.1, hno.2.1, hg.out (Blk.lt h.b) hno.2.2⟩
theorem Tw.of_x (h : Tw W xb yb s O N l m) (hk : Kp O W W') (hg : Gr O W.heap.size O') (h' : SnI (fun M => SnM M 4 m) W' xb s 1 O' N' l') : Tw W' xb yb s O' N' l' m := by
  obtain ⟨M, m1, m2, m3, m4⟩ := h'.m
  exact ⟨h', Blk.kp h.y.b hk h.y.noO, h.y.noN hg, by omega, ⟨M, m1, m4, m3, m2⟩, rkM (by omega) hd14 l'⟩
theorem Tw.of_y (h : Tw W xb yb s O N l m) (hk : Kp O W W') (hg : Gr O W.heap.size O') (h' : SnI (fun M => SnM M 1 l) W' yb s 4 O' N' m') : Tw W' xb yb s O' N' l m' := by
  obtain ⟨M, m1, m2, m3, m4⟩ := h'.m
  exact ⟨⟨Blk.kp h.x.b hk h.x.noO, h.x.noN hg, by omega, ⟨M, m1, m4, m3, m2⟩, rkM (by omega) hd14.symm m'⟩, h'⟩
theorem Tw.below (h : Tw W xb yb s O N l m) (hb : Below W.heap.size W W') : Tw W' xb yb s O N l m := ⟨h.x.below hb, h.y.below hb⟩
def Ra25 (w : World) (xb yb : Nat) (s : SL) (j : Nat) (W : World) (l m : List Sn) : Prop :=
  ∃ O N, Tw W xb yb s O N l m ∧ N ≤ j ∧ l.length ≤ j ∧ Below w.heap.size w W ∧ ∀ b ∈ xb :: yb :: s.sb :: s.tb :: O, w.heap.size ≤ b
theorem Ra25.below (h : Ra25 w xb yb s j W l m) (hb : Below W.heap.size W W') : Ra25 w xb yb s j W' l m := by
  obtain ⟨O, N, h1, h5, h6, h7, h8⟩ := h
  exact ⟨O, N, h1.below hb, h5, h6, h7.trans (hb.mono h7.size), h8⟩
theorem Ra25.fr (h : Ra25 w xb yb s j W l m) : Below w.heap.size w W := by
  obtain ⟨O, N, h1, h5, h6, h7, h8⟩ := h
  exact h7
theorem Ra25.up {i : Nat} (h : Ra25 w xb yb s j W l m) (hi : j ≤ i) : Ra25 w xb yb s i W l m := by
  obtain ⟨O, N, h1, h5, h6, h7, h8⟩ := h
  exact ⟨O, N, h1, by omega, by omega, h7, h8⟩
theorem ra25_next (h8 : ∀ b ∈ xb :: yb :: s.sb :: s.tb :: O, w.heap.size ≤ b) (h7 : Below w.heap.size w W) (g3 : Gr O W.heap.size O') : ∀ b ∈ xb :: yb :: s.sb :: s.tb :: O', w.heap.size ≤ b := by
  intro b hm
  have hz := h7.size
  simp only [List.mem_cons] at hm h8
  rcases hm with h | h | h | h | h
  · exact h8 b (.inl h)
  · exact h8 b (.inr (.inl h))
  · exact h8 b (.inr (.inr (.inl h)))
  · exact h8 b (.inr (.inr (.inr (.inl h))))
  · rcases g3 b h with h | h
    · exact h8 b (.inr (.inr (.inr (.inr h))))
    · omega
theorem kp_below (h8 : ∀ b ∈ xb :: yb :: s.sb :: s.tb :: O, w.heap.size ≤ b) (h7 : Below w.heap.size w W) (g2 : Kp O W W') : Below w.heap.size w W' := h7.trans (g2.to_below h7.size (fun x hx => h8 x (by simp [hx])))
theorem ra25_take (h : Ra25 w xb yb s j W l m) (hj : j ≤ 50) (a : A25) (ha : a.good w) :
    Calls Tryz.prog 22 #[.pointer (some ⟨xb, 0, none⟩), .string (S a.k), staV a.p a.st.words.length a.c a.st] W fun e w' => ∃ (er : Int) (l' : List Sn), e = .returned (.int .i64 er) ∧ Ra25 w xb yb s (j + 1) w' l' m := by
  by_cases hk : a.k.length ≤ 29 ∧ a.st.right
  · obtain ⟨O, N, h1, h5, h6, h7, h8⟩ := h
    refine (sn_take h1.x (by omega) hk.1 (ha.1.below h7) rfl hk.2 ha.2).mono ?_
    rintro r w' ⟨O', rfl, g1, g2, g3⟩
    exact ⟨_, _, rfl, O', N + 1, h1.of_x g2 g3 g1, by omega, Nat.le_trans (setS_length _ _) (by omega), kp_below h8 h7 g2, ra25_next h8 h7 g3⟩
  · refine (stake_no ⟨xb, 0, none⟩ a.k a.p _ a.c a.st rfl hk W).mono ?_
    rintro r w' ⟨rfl, hb⟩
    exact ⟨_, l, rfl, (h.below hb).up (by omega)⟩
theorem sn_keys {R : List KV → Prop} {lp : Int} (h : SnI R W xb s lp O N l) (hl : l.length ≤ 1000) :
    Calls Tryz.prog 24 #[.pointer (some ⟨xb, 0, none⟩)] W fun e w' => ∃ p c, e = .returned (.tuple #[.slice p l.length c, .int .i64 0]) ∧ SnI R w' xb s lp O N l ∧ Kp O W w' ∧ Vw 1 kC w' (.slice p l.length c) (l.map Sn.k) ∧ ∀ b, (Value.slice p l.length c).ownBlock = some b → b ∉ O ∧ b < w'.heap.size := by
  obtain ⟨M, m1, m2, m3⟩ := h.m
  refine (skeys_any h.b m1 h.noO h.hlp m2 hl).mono ?_
  rintro r w' ⟨v', rfl, hS, hK, hO⟩
  obtain ⟨p, c, rfl⟩ := own_slice2 hO
  exact ⟨p, c, rfl, h.turn hK (Gr.refl _ _) hS m2 m3, hK, Vw.of_own kC_len hO (by simp), fun b hb => ⟨fun hm => by
    have := (hO.lt b hb).1
    have := h.lts b (by simp [hm])
    omega, (hO.lt b hb).2⟩⟩
def Rk25 (w : World) (xb yb : Nat) (s : SL) (K : Nat) (W : World) (l m : List Sn) (v : Value) : Prop :=
  ∃ O N, Tw W xb yb s O N l m ∧ N ≤ K ∧ l.length ≤ 50 ∧ Below w.heap.size w W ∧ (∀ b ∈ xb :: yb :: s.sb :: s.tb :: O, w.heap.size ≤ b) ∧ Vw 1 kC W v (l.map Sn.k) ∧ ∀ b, v.ownBlock = some b → b ∉ O ∧ b < W.heap.size
theorem Rk25.below (h : Rk25 w xb yb s K W l m v) (hb : Below W.heap.size W W') : Rk25 w xb yb s K W' l m v := by
  obtain ⟨O, N, h1, h5, h6, h7, h8, h9, h10⟩ := h
  exact ⟨O, N, h1.below hb, h5, h6, h7.trans (hb.mono h7.size), h8, h9.below hb, fun b e => ⟨(h10 b e).1, Nat.lt_of_lt_of_le (h10 b e).2 hb.size⟩⟩
theorem Rk25.fr (h : Rk25 w xb yb s K W l m v) : Below w.heap.size w W := by
  obtain ⟨O, N, h1, h5, h6, h7, _⟩ := h
  exact h7
theorem ra25_keys (h : Ra25 w xb yb s j W l m) (hj : j ≤ 50) :
    Calls Tryz.prog 24 #[.pointer (some ⟨xb, 0, none⟩)] W fun e w' => ∃ p c, e = .returned (.tuple #[.slice p l.length c, .int .i64 0]) ∧ Rk25 w xb yb s j w' l m (.slice p l.length c) := by
  obtain ⟨O, N, h1, h5, h6, h7, h8⟩ := h
  refine (sn_keys h1.x (by omega)).mono ?_
  rintro r w' ⟨p, c, rfl, g1, g2, g3, g4⟩
  exact ⟨p, c, rfl, O, N, h1.of_x g2 (Gr.refl _ _) g1, by omega, by omega, kp_below h8 h7 g2, h8, g3, g4⟩
theorem Rk25.turn (h1 : Tw W xb yb s O N l m) (h1' : Tw W' xb yb s O' N' l m') (hN : N' ≤ K) (hl : l.length ≤ 50) (h7 : Below w.heap.size w W) (h8 : ∀ b ∈ xb :: yb :: s.sb :: s.tb :: O, w.heap.size ≤ b) (h9 : Vw 1 kC W v (l.map Sn.k)) (h10 : ∀ b, v.ownBlock = some b → b ∉ O ∧ b < W.heap.size) (hk : Kp O W W') (hg : Gr O W.heap.size O') : Rk25 w xb yb s K W' l m' v :=
  ⟨O', N', h1', hN, hl, kp_below h8 h7 hk, ra25_next h8 h7 hg, h9.kp1 hk fun b e => (h10 b e).1, fun b e => ⟨hg.out (h10 b e).2 (h10 b e).1, Nat.lt_of_lt_of_le (h10 b e).2 hk.size⟩⟩
theorem rk25_do (h : Rk25 w xb yb s K W l [] v) (hK : K ≤ 50) (a : A25) (ha : a.good w) :
    Calls Tryz.prog 25 #[.pointer (some ⟨yb, 0, none⟩), .slice none 0 0, actV a.kd a.sv] W fun r w' => ∃ v' m', r = .returned (.tuple #[v', .bool true]) ∧ Rk25 w xb yb s (K + 1) w' l m' v := by
  obtain ⟨O, N, h1, h5, h6, h7, h8, h9, h10⟩ := h
  have hr : RfI W O (.slice none 0 0) [] [] := ⟨Vw.nil _ _ _ _ _, rfl, (fun b hb => by cases hb), by simp⟩
  refine (do25_any h1.y hr a.kd a.sv ha.2 (ha.1.below h7) (by omega) (by simp)).mono ?_
  rintro r w' ⟨O', v', l', ls', N', rfl, g1, g2, g3, g4, g5, g6, g7, g8, g9⟩
  exact ⟨v', l', rfl, Rk25.turn h1 (h1.of_y g5 g6 g1) (by omega) h6 h7 h8 h9 h10 g5 g6⟩
theorem rk25_from (h : Rk25 w xb yb s K W l m v) :
    Calls Tryz.prog 28 #[.pointer (some ⟨yb, 0, none⟩), .string (S [])] W fun r w' => ∃ (n : Nat) (m' : List Sn), r = .returned (.tuple #[.int .i64 n, .int .i64 0]) ∧ Rk25 w xb yb s K w' l m' v := by
  obtain ⟨O, N, h1, h5, h6, h7, h8, h9, h10⟩ := h
  refine (sn_from h1.y (k := []) (by simp)).mono ?_
  rintro r w' ⟨rfl, g1, g2⟩
  exact ⟨_, _, rfl, Rk25.turn h1 (h1.of_y g2 (Gr.refl _ _) g1) h5 h6 h7 h8 h9 h10 g2 (Gr.refl _ _)⟩
theorem rk25_keys (h : Rk25 w xb yb s K W l m v) :
    Calls Tryz.prog 24 #[.pointer (some ⟨xb, 0, none⟩)] W fun e w' => ∃ p c, e = .returned (.tuple #[.slice p l.length c, .int .i64 0]) ∧ Vw 1 kC w' (.slice p l.length c) (l.map Sn.k) ∧ Vw 1 kC w' v (l.map Sn.k) ∧ Below w.heap.size w w' := by
  obtain ⟨O, N, h1, h5, h6, h7, h8, h9, h10⟩ := h
  refine (sn_keys h1.x (by omega)).mono ?_
  rintro r w' ⟨p, c, rfl, g1, g2, g3, g4⟩
  exact ⟨p, c, rfl, g3, h9.kp1 g2 fun b e => (h10 b e).1, kp_below h8 h7 g2⟩
end
set_option maxHeartbeats 16000000 in
theorem sapart25_any {w : World} {p : Option Addr} {n c : Nat} {l : List A25} (hv : Vw 5 a25C w (.slice p n c) l) (hn : n = l.length) (hok : ∀ a ∈ l, a.good w) (z : A25) (hz : z.good w) :
    Calls Tryz.prog 5 #[.slice p n c, .agg #[.int .i64 z.kd, .string (S z.k), .slice z.p z.st.words.length z.c, .int .i64 z.st.sent, .int .i64 z.st.dice]] w fun r w' => r = .returned (.bool true) ∧ Below w.heap.size w w' := by
  obtain ⟨W0, hW0⟩ : ∃ W0, W0 = w.alloc (.cells #[.int .i64 z.kd, .string (S z.k), .slice z.p z.st.words.length z.c, .int .i64 z.st.sent, .int .i64 z.st.dice] 31) := ⟨_, rfl⟩
  have hb0 : Below w.heap.size w W0 := by rw [hW0]; exact (Below.refl _ w).alloc (Nat.le_refl _) _
  have hZB : Blk W0 w.heap.size 31 #[.int .i64 z.kd, .string (S z.k), .slice z.p z.st.words.length z.c, .int .i64 z.st.sent, .int .i64 z.st.dice] := by rw [hW0]; exact Blk.new w _ _
  have HB := hid (begun_any W0)
  have HS1 := hid (fun s W => snof_any s 1 (by omega) W)
  have HS4 := hid (fun s W => snof_any s 4 (by omega) W)
  have HA := hid (fun W => awake25_any W)
  have HX := hid (⟨hv.below hb0, hn, fun a ha => ⟨(hok a ha).1.below hb0, (hok a ha).2⟩⟩ : Vw 5 a25C W0 (.slice p n c) l ∧ n = l.length ∧ ∀ a ∈ l, a.good W0)
  have HZ := hid (fun W => short25_any z.kd z.k z.p z.st.words.length z.c z.st W)
  have HZG : Hid (z.good W0) := hid ⟨hz.1.below hb0, hz.2⟩
  have HCZ : Hid (∀ W, Below W0.heap.size W0 W → W.cell? ⟨w.heap.size, 0, none⟩ = some (.int .i64 z.kd) ∧ W.cell? ⟨w.heap.size, 1, none⟩ = some (.string (S z.k)) ∧ W.cell? ⟨w.heap.size, 2, none⟩ = some (.slice z.p z.st.words.length z.c) ∧ W.cell? ⟨w.heap.size, 3, none⟩ = some (.int .i64 z.st.sent) ∧ W.cell? ⟨w.heap.size, 4, none⟩ = some (.int .i64 z.st.dice)) := hid fun W hW => by
    have h := hZB.below hW hZB.lt
    exact ⟨h.cell 0, h.cell 1, h.cell 2, h.cell 3, h.cell 4⟩
  rw [hW0] at HB
  have HW0 := hid (⟨hW0, hb0⟩ : _ ∧ _)
  clear hv hn hok hz hW0 hb0 hZB
  go_enter Tryz.func5, Tryz.ntmps5
  go_wp2_with fail
  (with_reducible refine HB.out.mono ?_)
  rintro r W1 ⟨s, O, rfl, hS, hb, ho⟩
  rw [← HW0.out.1] at hb ho
  have H1 := hid (⟨hS, hb, ho⟩ : _ ∧ _ ∧ _)
  clear hS hb ho
  go_wp2_with fail
  (with_reducible refine (HS1.out _ _).mono ?_)
  rintro r W2 ⟨rfl, hw2⟩
  have HW2 := hid hw2
  clear hw2
  go_wp2_with fail
  (with_reducible refine (HS4.out _ _).mono ?_)
  rintro r W3 ⟨rfl, hw3⟩
  have HI3 : Hid (Ra25 W0 W1.heap.size W2.heap.size s 0 W3 [] []) := hid (by
    obtain ⟨hS, hb, ho⟩ := H1.out
    have hb2 : Below W1.heap.size W1 W2 := by rw [← HW2.out]; exact (Below.refl _ W1).alloc (Nat.le_refl _) _
    have hX2 : SnX W2 W1.heap.size s 1 := by rw [← HW2.out]; exact Blk.new W1 _ _
    have hb3 : Below W2.heap.size W2 W3 := by rw [← hw3]; exact (Below.refl _ W2).alloc (Nat.le_refl _) _
    have hX3 : SnX W3 W2.heap.size s 4 := by rw [← hw3]; exact Blk.new W2 _ _
    have hlt := hS.lts
    have hs12 : W1.heap.size < W2.heap.size := Blk.lt hX2
    have hs01 := hb.size
    have hM := (hS.below hb2).below hb3
    refine ⟨O, 0, ⟨⟨Blk.below hX2 hb3 hs12, fun hm => ?_, by omega, ⟨[], hM, SnM.nil 1, by simp [longs], SnM.nil 4⟩, rkM (by omega) hd14.symm []⟩, ⟨hX3, fun hm => ?_, by omega, ⟨[], hM, SnM.nil 4, by simp [longs], SnM.nil 1⟩, rkM (by omega) hd14 []⟩⟩, by omega, by simp, (hb.trans (hb2.mono hb.size)).trans (hb3.mono (by omega)), fun b hm => ?_⟩
    · have := hlt _ hm; omega
    · have := hlt _ hm; omega
    · rcases List.mem_cons.1 hm with rfl | hm
      · omega
      rcases List.mem_cons.1 hm with rfl | hm
      · omega
      exact ho b hm)
  generalize W1.heap.size = xb at HI3 ⊢
  generalize W2.heap.size = yb at HI3 ⊢
  clear hw3 HW2 H1
  go_wp2_with fail
  (with_reducible refine (HA.out W3).mono ?_)
  rintro r W4 ⟨rfl, hb4⟩
  have HI4 := hid (HI3.out.below hb4)
  obtain ⟨z0, z1, z2, z3, z4⟩ := HCZ.out W4 HI4.out.fr
  clear hb4
  go_wp2_with fail
  (with_reducible refine (HZ.out W4).mono ?_)
  rintro r W5 ⟨rfl, hb5⟩
  have HI5 := hid (HI4.out.below hb5)
  clear hb5 z0 z1 z2 z3 z4
  cases hs : decide (z.k.length < 100 ∧ z.st.words.length < 60)
  case false =>
    go_wp2_with fail
    (with_reducible refine (HA.out W5).mono ?_)
    rintro r W6 ⟨rfl, hb6⟩
    have HF := hid ((HI5.out.below hb6).fr)
    clear hb6
    go_wp2
    go_ret
    exact ⟨rfl, HW0.out.2.trans (HF.out.mono HW0.out.2.size)⟩
  case true =>
    clear hs
    go_wp2
    go_loopg [10] 20 (fun gg s10 wr => ∃ (j : Nat) (lm : List Sn), j ≤ 20 ∧ 20 - j ≤ gg ∧ s10 = .int .i64 j ∧ Hid (Ra25 W0 xb yb s j wr lm []))
    case atStart => exact ⟨0, _, by omega, by omega, rfl, HI5⟩
    case round =>
      obtain ⟨j, lm, hj, hgg, rfl, HI⟩ := hrel
      by_cases hjj : j < n ∧ j < 20
      · obtain ⟨hjn, hje⟩ := hjj
        obtain ⟨a, ha⟩ : ∃ a, l[j]? = some a := ⟨_, List.getElem?_eq_getElem (by rw [← HX.out.2.1]; exact hjn)⟩
        obtain ⟨b, off, c', e, hc, hbl, hcx⟩ := HX.out.1.ex (by rintro rfl; simp at ha)
        injection e with e1 e2 e3
        subst e1
        clear e2 e3
        have HC : Hid (∀ W, Below W0.heap.size W0 W → W.cell? ⟨b, off + j * 5, none⟩ = some (.int .i64 a.kd) ∧ W.cell? ⟨b, off + j * 5 + 1, none⟩ = some (.string (S a.k)) ∧ W.cell? ⟨b, off + j * 5 + 2, none⟩ = some (.slice a.p a.st.words.length a.c) ∧ W.cell? ⟨b, off + j * 5 + 3, none⟩ = some (.int .i64 a.st.sent) ∧ W.cell? ⟨b, off + j * 5 + 4, none⟩ = some (.int .i64 a.st.dice)) := hid fun W hW => by
          have hcell : ∀ q u, (a25C a)[q]? = some u → W.cell? ⟨b, off + j * 5 + q, none⟩ = some u := fun q u hu => (World.cell?_of_block (hW.block b hbl)).trans (hcx j a ha q u hu)
          exact ⟨hcell 0 _ rfl, hcell 1 _ rfl, hcell 2 _ rfl, hcell 3 _ rfl, hcell 4 _ rfl⟩
        have HG := hid (HX.out.2.2 a (List.mem_of_getElem? ha))
        have HSH := hid (fun W => short25_any a.kd a.k a.p a.st.words.length a.c a.st W)
        have hji : (j : Int) < (n : Int) := by omega
        have hji2 : (j : Int) < 20 := by omega
        obtain ⟨m0, m1, m2, m3, m4⟩ := HC.out wr HI.out.fr
        clear ha hc hbl hcx
        go_wp2_with fail
        (with_reducible refine (HSH.out wr).mono ?_)
        rintro r W6 ⟨rfl, hb3⟩
        have HR3 := hid (HI.out.below hb3)
        clear hb3 m0 m1 m2 m3 m4
        cases hs : decide (a.k.length < 100 ∧ a.st.words.length < 60)
        case false =>
          go_wp2
          go_roundg (20 - (j + 1))
          case measure => omega
          case rel => exact ⟨j + 1, lm, by omega, by omega, by go_num, hid (HR3.out.up (by omega))⟩
        case true =>
          obtain ⟨m0, m1, m2, m3, m4⟩ := HC.out W6 HR3.out.fr
          clear hs
          have HT := hid (ra25_take (HR3.out.below (below_drewN (Below.refl W6.heap.size W6) 1)) (by omega) a HG.out)
          unfold staV at HT
          have HCK : Hid (∀ W', Below W0.heap.size W0 W' → W'.cell? ⟨b, off + j * 5 + 1, none⟩ = some (.string (S a.k)) ∧ W'.cell? ⟨b, off + j * 5 + 2, none⟩ = some (.slice a.p a.st.words.length a.c) ∧ W'.cell? ⟨b, off + j * 5 + 3, none⟩ = some (.int .i64 a.st.sent) ∧ W'.cell? ⟨b, off + j * 5 + 4, none⟩ = some (.int .i64 a.st.dice)) := hid fun W' h => (HC.out W' h).2
          go_wp2
          go_region_held3 (fun W => W.cell? ⟨b, off + j * 5 + 1, none⟩ = some (.string (S a.k)) ∧ W.cell? ⟨b, off + j * 5 + 2, none⟩ = some (.slice a.p a.st.words.length a.c) ∧ W.cell? ⟨b, off + j * 5 + 3, none⟩ = some (.int .i64 a.st.sent) ∧ W.cell? ⟨b, off + j * 5 + 4, none⟩ = some (.int .i64 a.st.dice)) (first | exact hck5 | exact ⟨m1, m2, m3, m4⟩)
            (first
              | (go_at_call 22; refine HT.out.mono ?_; rintro r W7 ⟨er, l4, rfl, hR4⟩; have hck5 := HCK.out W7 hR4.fr))
          all_goals
            have HR4 := hid hR4
            clear hR4 hck5 m0 m1 m2 m3 m4
            go_wp2
            go_roundg (20 - (j + 1))
            case measure => omega
            case rel => exact ⟨j + 1, l4, by omega, by omega, by go_num, HR4⟩
      · have HK := hid (ra25_keys HI.out (by omega))
        have hll : lm.length ≤ 20 := by obtain ⟨_, _, _, _, h6, _⟩ := HI.out; omega
        obtain ⟨nk, hnk⟩ : ∃ nk, nk = lm.length := ⟨_, rfl⟩
        have HNK := hid hnk
        rw [← hnk] at HK hll
        have hexit : ¬ (j : Int) < (n : Int) ∨ ((j : Int) < (n : Int) ∧ ¬ (j : Int) < 20) := by omega
        clear hjj hnk
        rcases hexit with hji | ⟨hji, hji2⟩
        all_goals
          go_wp2_with fail
          (with_reducible refine HK.out.mono ?_)
          rintro r W6 ⟨p6, c6, rfl, hR6⟩
          have HD := hid (rk25_do hR6 (by omega) z HZG.out)
          unfold actV A25.sv at HD
          obtain ⟨z0, z1, z2, z3, z4⟩ := HCZ.out W6 hR6.fr
          clear hR6
          go_wp2_with fail
          (with_reducible refine HD.out.mono ?_)
          rintro r W7 ⟨v7, m7, rfl, hR7⟩
          have HFR := hid (rk25_from hR7)
          rw [show S [] = { data := #[] } from rfl] at HFR
          clear hR7 z0 z1 z2 z3 z4
          go_wp2_with fail
          (with_reducible refine HFR.out.mono ?_)
          rintro r W8 ⟨n8, m8, rfl, hR8⟩
          have HK2 := hid (rk25_keys hR8)
          rw [← HNK.out] at HK2
          clear hR8
          go_wp2_with fail
          (with_reducible refine HK2.out.mono ?_)
          rintro r W9 ⟨p9, c9, rfl, hV9, hV6, hb9⟩
          have HS9 := hid (same01_any hV6 hV9 (by rw [List.length_map]; exact HNK.out) (by omega))
          have H9 := hid hb9
          clear hV9 hV6 hb9
          go_wp2_with fail
          (with_reducible refine HS9.out.mono ?_)
          rintro r W10 ⟨rfl, hb10⟩
          have HF := hid (H9.out.trans (hb10.mono H9.out.size))
          clear hb10
          go_wp2
          go_ret
          exact ⟨rfl, HW0.out.2.trans (HF.out.mono HW0.out.2.size)⟩
end Go.Proofs.YtnnghcooidjlhaaGreat
end
