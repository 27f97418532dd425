/- Parts of the proof: Za. -/
import Derived.Test.YtnnghcooidjlhaaGreatB28
set_option linter.all false
section
set_option linter.unusedSimpArgs false
set_option linter.unusedVariables false
set_option maxRecDepth 100000
namespace Go.Proofs.YtnnghcooidjlhaaGreat
open Go.RowKit Go.Lib
def Rn25 (w : World) (xb : Nat) (s : SL) (lp : Int) (j : Nat) (W : World) (l : List Sn) : Prop :=
  ∃ O N, SnI TR W xb s lp O N l ∧ N ≤ j ∧ l.length ≤ j ∧ Below w.heap.size w W ∧ ∀ b ∈ xb :: s.sb :: s.tb :: O, w.heap.size ≤ b
section
variable {w : World} {xb : Nat} {s : SL} {lp : Int} {j : Nat} {W W' : World} {l : List Sn}
theorem Rn25.below (h : Rn25 w xb s lp j W l) (hb : Below W.heap.size W W') : Rn25 w xb s lp j W' l := by
  obtain ⟨O, N, h1, h5, h6, h7, h8⟩ := h
  exact ⟨O, N, h1.below hb, h5, h6, h7.trans (hb.mono h7.size), h8⟩
theorem Rn25.fr (h : Rn25 w xb s lp j W l) : Below w.heap.size w W := by
  obtain ⟨O, N, h1, h5, h6, h7, h8⟩ := h
  exact h7
theorem Rn25.up {i : Nat} (h : Rn25 w xb s lp j W l) (hi : j ≤ i) : Rn25 w xb s lp i W l := by
  obtain ⟨O, N, h1, h5, h6, h7, h8⟩ := h
  exact ⟨O, N, h1, by omega, by omega, h7, h8⟩
theorem rn25_take (h : Rn25 w xb s lp j W l) (hj : j ≤ 50) (a : A25) (ha : a.good w) :
    Calls Tryz.prog 22 #[.pointer (some ⟨xb, 0, none⟩), .string (S a.k), staV a.p a.st.words.length a.c a.st] W fun e w' => ∃ (er : Int) (l' : List Sn), e = .returned (.int .i64 er) ∧ Rn25 w xb s lp (j + 1) w' l' := by
  by_cases hk : a.k.length ≤ 29 ∧ a.st.right
  · obtain ⟨O, N, h1, h5, h6, h7, h8⟩ := h
    refine (sn_take h1 (by omega) hk.1 (ha.1.below h7) rfl hk.2 ha.2).mono ?_
    rintro r w' ⟨O', rfl, g1, g2, g3⟩
    refine ⟨_, _, rfl, O', N + 1, g1, by omega, Nat.le_trans (setS_length _ _) (by omega), h7.trans (g2.to_below h7.size (fun x hx => h8 x (by simp [hx]))), fun b hm => ?_⟩
    rcases List.mem_cons.1 hm with rfl | hm
    · exact h8 b (by simp)
    rcases List.mem_cons.1 hm with rfl | hm
    · exact h8 s.sb (by simp)
    rcases List.mem_cons.1 hm with rfl | hm
    · exact h8 s.tb (by simp)
    rcases g3 b hm with h | h
    · exact h8 b (by simp [h])
    · exact Nat.le_trans h7.size h
  · refine (stake_no ⟨xb, 0, none⟩ a.k a.p _ a.c a.st rfl hk W).mono ?_
    rintro r w' ⟨rfl, hb⟩
    exact ⟨_, l, rfl, (h.below hb).up (by omega)⟩
theorem rn25_ahead (h : Rn25 w xb s lp j W l) {k : Bs} (hk : k.length ≤ 29) :
    Calls Tryz.prog 23 #[.pointer (some ⟨xb, 0, none⟩), .string (S k)] W fun r w' => ∃ (x : Bs) (p : Option Addr) (n c : Nat) (z d er : Int), r = .returned (.tuple #[.string (S x), .agg #[.slice p n c, .int .i64 z, .int .i64 d], .int .i64 er]) ∧ Rn25 w xb s lp j w' l ∧ ((er = 9 ∧ ∀ y ∈ l, ¬ y.k < k) ∨ (er = 0 ∧ x < k ∧ ∀ y ∈ l, y.k < k → ¬ x < y.k)) := by
  obtain ⟨O, N, h1, h5, h6, h7, h8⟩ := h
  have hasc := h1.asc
  by_cases hn : belowS l k = []
  · refine (sn_ahead_none h1 hk hn).mono ?_
    rintro r w' ⟨rfl, g1, g2⟩
    refine ⟨[], none, 0, 0, 0, 0, 9, rfl, ⟨O, N, g1, h5, h6, h7.trans (g2.to_below h7.size (fun x hx => h8 x (by simp [hx]))), h8⟩, .inl ⟨rfl, fun y hy hlt => ?_⟩⟩
    have : y ∈ belowS l k := List.mem_filter.2 ⟨hy, by simpa using hlt⟩
    rw [hn] at this
    simp at this
  · have hk0 : k ≠ [] := fun e => hn (List.filter_eq_nil_iff.2 (fun y _ => by simp [e]))
    obtain ⟨x, hx⟩ : ∃ x, (belowS l k).getLast? = some x := ⟨_, List.getLast?_eq_some_getLast hn⟩
    refine (sn_ahead_some h1 hk hk0 hx).mono ?_
    rintro r w' ⟨p, n, c, rfl, _, _, _, g1, g2⟩
    have hxm := List.mem_of_getLast? hx
    refine ⟨x.k, p, n, c, _, _, 0, rfl, ⟨O, N, g1, h5, h6, h7.trans (g2.to_below h7.size (fun x hx => h8 x (by simp [hx]))), h8⟩, .inr ⟨rfl, by simpa using (List.mem_filter.1 hxm).2, fun y hy hlt hxy => ?_⟩⟩
    have hyb : y ∈ belowS l k := List.mem_filter.2 ⟨hy, by simpa using hlt⟩
    have hp : (belowS l k).Pairwise fun a b => a.k < b.k := hasc.filter _
    obtain ⟨t, ht⟩ := List.getLast?_eq_some_iff.1 hx
    rw [ht] at hyb hp
    rcases List.mem_append.1 hyb with hm | hm
    · have := (List.pairwise_append.1 hp).2.2 y hm x (by simp)
      exact blt_asymm hxy this
    · rw [List.mem_singleton.1 hm] at hxy
      exact blt_irrefl _ hxy
theorem rn25_keys (h : Rn25 w xb s lp j W l) (hj : j ≤ 50) :
    Calls Tryz.prog 24 #[.pointer (some ⟨xb, 0, none⟩)] W fun e w' => ∃ p c, e = .returned (.tuple #[.slice p l.length c, .int .i64 0]) ∧ Rn25 w xb s lp j w' l ∧ Vw 1 kC w' (.slice p l.length c) (l.map Sn.k) := by
  obtain ⟨O, N, h1, h5, h6, h7, h8⟩ := h
  obtain ⟨M, m1, m2, m3⟩ := h1.m
  refine (skeys_any h1.b m1 h1.noO h1.hlp m2 (by omega)).mono ?_
  rintro r w' ⟨v', rfl, hS, hK, hO⟩
  obtain ⟨p, c, rfl⟩ := own_slice2 hO
  exact ⟨p, c, rfl, ⟨O, N, h1.turn hK (Gr.refl _ _) hS m2 m3, h5, h6, h7.trans (hK.to_below h7.size (fun x hx => h8 x (by simp [hx]))), h8⟩, Vw.of_own kC_len hO (by simp)⟩
end
set_option maxHeartbeats 16000000 in
theorem snear25_any {w : World} {p : Option Addr} {n c : Nat} {l : List A25} (hv : Vw 5 a25C w (.slice p n c) l) (hn : n = l.length) (hok : ∀ a ∈ l, a.good w) (key : Bs) :
    Calls Tryz.prog 3 #[.slice p n c, .string (S key)] w fun r w' => r = .returned (.bool true) ∧ Below w.heap.size w w' := by
  have HB := hid (begun25_any 0 (by omega) w)
  have HA := hid (fun W => awake25_any W)
  have HX := hid (⟨hv, hn, hok⟩ : _ ∧ _ ∧ _)
  clear hv hn hok
  by_cases hkey : key.length ≤ 29
  case neg =>
    have hlong : (29 : Int) < (key.length : Int) := by omega
    clear hkey
    go_enter Tryz.func3, Tryz.ntmps3
    go_wp2_with fail
    (with_reducible refine HB.out.mono ?_)
    rintro r W1 ⟨xb, s, O, rfl, hI, hb, ho⟩
    have H1 := hid hb
    clear hI hb ho
    go_wp2_with fail
    (with_reducible refine (HA.out W1).mono ?_)
    rintro r W2 ⟨rfl, hb2⟩
    have H2 := hid (H1.out.trans (hb2.mono H1.out.size))
    clear hb2
    go_wp2_with fail
    (with_reducible refine (HA.out W2).mono ?_)
    rintro r W3 ⟨rfl, hb3⟩
    have H3 := hid (H2.out.trans (hb3.mono H2.out.size))
    clear hb3
    go_wp2
    go_ret
    exact ⟨rfl, H3.out⟩
  case pos =>
    have hlong : ¬ (29 : Int) < (key.length : Int) := by omega
    have HKY := hid hkey
    clear hkey
    go_enter Tryz.func3, Tryz.ntmps3
    go_wp2_with fail
    (with_reducible refine HB.out.mono ?_)
    rintro r W1 ⟨xb, s, O, rfl, hI, hb, ho⟩
    have H1 := hid (⟨hI, hb, ho⟩ : _ ∧ _ ∧ _)
    clear hI hb ho
    go_wp2_with fail
    (with_reducible refine (HA.out W1).mono ?_)
    rintro r W2 ⟨rfl, hb2⟩
    have HI0 : Hid (Rn25 w xb s 0 0 W2 []) := hid ⟨O, 0, H1.out.1.below hb2, by omega, by simp, H1.out.2.1.trans (hb2.mono H1.out.2.1.size), H1.out.2.2⟩
    clear hb2
    go_wp2
    go_loopg [6] 20 (fun gg s6 wr => ∃ (j : Nat) (lm : List Sn), j ≤ 20 ∧ 20 - j ≤ gg ∧ s6 = .int .i64 j ∧ Hid (Rn25 w xb s 0 j wr lm))
    case atStart => exact ⟨0, _, by omega, by omega, rfl, HI0⟩
    case round =>
      obtain ⟨j, lm, hj, hgg, rfl, HI⟩ := hrel
      by_cases hjj : j < n ∧ j < 20
      · obtain ⟨hjn, hje⟩ := hjj
        obtain ⟨a, ha⟩ : ∃ a, l[j]? = some a := ⟨_, List.getElem?_eq_getElem (by rw [← HX.out.2.1]; exact hjn)⟩
        obtain ⟨b, off, c', e, hc, hbl, hcx⟩ := HX.out.1.ex (by rintro rfl; simp at ha)
        injection e with e1 e2 e3
        subst e1
        clear e2 e3
        have HC : Hid (∀ W, Below w.heap.size w W → W.cell? ⟨b, off + j * 5, none⟩ = some (.int .i64 a.kd) ∧ W.cell? ⟨b, off + j * 5 + 1, none⟩ = some (.string (S a.k)) ∧ W.cell? ⟨b, off + j * 5 + 2, none⟩ = some (.slice a.p a.st.words.length a.c) ∧ W.cell? ⟨b, off + j * 5 + 3, none⟩ = some (.int .i64 a.st.sent) ∧ W.cell? ⟨b, off + j * 5 + 4, none⟩ = some (.int .i64 a.st.dice)) := hid fun W hW => by
          have hcell : ∀ q u, (a25C a)[q]? = some u → W.cell? ⟨b, off + j * 5 + q, none⟩ = some u := fun q u hu => (World.cell?_of_block (hW.block b hbl)).trans (hcx j a ha q u hu)
          exact ⟨hcell 0 _ rfl, hcell 1 _ rfl, hcell 2 _ rfl, hcell 3 _ rfl, hcell 4 _ rfl⟩
        have HG := hid (HX.out.2.2 a (List.mem_of_getElem? ha))
        have HSH := hid (fun W => short25_any a.kd a.k a.p a.st.words.length a.c a.st W)
        have hji : (j : Int) < (n : Int) := by omega
        have hji2 : (j : Int) < 20 := by omega
        obtain ⟨m0, m1, m2, m3, m4⟩ := HC.out wr HI.out.fr
        clear ha hc hbl hcx
        go_wp2_with fail
        (with_reducible refine (HSH.out wr).mono ?_)
        rintro r W3 ⟨rfl, hb3⟩
        have HR3 := hid (HI.out.below hb3)
        clear hb3 m0 m1 m2 m3 m4
        cases hs : decide (a.k.length < 100 ∧ a.st.words.length < 60)
        case false =>
          go_wp2
          go_roundg (20 - (j + 1))
          case measure => omega
          case rel => exact ⟨j + 1, lm, by omega, by omega, by go_num, hid (HR3.out.up (by omega))⟩
        case true =>
          obtain ⟨m0, m1, m2, m3, m4⟩ := HC.out W3 HR3.out.fr
          clear hs
          have HDR := hid (BelC.drew W3)
          have HRW : Hid (∀ W, BelC W3 W → Rn25 w xb s 0 j W lm) := hid fun W hW => HR3.out.below hW.out
          have HT := hid (rn25_take (HR3.out.below (below_drewN (Below.refl W3.heap.size W3) 1)) (by omega) a HG.out)
          unfold staV at HT
          have HCK : Hid (∀ W', Below w.heap.size w W' → W'.cell? ⟨b, off + j * 5 + 1, none⟩ = some (.string (S a.k)) ∧ W'.cell? ⟨b, off + j * 5 + 2, none⟩ = some (.slice a.p a.st.words.length a.c) ∧ W'.cell? ⟨b, off + j * 5 + 3, none⟩ = some (.int .i64 a.st.sent) ∧ W'.cell? ⟨b, off + j * 5 + 4, none⟩ = some (.int .i64 a.st.dice)) := hid fun W' h => (HC.out W' h).2
          go_wp2
          go_region_held3 (fun W => W.cell? ⟨b, off + j * 5 + 1, none⟩ = some (.string (S a.k)) ∧ W.cell? ⟨b, off + j * 5 + 2, none⟩ = some (.slice a.p a.st.words.length a.c) ∧ W.cell? ⟨b, off + j * 5 + 3, none⟩ = some (.int .i64 a.st.sent) ∧ W.cell? ⟨b, off + j * 5 + 4, none⟩ = some (.int .i64 a.st.dice)) (first | exact hck5 | exact ⟨m1, m2, m3, m4⟩)
            (first
              | (go_at_call 22; refine HT.out.mono ?_; rintro r W4 ⟨er, l4, rfl, hR4⟩; have hck5 := HCK.out W4 hR4.fr))
          all_goals
            have HR4 := hid hR4
            clear hR4 hck5 m0 m1 m2 m3 m4
            go_wp2
            go_roundg (20 - (j + 1))
            case measure => omega
            case rel => exact ⟨j + 1, l4, by omega, by omega, by go_num, HR4⟩
      · have HR := hid HI.out
        have HAH := hid (rn25_ahead HI.out HKY.out)
        have hexit : ¬ (j : Int) < (n : Int) ∨ ((j : Int) < (n : Int) ∧ ¬ (j : Int) < 20) := by omega
        clear hjj
        rcases hexit with hji | ⟨hji, hji2⟩
        all_goals
          go_wp2_with fail
          (with_reducible refine HAH.out.mono ?_)
          rintro r W3 ⟨x, px, nx, cx, z, d, er, rfl, hR3, hcs⟩
          obtain ⟨W4, hW4⟩ : ∃ W4, W4 = W3.alloc (.cells #[.slice px nx cx, .int .i64 z, .int .i64 d] 29) := ⟨_, rfl⟩
          have hb4 : Below W3.heap.size W3 W4 := by rw [hW4]; exact (Below.refl _ W3).alloc (Nat.le_refl _) _
          have HK := hid (rn25_keys (hR3.below hb4) (by omega))
          have hll : lm.length ≤ 20 := by obtain ⟨_, _, _, _, h6, _⟩ := hR3; omega
          obtain ⟨nk, hnk⟩ : ∃ nk, nk = lm.length := ⟨_, rfl⟩
          have HNK := hid hnk
          rw [← hnk] at HK hll
          have HCS := hid hcs
          rw [hW4] at HK
          clear hR3 hcs hb4 hW4 hnk
          go_wp2_with fail
          (with_reducible refine HK.out.mono ?_)
          rintro r W5 ⟨p5, c5, rfl, hR5, hV5⟩
          have H5 := hid (⟨hR5, hV5⟩ : _ ∧ _)
          clear hR5 hV5
          go_wp2
          go_loopg [12] nk (fun gg s12 wr => ∃ i : Nat, i ≤ nk ∧ nk - i ≤ gg ∧ s12 = .int .i64 i ∧ W5 = wr)
          case atStart => exact ⟨0, by omega, by omega, rfl, rfl⟩
          case round =>
            obtain ⟨i, hi, hgg2, rfl, rfl⟩ := hrel
            by_cases hie : i < nk
            · obtain ⟨y, hy⟩ : ∃ y, lm[i]? = some y := ⟨_, List.getElem?_eq_getElem (by rw [← HNK.out]; exact hie)⟩
              have hyk : (lm.map Sn.k)[i]? = some y.k := by rw [List.getElem?_map, hy]; rfl
              obtain ⟨b1, o1, _, e1, _, hb1, k1⟩ := H5.out.2.ex (by intro e0; rw [e0] at hyk; simp at hyk)
              injection e1 with e1 e3 e4
              subst e1
              clear e3 e4
              have q1 : W5.cell? ⟨b1, o1 + i, none⟩ = some (.string (S y.k)) := by
                have q1 := k1 i y.k hyk 0 _ rfl
                rwa [Nat.mul_one, Nat.add_zero] at q1
              have hym := List.mem_of_getElem? hy
              have hii : (i : Int) < (nk : Int) := by omega
              by_cases hlt : y.k < key
              · rcases HCS.out with ⟨_, hno⟩ | ⟨rfl, hxk, hno⟩
                · exact absurd hlt (hno y hym)
                · have hb1' : Op.bytesLess y.k key = true := by rw [bl]; exact decide_eq_true hlt
                  have hb2' : (Op.bytesLess y.k x || y.k == x) = true := by
                    rw [bl, Bool.or_eq_true]
                    rcases blt_tri y.k x with h | h | h
                    · exact .inl (decide_eq_true h)
                    · exact .inr (beq_iff_eq.2 h)
                    · exact absurd h (hno y hym hlt)
                  clear hy hyk k1 hym hno hxk
                  go_wp2
                  go_roundg (nk - (i + 1))
                  case measure => omega
                  case rel => exact ⟨i + 1, by omega, by omega, by go_num, rfl⟩
              · have hb1' : Op.bytesLess y.k key = false := by rw [bl]; exact decide_eq_false hlt
                clear hy hyk k1 hym
                go_wp2
                go_roundg (nk - (i + 1))
                case measure => omega
                case rel => exact ⟨i + 1, by omega, by omega, by go_num, rfl⟩
            · have hii : ¬ ((i : Int) < (nk : Int)) := by omega
              rcases HCS.out with ⟨rfl, _⟩ | ⟨rfl, hxk, _⟩
              · go_wp2
                go_ret
                exact ⟨rfl, H5.out.1.fr⟩
              · have hb3' : Op.bytesLess x key = true := by rw [bl]; exact decide_eq_true hxk
                clear hxk
                go_wp2
                go_ret
                exact ⟨rfl, H5.out.1.fr⟩
end Go.Proofs.YtnnghcooidjlhaaGreat
end
