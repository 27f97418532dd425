/- Parts of the proof: Zub. -/
import Derived.Deep.Cut
import Derived.Deep.CutRange
import Derived.Test.YtnnghcooidjlhaaGreatE34
import Derived.Test.YtnnghcooidjlhaaGreatE48
import Derived.Test.YtnnghcooidjlhaaGreatE50
set_option linter.all false
set_option maxRecDepth 100000
namespace Go.Proofs.YtnnghcooidjlhaaGreat
section
open Go.RowKit Go.Lib
theorem Vw.itAt2 {W : World} {b o n c j : Nat} {l : List It} {x : It} (h : Vw 7 itC W (.slice (some ⟨b, o, none⟩) n c) l) (hx : l[j]? = some x) : ItAt W b o j x := by
  obtain ⟨b', o', e, hC⟩ := h.itAt hx
  injection e with e
  injection e with e1 e2
  subst e1 e2
  exact hC W (Below.refl _ _)
def It.may (x : It) : Prop := x.e.ok ∧ x.c.length < 9223372036854775807
theorem n0_may {x : It} (h : x.may) : x.n0.may := by
  refine ⟨?_, h.2⟩
  obtain ⟨h0, h1⟩ := h.1
  exact ⟨t00_lt h0, h1⟩
theorem placesO_may {l : List It} (h : ∀ x ∈ l, x.may) : ∀ x ∈ placesO l, x.may := by
  have main : ∀ (l m : List It), (∀ x ∈ l, x.may) → (∀ x ∈ m, x.may) → ∀ x ∈ l.foldl placeO m, x.may := by
    intro l
    induction l with
    | nil => intro m _ h; exact h
    | cons y t ih =>
      intro m hl hm
      refine ih _ (fun x hx => hl x (by simp [hx])) (fun x hx => ?_)
      unfold placeO at hx
      rcases put24_mem hx with rfl | hx
      · exact n0_may (hl y (by simp))
      · exact hm x (mem_del24.1 (mem_del24.1 hx).1).1
  exact main l [] h (by simp)
theorem placesO_apart (l : List It) : ApartO (placesO l) := by
  have main : ∀ (l m : List It), ApartO m → ApartO (l.foldl placeO m) := by
    intro l
    induction l with
    | nil => intro m h; exact h
    | cons y t ih => intro m h; exact ih _ (placeO_apart h y)
  exact main l [] List.Pairwise.nil
theorem placesO_length (l : List It) : (placesO l).length ≤ l.length := by
  have main : ∀ (l m : List It), (l.foldl placeO m).length ≤ m.length + l.length := by
    intro l
    induction l with
    | nil => intro m; simp
    | cons y t ih =>
      intro m
      have h1 := ih (placeO m y)
      have h2 := placeO_length m y
      rw [List.foldl_cons, List.length_cons]
      omega
  have h := main l []
  unfold placesO
  simpa using h
set_option maxHeartbeats 64000000 in
theorem oorder24_any {w : World} {p : Option Addr} {n c : Nat} {l : List It} (hv : Vw 7 itC w (.slice p n c) l) (hn : n = l.length) (hok : ∀ a ∈ l, a.may) (tu : Int) (htu : 0 ≤ tu ∧ tu < 256) :
    Calls Tryz.prog 8 #[.slice p n c, .int .u8 tu] w fun r w' => r = .returned (.bool true) ∧ Below w.heap.size w w' := by
  have HB := hid (fun W => begun24_any W)
  have HA := hid (fun W => awake24_any W)
  obtain ⟨m, hm⟩ : ∃ m, m = min n 12 := ⟨_, rfl⟩
  obtain ⟨l2, hl2⟩ : ∃ l2, l2 = l.take m := ⟨_, rfl⟩
  have hll : l2.length = m := by rw [hl2, List.length_take]; omega
  have hv2 : Vw 7 itC w (.slice p m c) l2 ∧ ((12 : Int) < (n : Int) → (12 : Int) ≤ (c : Int) ∧ ∃ b o, p = some ⟨b, o, none⟩) := by
    by_cases h0 : l = []
    · subst h0
      have : m = 0 := by rw [hm, hn]; rfl
      rw [this, hl2]
      exact ⟨by simpa using Vw.nil 7 itC w p c, fun h => by rw [hn] at h; simp at h⟩
    · obtain ⟨b, o, c', e, hc, _⟩ := hv.ex h0
      injection e with e1 e2 e3
      subst e1 e3
      refine ⟨?_, fun h => ⟨by omega, b, o, rfl⟩⟩
      rw [hl2]
      rw [hn] at hv
      exact hv.take m (by omega)
  obtain ⟨hv2, hcap⟩ := hv2
  have hok2 : ∀ a ∈ l2, a.may := fun a ha => hok a (by rw [hl2] at ha; exact List.mem_of_mem_take ha)
  obtain ⟨tn, htn⟩ : ∃ tn : Nat, tu = (tn : Int) ∧ tn < 256 := ⟨tu.toNat, by omega, by omega⟩
  obtain ⟨htn, htn2⟩ := htn
  subst htn
  have HX := hid (⟨hv2, hll, hok2⟩ : _ ∧ _ ∧ _)
  have hms : m ≤ 12 := by omega
  have hcs : ((12 : Int) < (n : Int) ∧ m = 12 ∧ (12 : Int) ≤ (c : Int) ∧ ∃ b o, p = some ⟨b, o, none⟩) ∨ (¬ (12 : Int) < (n : Int) ∧ m = n) := by
    by_cases h : (12 : Int) < (n : Int)
    · exact .inl ⟨h, by omega, hcap h⟩
    · exact .inr ⟨h, by omega⟩
  have hmn : m ≤ n := by omega
  clear hv hn hok hm hl2 hll hv2 hok2 htu hcap
  go_enter Tryz.func8, Tryz.ntmps8
  go_wp2_with fail
  (with_reducible refine (HB.out _).mono ?_)
  rintro r W1 ⟨t1, x1, y1, s1, O1, rfl, hT1⟩
  have H1 := hid hT1
  clear hT1
  go_wp2_with fail
  (with_reducible refine (HB.out _).mono ?_)
  rintro r W2 ⟨t2, x2, y2, s2, O2, rfl, hT2⟩
  have H2 := hid (Od.of H1.out hT2)
  clear hT2
  go_wp2_with fail
  (with_reducible refine (HA.out W2).mono ?_)
  rintro r W3 ⟨rfl, hb3⟩
  have HI0 : Hid (Od w W3 t1 x1 y1 s1 t2 x2 y2 s2 0 [(.slice none 0 0, placesO (l2.take 0))] [] []) := hid (by
    obtain ⟨O1, N1, L1, O2, N2, L2, h1, h2, h3, h4, h5, h6, h7, h9⟩ := H2.out.below hb3
    exact ⟨O1, N1, L1, O2, N2, L2, h1, h2, h3, h4, h5, h6, h7, fun z hz => by
      rw [List.mem_singleton.1 hz]
      exact ⟨Vw.nil _ _ _ _ _, fun b e => by cases e⟩⟩)
  clear hb3
  go_upto_if 29 with fail
  go_cut [0] from 27 (fun s0 wc => s0 = .slice p m c ∧ wc = W3)
  case first =>
    rcases hcs with ⟨q1, q2, q3, bb, oo, q4⟩ | ⟨q1, q2⟩
    · subst q4
      go_wp2_with fail
      go_meet
      case rel => exact ⟨by rw [q2], rfl⟩
    · go_wp2_with fail
      go_meet
      case rel => exact ⟨by rw [q2], rfl⟩
  case rest =>
    obtain ⟨rfl, rfl⟩ := hcut
    clear hcs
    go_wp2
    go_loopg [7, 8] m (fun gg s7 s8 wr => ∃ (j : Nat) (q : Option Addr) (nm d : Nat), j ≤ m ∧ m - j ≤ gg ∧ s8 = .int .i64 j ∧ s7 = .slice q nm d ∧ Hid (nm = (placesO (l2.take j)).length ∧ Od w wr t1 x1 y1 s1 t2 x2 y2 s2 0 [(.slice q nm d, placesO (l2.take j))] [] []))
    case atStart => exact ⟨0, _, _, _, by omega, by omega, rfl, rfl, hid ⟨rfl, HI0.out⟩⟩
    case round =>
      obtain ⟨j, q, nm, d, hj, hgg, rfl, rfl, HI⟩ := hrel
      by_cases hjm : j < m
      · obtain ⟨x, hx⟩ : ∃ x, l2[j]? = some x := ⟨_, List.getElem?_eq_getElem (by rw [HX.out.2.1]; exact hjm)⟩
        obtain ⟨b, o, e1, hC⟩ := HX.out.1.itAt hx
        first
          | subst e1
          | (have e13 : b = bb ∧ o = oo := by
              injection e1 with e1
              injection e1 with e1 e2
              exact ⟨e1.symm, e2.symm⟩
             obtain ⟨rfl, rfl⟩ := e13)
        have hji : (j : Int) < (m : Int) := by omega
        have hji2 : (j : Int) < 12 := by omega
        have HC := hid hC
        have hml : (placesO (l2.take j)).length ≤ 12 := Nat.le_trans (placesO_length _) (Nat.le_trans (List.length_take_le _ _) (by omega))
        have hnm : nm ≤ 12 := by rw [HI.out.1]; exact hml
        obtain ⟨m0, m1, m2, m3, m4, m5, m6⟩ := HC.out wr HI.out.2.fr
        have HCK : Hid (∀ W', Below wr.drew.heap.size wr.drew W' → ItAt W' b o j x) := hid fun W' hb => HC.out W' (HI.out.2.fr.trans (((below_drewN (Below.refl wr.heap.size wr) 1).trans hb).mono HI.out.2.fr.size))
        have HDL := hid (del24_any ((HI.out.2.vw (z := (.slice q nm d, placesO (l2.take j))) (by simp)).below (below_drewN (Below.refl wr.heap.size wr) 1)) HI.out.1 (by omega) x)
        have HMY := hid (HX.out.2.2 x (List.mem_of_getElem? hx))
        have HTK : Hid (placesO (l2.take (j + 1)) = put24 (del24 (placesO (l2.take j)) x) x.n0) := hid (by
          unfold placesO
          rw [foldl_take_next hx]
          rfl)
        unfold itV at HDL
        obtain ⟨wo, hwo⟩ : ∃ wo, wo = wr := ⟨_, rfl⟩
        subst hwo
        clear hC hx
        have hb0 := Below.refl wo.drew.heap.size wo.drew
        go_wp2
        refine wp_region_held_drew (S := (fun W : World => W.cell? ⟨b, o + j * 7, none⟩ = some (.string (S x.c)) ∧ W.cell? ⟨b, o + j * 7 + 1, none⟩ = some (.int .i64 x.k) ∧ W.cell? ⟨b, o + j * 7 + 2, none⟩ = some (.float .f64 x.e.t) ∧ W.cell? ⟨b, o + j * 7 + 3, none⟩ = some (.int .i64 x.e.src) ∧ W.cell? ⟨b, o + j * 7 + 4, none⟩ = some (.int .i64 x.e.n) ∧ W.cell? ⟨b, o + j * 7 + 5, none⟩ = some (.int .i64 x.e.dst) ∧ W.cell? ⟨b, o + j * 7 + 6, none⟩ = some (.int .i64 x.e.pay))) (by kernel_rfl) (by exact ⟨m0, m1, m2, m3, m4, m5, m6⟩) (fun hHeld => ?_)
        refine hTk (i := 0) (v := ?_) (by (simp only [gEa, gEb, gEc]; try rfl)) (by kernel_rfl) ?_ (Or.inl ⟨by rfl, ?_⟩) hHeld ?_; rotate_left 2; (focus (intro wz hSw; (try dsimp only at hSw); go_simp; first | done | with_reducible rfl)); rotate_left; (focus exact fun _ _ _ h => h); (try simp only [Act.put, sEa, sEb, sEc]); refine hTk (i := 1) (v := ?_) (by (simp only [gEa, gEb, gEc]; try rfl)) (by kernel_rfl) ?_ (Or.inl ⟨by rfl, ?_⟩) hHeld ?_; rotate_left 2; (focus (intro wz hSw; (try dsimp only at hSw); go_simp; first | done | with_reducible rfl)); rotate_left; (focus exact fun _ _ _ h => h); (try simp only [Act.put, sEa, sEb, sEc]); refine hTk (i := 2) (v := ?_) (by (simp only [gEa, gEb, gEc]; try rfl)) (by kernel_rfl) ?_ (Or.inl ⟨by rfl, ?_⟩) hHeld ?_; rotate_left 2; (focus (intro wz hSw; (try dsimp only at hSw); go_simp; first | done | with_reducible rfl)); rotate_left; (focus exact fun _ _ _ h => h); (try simp only [Act.put, sEa, sEb, sEc]); refine hTk (i := 3) (v := ?_) (by (simp only [gEa, gEb, gEc]; try rfl)) (by kernel_rfl) ?_ (Or.inl ⟨by rfl, ?_⟩) hHeld ?_; rotate_left 2; (focus (intro wz hSw; (try dsimp only at hSw); go_simp; first | done | with_reducible rfl)); rotate_left; (focus exact fun _ _ _ h => h); (try simp only [Act.put, sEa, sEb, sEc]); refine hTk (i := 4) (v := ?_) (by (simp only [gEa, gEb, gEc]; try rfl)) (by kernel_rfl) ?_ (Or.inl ⟨by rfl, ?_⟩) hHeld ?_; rotate_left 2; (focus (intro wz hSw; (try dsimp only at hSw); go_simp; first | done | with_reducible rfl)); rotate_left; (focus exact fun _ _ _ h => h); (try simp only [Act.put, sEa, sEb, sEc]); refine hTk (i := 6) (v := ?_) (by (simp only [gEa, gEb, gEc]; try rfl)) (by kernel_rfl) ?_ (Or.inl ⟨by rfl, ?_⟩) hHeld ?_; rotate_left 2; (focus (intro wz hSw; (try dsimp only at hSw); go_simp; first | done | with_reducible rfl)); rotate_left; (focus exact fun _ _ _ h => h); (try simp only [Act.put, sEa, sEb, sEc]); refine hTk (i := 7) (v := ?_) (by (simp only [gEa, gEb, gEc]; try rfl)) (by kernel_rfl) ?_ (Or.inl ⟨by rfl, ?_⟩) hHeld ?_; rotate_left 2; (focus (intro wz hSw; (try dsimp only at hSw); go_simp; first | done | with_reducible rfl)); rotate_left; (focus exact fun _ _ _ h => h); (try simp only [Act.put, sEa, sEb, sEc]); refine hTk (i := 8) (v := ?_) (by (simp only [gEa, gEb, gEc]; try rfl)) (by kernel_rfl) ?_ (Or.inl ⟨by rfl, ?_⟩) hHeld ?_; rotate_left 2; (focus (intro wz hSw; (try dsimp only at hSw); go_simp; first | done | with_reducible rfl)); rotate_left; (focus exact fun _ _ _ h => h); (try simp only [Act.put, sEa, sEb, sEc]); refine hTk (i := 9) (v := ?_) (by (simp only [gEa, gEb, gEc]; try rfl)) (by kernel_rfl) ?_ (Or.inl ⟨by rfl, ?_⟩) hHeld ?_; rotate_left 2; (focus (intro wz hSw; (try dsimp only at hSw); go_simp; first | done | with_reducible rfl)); rotate_left; (focus exact fun _ _ _ h => h); (try simp only [Act.put, sEa, sEb, sEc])
        refine wpAnyH_ready (rs := [5]) (by kernel_rfl) (by simp) ?_; refine AllReadyH.cons (by (simp only [gEa, gEb, gEc]; try rfl)) (fun K hK => ?_) AllReadyH.nil; go_simp; (go_at_call 40; refine HDL.out.mono ?_; rintro r W4 ⟨v4, rfl, hO4, hb4⟩; have hck4 := HCK.out W4 hb4; (obtain ⟨n4, hn4⟩ : ∃ n4, n4 = (del24 (placesO (l2.take j)) x).length := ⟨_, rfl⟩); have HN4 := hid hn4; rw [← hn4] at hO4; clear hn4; obtain ⟨p4, c4, rfl⟩ := own_slice2 hO4); refine hK.out _ _ (by exact hck4) (fun hHeld => ?_); clear hK K; (try simp only [Act.put, sEa, sEb, sEc])
        have HPT := hid (put24_any (Vw.of_own itC_len hO4 HN4.out) HN4.out (by have h1 := HN4.out; have h2 := del24_length (placesO (l2.take j)) x; omega) x HMY.out.1)
        unfold itV at HPT
        refine wpAnyH_ready (rs := [10]) (by kernel_rfl) (by simp) ?_; refine AllReadyH.cons (by (simp only [gEa, gEb, gEc]; try rfl)) (fun K hK => ?_) AllReadyH.nil; go_simp; (go_at_call 36; refine HPT.out.mono ?_; rintro r W5 ⟨v5, rfl, hO5, hb5⟩; have hck5 := HCK.out W5 (hb4.trans (hb5.mono hb4.size)); (obtain ⟨n5, hn5⟩ : ∃ n5, n5 = (put24 (del24 (placesO (l2.take j)) x) x.n0).length := ⟨_, rfl⟩); have HN5 := hid hn5; rw [← hn5] at hO5; clear hn5; obtain ⟨p5, c5, rfl⟩ := own_slice2 hO5); refine hK.out _ _ (by exact hck5) (fun hHeld => ?_); clear hK K; (try simp only [Act.put, sEa, sEb, sEc])
        refine hTk (i := 11) (v := ?_) (by (simp only [gEa, gEb, gEc]; try rfl)) (by kernel_rfl) ?_ (Or.inl ⟨by rfl, ?_⟩) hHeld ?_; rotate_left 2; (focus (intro wz hSw; (try dsimp only at hSw); go_simp; first | done | with_reducible rfl)); rotate_left; (focus exact fun _ _ _ h => h); (try simp only [Act.put, sEa, sEb, sEc])
        refine wpAnyH_done (by kernel_rfl) ?_ _
        all_goals
          have hb05 := (below_drewN (Below.refl wo.heap.size wo) 1).trans (hb4.trans (hb5.mono hb4.size))
          have H5 : Hid (n5 = (placesO (l2.take (j + 1))).length ∧ Od w W5 t1 x1 y1 s1 t2 x2 y2 s2 0 [(.slice p5 n5 c5, placesO (l2.take (j + 1)))] [] []) := hid (by
            rw [HTK.out]
            refine ⟨HN5.out, (((HI.out.2.below ((below_drewN (Below.refl wo.heap.size wo) 1).trans hb4)).add hb5 (by rw [← HN5.out]; exact hO5))).sub (fun z hz => by rw [List.mem_singleton.1 hz]; simp)⟩)
          clear hO4 hO5 hb4 hb5 hck4 hck5 hb05 m0 m1 m2 m3 m4 m5 m6
          go_wp2
          go_roundg (m - (j + 1))
          case measure => omega
          case rel => exact ⟨j + 1, _, _, _, by omega, by omega, by go_num, rfl, H5⟩
      · have hjm2 : j = m := by omega
        obtain ⟨M, hM⟩ : ∃ M, M = placesO l2 := ⟨_, rfl⟩
        have HI1 : Hid (nm = M.length ∧ Od w wr t1 x1 y1 s1 t2 x2 y2 s2 0 [(.slice q nm d, M)] [] []) := hid (by
          have h1 := HI.out
          rw [hjm2, List.take_of_length_le (by rw [HX.out.2.1]; exact Nat.le_refl _), ← hM] at h1
          exact h1)
        have HMM : Hid ((∀ x ∈ M, x.may) ∧ ApartO M) := hid ⟨by rw [hM]; exact placesO_may HX.out.2.2, by rw [hM]; exact placesO_apart l2⟩
        have hnm : nm ≤ 12 := by
          rw [HI1.out.1, hM]
          exact Nat.le_trans (placesO_length l2) (by rw [HX.out.2.1]; exact hms)
        first
          | have hx1 : ¬ (j : Int) < 12 := by omega
          | have hx1 : ¬ (j : Int) < (m : Int) := by omega
        clear hM hjm hjm2 hj hgg
        go_wp2
        go_loopg [9] nm (fun gg s9 wr => ∃ (i : Nat), i ≤ nm ∧ nm - i ≤ gg ∧ s9 = .int .i64 i ∧ Hid (Od w wr t1 x1 y1 s1 t2 x2 y2 s2 (2 * i) [(.slice q nm d, M)] ((M.take i).foldl stepO []) (((rotO tn M).take i).foldl stepO [])))
        case atStart => exact ⟨0, by omega, by omega, rfl, hid HI1.out.2⟩
        case round =>
          obtain ⟨i, hi, hgg, rfl, HJ⟩ := hrel
          by_cases hin : i < nm
          · obtain ⟨x, hx⟩ : ∃ x, M[i]? = some x := ⟨_, List.getElem?_eq_getElem (by rw [← HI1.out.1]; exact hin)⟩
            obtain ⟨k, hk⟩ : ∃ k, k = (i + tn) % nm := ⟨_, rfl⟩
            have hkn : k < nm := by rw [hk]; exact Nat.mod_lt _ (by omega)
            obtain ⟨y, hy⟩ : ∃ y, M[k]? = some y := ⟨_, List.getElem?_eq_getElem (by rw [← HI1.out.1]; exact hkn)⟩
            obtain ⟨b, o, e1, _⟩ := (HJ.out.vw (z := (.slice q nm d, M)) (by simp)).itAt hx
            subst e1
            have HCM : Hid (∀ W' n' la lb, Od w W' t1 x1 y1 s1 t2 x2 y2 s2 n' [(.slice (some ⟨b, o, none⟩) nm d, M)] la lb → (W'.cell? ⟨t1, 0, none⟩ = some (.pointer (some ⟨x1, 0, none⟩)) ∧ ItAt W' b o i x) ∧ W'.cell? ⟨t2, 0, none⟩ = some (.pointer (some ⟨x2, 0, none⟩)) ∧ ItAt W' b o k y) := hid fun W' n' la lb h => by
              have hv := h.vw (z := (.slice (some ⟨b, o, none⟩) nm d, M)) (by simp)
              exact ⟨⟨h.c.1, hv.itAt2 hx⟩, h.c.2, hv.itAt2 hy⟩
            have HIT := hid (fun W => item24_any x W)
            have HIY := hid (fun W => item24_any y W)
            unfold itV at HIT HIY
            have HMX := hid (⟨HMM.out.1 x (List.mem_of_getElem? hx), HMM.out.1 y (List.mem_of_getElem? hy)⟩ : _ ∧ _)
            have HNX : Hid ((M.take (i + 1)).foldl stepO [] = stepO ((M.take i).foldl stepO []) x ∧ ((rotO tn M).take (i + 1)).foldl stepO [] = stepO (((rotO tn M).take i).foldl stepO []) y) := hid ⟨foldl_take_next hx, foldl_take_next (by rw [rotO_get (by rw [← HI1.out.1]; exact hin), ← HI1.out.1, ← hk, hy])⟩
            have hii : (i : Int) < (nm : Int) := by omega
            have hki : (k : Int) < (nm : Int) := by omega
            have hk0 : (0 : Int) ≤ (k : Int) := by omega
            have hn0 : ¬ nm = 0 := by omega
            have hrem : Int.tmod ((i : Int) + (tn : Int)) (nm : Int) = (k : Int) := by rw [Int.tmod_eq_emod_of_nonneg (by omega), hk]; push_cast; rfl
            have hw : IntKind.i64.wrap ((i : Int) + (tn : Int)) = (i : Int) + (tn : Int) := by rw [IntKind.wrap_i64]; omega
            have hw2 : IntKind.i64.wrap (tn : Int) = (tn : Int) := by rw [IntKind.wrap_i64]; omega
            obtain ⟨⟨a0, m0, m1, m2, m3, m4, m5, m6⟩, _⟩ := HCM.out wr _ _ _ HJ.out
            obtain ⟨wo, hwo⟩ : ∃ wo, wo = wr := ⟨_, rfl⟩
            subst hwo
            clear hx hy hk
            go_wp2
            refine wp_region_held_drew (S := (fun W : World => W.cell? ⟨t1, 0, none⟩ = some (.pointer (some ⟨x1, 0, none⟩)) ∧ W.cell? ⟨b, o + i * 7, none⟩ = some (.string (S x.c)) ∧ W.cell? ⟨b, o + i * 7 + 1, none⟩ = some (.int .i64 x.k) ∧ W.cell? ⟨b, o + i * 7 + 2, none⟩ = some (.float .f64 x.e.t) ∧ W.cell? ⟨b, o + i * 7 + 3, none⟩ = some (.int .i64 x.e.src) ∧ W.cell? ⟨b, o + i * 7 + 4, none⟩ = some (.int .i64 x.e.n) ∧ W.cell? ⟨b, o + i * 7 + 5, none⟩ = some (.int .i64 x.e.dst) ∧ W.cell? ⟨b, o + i * 7 + 6, none⟩ = some (.int .i64 x.e.pay))) (by kernel_rfl) (by exact ⟨a0, m0, m1, m2, m3, m4, m5, m6⟩) (fun hHeld => ?_)
            refine hTk (i := 0) (v := ?_) (by (simp only [gEa, gEb, gEc]; try rfl)) (by kernel_rfl) ?_ (Or.inl ⟨by rfl, ?_⟩) hHeld ?_; rotate_left 2; (focus (intro wz hSw; (try dsimp only at hSw); go_simp; first | done | with_reducible rfl)); rotate_left; (focus exact fun _ _ _ h => h); (try simp only [Act.put, sEa, sEb, sEc]); refine hTk (i := 1) (v := ?_) (by (simp only [gEa, gEb, gEc]; try rfl)) (by kernel_rfl) ?_ (Or.inl ⟨by rfl, ?_⟩) hHeld ?_; rotate_left 2; (focus (intro wz hSw; (try dsimp only at hSw); go_simp; first | done | with_reducible rfl)); rotate_left; (focus exact fun _ _ _ h => h); (try simp only [Act.put, sEa, sEb, sEc]); refine hTk (i := 2) (v := ?_) (by (simp only [gEa, gEb, gEc]; try rfl)) (by kernel_rfl) ?_ (Or.inl ⟨by rfl, ?_⟩) hHeld ?_; rotate_left 2; (focus (intro wz hSw; (try dsimp only at hSw); go_simp; first | done | with_reducible rfl)); rotate_left; (focus exact fun _ _ _ h => h); (try simp only [Act.put, sEa, sEb, sEc]); refine hTk (i := 3) (v := ?_) (by (simp only [gEa, gEb, gEc]; try rfl)) (by kernel_rfl) ?_ (Or.inl ⟨by rfl, ?_⟩) hHeld ?_; rotate_left 2; (focus (intro wz hSw; (try dsimp only at hSw); go_simp; first | done | with_reducible rfl)); rotate_left; (focus exact fun _ _ _ h => h); (try simp only [Act.put, sEa, sEb, sEc]); refine hTk (i := 4) (v := ?_) (by (simp only [gEa, gEb, gEc]; try rfl)) (by kernel_rfl) ?_ (Or.inl ⟨by rfl, ?_⟩) hHeld ?_; rotate_left 2; (focus (intro wz hSw; (try dsimp only at hSw); go_simp; first | done | with_reducible rfl)); rotate_left; (focus exact fun _ _ _ h => h); (try simp only [Act.put, sEa, sEb, sEc]); refine hTk (i := 5) (v := ?_) (by (simp only [gEa, gEb, gEc]; try rfl)) (by kernel_rfl) ?_ (Or.inl ⟨by rfl, ?_⟩) hHeld ?_; rotate_left 2; (focus (intro wz hSw; (try dsimp only at hSw); go_simp; first | done | with_reducible rfl)); rotate_left; (focus exact fun _ _ _ h => h); (try simp only [Act.put, sEa, sEb, sEc]); refine hTk (i := 6) (v := ?_) (by (simp only [gEa, gEb, gEc]; try rfl)) (by kernel_rfl) ?_ (Or.inl ⟨by rfl, ?_⟩) hHeld ?_; rotate_left 2; (focus (intro wz hSw; (try dsimp only at hSw); go_simp; first | done | with_reducible rfl)); rotate_left; (focus exact fun _ _ _ h => h); (try simp only [Act.put, sEa, sEb, sEc]); refine hTk (i := 7) (v := ?_) (by (simp only [gEa, gEb, gEc]; try rfl)) (by kernel_rfl) ?_ (Or.inl ⟨by rfl, ?_⟩) hHeld ?_; rotate_left 2; (focus (intro wz hSw; (try dsimp only at hSw); go_simp; first | done | with_reducible rfl)); rotate_left; (focus exact fun _ _ _ h => h); (try simp only [Act.put, sEa, sEb, sEc])
            refine wpAnyH_ready (rs := [8]) (by kernel_rfl) (by simp) ?_; refine AllReadyH.cons (by (simp only [gEa, gEb, gEc]; try rfl)) (fun K hK => ?_) AllReadyH.nil; go_simp; (go_at_call 35; refine (HIT.out _).mono ?_; rintro r W3 ⟨rfl, hb3⟩; have hO3 := HJ.out.below ((below_drewN (Below.refl wo.heap.size wo) 1).trans hb3); have hck3 := (HCM.out W3 _ _ _ hO3).1); refine hK.out _ _ (by exact hck3) (fun hHeld => ?_); clear hK K; (try simp only [Act.put, sEa, sEb, sEc])
            have HPU := hid (od_put hO3 (by omega) x HMX.out.1.2 HMX.out.1.1)
            rw [← HNX.out.1] at HPU
            unfold itV at HPU
            refine wpAnyH_ready (rs := [9]) (by kernel_rfl) (by simp) ?_; refine AllReadyH.cons (by (simp only [gEa, gEb, gEc]; try rfl)) (fun K hK => ?_) AllReadyH.nil; go_simp; (go_at_call 34; refine HPU.out.mono ?_; rintro r W5 ⟨er, rfl, hO5⟩; have hck5 := (HCM.out W5 _ _ _ hO5).1); refine hK.out _ _ (by exact hck5) (fun hHeld => ?_); clear hK K; (try simp only [Act.put, sEa, sEb, sEc])
            refine wpAnyH_done (by kernel_rfl) ?_ _
            have H5 := hid hO5
            obtain ⟨_, a0, m0, m1, m2, m3, m4, m5, m6⟩ := HCM.out W5 _ _ _ hO5
            clear hO3 hO5 hb3 hck3 hck5 hHeld
            go_wp2
            refine wp_region_held_drew (S := (fun W : World => W.cell? ⟨t2, 0, none⟩ = some (.pointer (some ⟨x2, 0, none⟩)) ∧ W.cell? ⟨b, o + k * 7, none⟩ = some (.string (S y.c)) ∧ W.cell? ⟨b, o + k * 7 + 1, none⟩ = some (.int .i64 y.k) ∧ W.cell? ⟨b, o + k * 7 + 2, none⟩ = some (.float .f64 y.e.t) ∧ W.cell? ⟨b, o + k * 7 + 3, none⟩ = some (.int .i64 y.e.src) ∧ W.cell? ⟨b, o + k * 7 + 4, none⟩ = some (.int .i64 y.e.n) ∧ W.cell? ⟨b, o + k * 7 + 5, none⟩ = some (.int .i64 y.e.dst) ∧ W.cell? ⟨b, o + k * 7 + 6, none⟩ = some (.int .i64 y.e.pay))) (by kernel_rfl) (by exact ⟨a0, m0, m1, m2, m3, m4, m5, m6⟩) (fun hHeld => ?_)
            refine hTk (i := 0) (v := ?_) (by (simp only [gEa, gEb, gEc]; try rfl)) (by kernel_rfl) ?_ (Or.inl ⟨by rfl, ?_⟩) hHeld ?_; rotate_left 2; (focus (intro wz hSw; (try dsimp only at hSw); go_simp; first | done | with_reducible rfl)); rotate_left; (focus exact fun _ _ _ h => h); (try simp only [Act.put, sEa, sEb, sEc]); refine hTk (i := 1) (v := ?_) (by (simp only [gEa, gEb, gEc]; try rfl)) (by kernel_rfl) ?_ (Or.inl ⟨by rfl, ?_⟩) hHeld ?_; rotate_left 2; (focus (intro wz hSw; (try dsimp only at hSw); go_simp; first | done | with_reducible rfl)); rotate_left; (focus exact fun _ _ _ h => h); (try simp only [Act.put, sEa, sEb, sEc]); refine hTk (i := 2) (v := ?_) (by (simp only [gEa, gEb, gEc]; try rfl)) (by kernel_rfl) ?_ (Or.inl ⟨by rfl, ?_⟩) hHeld ?_; rotate_left 2; (focus (intro wz hSw; (try dsimp only at hSw); go_simp; first | done | with_reducible rfl)); rotate_left; (focus exact fun _ _ _ h => h); (try simp only [Act.put, sEa, sEb, sEc]); refine hTk (i := 3) (v := ?_) (by (simp only [gEa, gEb, gEc]; try rfl)) (by kernel_rfl) ?_ (Or.inl ⟨by rfl, ?_⟩) hHeld ?_; rotate_left 2; (focus (intro wz hSw; (try dsimp only at hSw); go_simp; first | done | with_reducible rfl)); rotate_left; (focus exact fun _ _ _ h => h); (try simp only [Act.put, sEa, sEb, sEc]); refine hTk (i := 4) (v := ?_) (by (simp only [gEa, gEb, gEc]; try rfl)) (by kernel_rfl) ?_ (Or.inl ⟨by rfl, ?_⟩) hHeld ?_; rotate_left 2; (focus (intro wz hSw; (try dsimp only at hSw); go_simp; first | done | with_reducible rfl)); rotate_left; (focus exact fun _ _ _ h => h); (try simp only [Act.put, sEa, sEb, sEc]); refine hTk (i := 5) (v := ?_) (by (simp only [gEa, gEb, gEc]; try rfl)) (by kernel_rfl) ?_ (Or.inl ⟨by rfl, ?_⟩) hHeld ?_; rotate_left 2; (focus (intro wz hSw; (try dsimp only at hSw); go_simp; first | done | with_reducible rfl)); rotate_left; (focus exact fun _ _ _ h => h); (try simp only [Act.put, sEa, sEb, sEc]); refine hTk (i := 6) (v := ?_) (by (simp only [gEa, gEb, gEc]; try rfl)) (by kernel_rfl) ?_ (Or.inl ⟨by rfl, ?_⟩) hHeld ?_; rotate_left 2; (focus (intro wz hSw; (try dsimp only at hSw); go_simp; first | done | with_reducible rfl)); rotate_left; (focus exact fun _ _ _ h => h); (try simp only [Act.put, sEa, sEb, sEc]); refine hTk (i := 7) (v := ?_) (by (simp only [gEa, gEb, gEc]; try rfl)) (by kernel_rfl) ?_ (Or.inl ⟨by rfl, ?_⟩) hHeld ?_; rotate_left 2; (focus (intro wz hSw; (try dsimp only at hSw); go_simp; first | done | with_reducible rfl)); rotate_left; (focus exact fun _ _ _ h => h); (try simp only [Act.put, sEa, sEb, sEc]); refine hTk (i := 8) (v := ?_) (by (simp only [gEa, gEb, gEc]; try rfl)) (by kernel_rfl) ?_ (Or.inl ⟨by rfl, ?_⟩) hHeld ?_; rotate_left 2; (focus (intro wz hSw; (try dsimp only at hSw); go_simp; first | done | with_reducible rfl)); rotate_left; (focus exact fun _ _ _ h => h); (try simp only [Act.put, sEa, sEb, sEc]); refine hTk (i := 9) (v := ?_) (by (simp only [gEa, gEb, gEc]; try rfl)) (by kernel_rfl) ?_ (Or.inl ⟨by rfl, ?_⟩) hHeld ?_; rotate_left 2; (focus (intro wz hSw; (try dsimp only at hSw); go_simp; first | done | with_reducible rfl)); rotate_left; (focus exact fun _ _ _ h => h); (try simp only [Act.put, sEa, sEb, sEc]); refine hTk (i := 10) (v := ?_) (by (simp only [gEa, gEb, gEc]; try rfl)) (by kernel_rfl) ?_ (Or.inl ⟨by rfl, ?_⟩) hHeld ?_; rotate_left 2; (focus (intro wz hSw; (try dsimp only at hSw); go_simp; first | done | with_reducible rfl)); rotate_left; (focus exact fun _ _ _ h => h); (try simp only [Act.put, sEa, sEb, sEc]); refine hTk (i := 11) (v := ?_) (by (simp only [gEa, gEb, gEc]; try rfl)) (by kernel_rfl) ?_ (Or.inl ⟨by rfl, ?_⟩) hHeld ?_; rotate_left 2; (focus (intro wz hSw; (try dsimp only at hSw); go_simp; first | done | with_reducible rfl)); rotate_left; (focus exact fun _ _ _ h => h); (try simp only [Act.put, sEa, sEb, sEc]); refine hTk (i := 12) (v := ?_) (by (simp only [gEa, gEb, gEc]; try rfl)) (by kernel_rfl) ?_ (Or.inl ⟨by rfl, ?_⟩) hHeld ?_; rotate_left 2; (focus (intro wz hSw; (try dsimp only at hSw); go_simp; first | done | with_reducible rfl)); rotate_left; (focus exact fun _ _ _ h => h); (try simp only [Act.put, sEa, sEb, sEc]); refine hTk (i := 13) (v := ?_) (by (simp only [gEa, gEb, gEc]; try rfl)) (by kernel_rfl) ?_ (Or.inl ⟨by rfl, ?_⟩) hHeld ?_; rotate_left 2; (focus (intro wz hSw; (try dsimp only at hSw); go_simp; first | done | with_reducible rfl)); rotate_left; (focus exact fun _ _ _ h => h); (try simp only [Act.put, sEa, sEb, sEc])
            refine wpAnyH_ready (rs := [14]) (by kernel_rfl) (by simp) ?_; refine AllReadyH.cons (by (simp only [gEa, gEb, gEc]; try rfl)) (fun K hK => ?_) AllReadyH.nil; go_simp; (go_at_call 35; refine (HIY.out _).mono ?_; rintro r W6 ⟨rfl, hb6⟩; have hO6 := H5.out.below ((below_drewN (Below.refl W5.heap.size W5) 1).trans hb6); have hck6 := (HCM.out W6 _ _ _ hO6).2); refine hK.out _ _ (by exact hck6) (fun hHeld => ?_); clear hK K; (try simp only [Act.put, sEa, sEb, sEc])
            have HPV := hid (od_put hO6.swap (by omega) y HMX.out.2.2 HMX.out.2.1)
            rw [← HNX.out.2] at HPV
            unfold itV at HPV
            refine wpAnyH_ready (rs := [15]) (by kernel_rfl) (by simp) ?_; refine AllReadyH.cons (by (simp only [gEa, gEb, gEc]; try rfl)) (fun K hK => ?_) AllReadyH.nil; go_simp; (go_at_call 34; refine HPV.out.mono ?_; rintro r W7 ⟨er2, rfl, hO7⟩; have hck7 := (HCM.out W7 _ _ _ hO7.swap).2); refine hK.out _ _ (by exact hck7) (fun hHeld => ?_); clear hK K; (try simp only [Act.put, sEa, sEb, sEc])
            refine wpAnyH_done (by kernel_rfl) ?_ _
            have HI7 : Hid (Od w W7 t1 x1 y1 s1 t2 x2 y2 s2 (2 * (i + 1)) [(.slice (some ⟨b, o, none⟩) nm d, M)] ((M.take (i + 1)).foldl stepO []) (((rotO tn M).take (i + 1)).foldl stepO [])) := hid (hO7.swap.up (by omega))
            clear hO6 hO7 hb6 hck6 hck7 hHeld a0 m0 m1 m2 m3 m4 m5 m6
            go_wp2
            go_roundg (nm - (i + 1))
            case measure => omega
            case rel => exact ⟨i + 1, by omega, by omega, by go_num, HI7⟩
          · have hin2 : i = nm := by omega
            obtain ⟨L, hL⟩ : ∃ L, L = M.foldl stepO [] := ⟨_, rfl⟩
            have HI2 : Hid (Od w wr t1 x1 y1 s1 t2 x2 y2 s2 24 [(.slice q nm d, M)] L L) := hid (by
              have h1 := HJ.out
              rw [hin2, List.take_of_length_le (by rw [HI1.out.1]; exact Nat.le_refl _), List.take_of_length_le (by rw [rotO_length, HI1.out.1]; exact Nat.le_refl _), rotO_same HMM.out.2, ← hL] at h1
              exact h1.up (by omega))
            have HOK := hid HI2.out.ok
            obtain ⟨nb, hnb⟩ : ∃ nb, nb = L.length := ⟨_, rfl⟩
            have HNB := hid hnb
            have hnbl : nb ≤ 24 := by rw [hnb]; exact HI2.out.ok.2.2
            have HL1 := hid (od_list HI2.out (by omega))
            rw [← hnb] at HL1
            have a0 := HI2.out.c.1
            have hini : ¬ (i : Int) < (nm : Int) := by omega
            clear hL hnb hin hin2 hi hgg
            go_wp2_with fail
            (with_reducible refine HL1.out.mono ?_)
            rintro r W5 ⟨p5, c5, rfl, hO5⟩
            have HL2 := hid (od_list hO5.swap (by omega))
            rw [← HNB.out] at HL2
            have a1 := hO5.c.2
            clear hO5 a0
            go_wp2_with fail
            (with_reducible refine HL2.out.mono ?_)
            rintro r W6 ⟨p6, c6, rfl, hO6⟩
            have HV := hid (⟨hO6.vw (z := (.slice p5 nb c5, L)) (by simp), hO6.vw (z := (.slice p6 nb c6, L)) (by simp), hO6.fr⟩ : _ ∧ _ ∧ _)
            clear hO6 a1
            go_wp2
            go_loopg [14] nb (fun gg s14 wr => ∃ i : Nat, i ≤ nb ∧ nb - i ≤ gg ∧ s14 = .int .i64 i ∧ Hid (Below W6.heap.size W6 wr))
            case atStart => exact ⟨0, by omega, by omega, rfl, hid (Below.refl _ _)⟩
            case round =>
              obtain ⟨i, hi, hgg, rfl, HJ⟩ := hrel
              by_cases hie : i < nb
              · obtain ⟨x, hx⟩ : ∃ x, L[i]? = some x := ⟨_, List.getElem?_eq_getElem (by rw [← HNB.out]; exact hie)⟩
                obtain ⟨b1, o1, e1, hC1⟩ := HV.out.1.itAt hx
                obtain ⟨b2, o2, e2, hC2⟩ := HV.out.2.1.itAt hx
                subst e1 e2
                have hii : (i : Int) < (nb : Int) := by omega
                have HDR := hid (BelC.drew wr)
                have H1 := hid (BelC.call (W1 := wr) (same20_any x.e))
                unfold evV at H1
                have HCX : Hid (∀ W, BelC wr W → ItAt W b1 o1 i x ∧ ItAt W b2 o2 i x) := hid fun W hW => by
                  have hb := HJ.out.trans (hW.out.mono HJ.out.size)
                  exact ⟨hC1 W hb, hC2 W hb⟩
                have hcs : (¬ (0 : Int) < (i : Int)) ∨ ∃ k y, i = k + 1 ∧ L[k]? = some y ∧ ((Op.bytesLess x.c y.c = false ∧ (x.c == y.c) = false) ∨ (Op.bytesLess x.c y.c = false ∧ (x.c == y.c) = true ∧ ¬ x.k ≤ y.k)) := by
                  rcases Nat.eq_zero_or_pos i with h0 | h0
                  · exact .inl (by omega)
                  · obtain ⟨k, rfl⟩ : ∃ k, i = k + 1 := ⟨i - 1, by omega⟩
                    obtain ⟨y, hy⟩ : ∃ y, L[k]? = some y := ⟨_, List.getElem?_eq_getElem (by rw [← HNB.out]; omega)⟩
                    have hyr := HOK.out.1 y (List.mem_of_getElem? hy)
                    have hxr := HOK.out.1 x (List.mem_of_getElem? hx)
                    have hlt : y.key < x.key := List.pairwise_iff_getElem.1 HOK.out.2.1 k (k + 1) (by rw [← HNB.out]; omega) (by rw [← HNB.out]; omega) (by omega) |> fun h => by
                      have e1 := (List.getElem?_eq_some_iff.1 hy).2
                      have e2 := (List.getElem?_eq_some_iff.1 hx).2
                      rw [e1, e2] at h
                      exact h
                    refine .inr ⟨k, y, rfl, hy, ?_⟩
                    rw [bl]
                    rcases (It.key_lt hyr.1.1 hxr.1.1).1 hlt with g | ⟨g1, g2⟩
                    · exact .inl ⟨decide_eq_false (blt_asymm g), by rw [beq_eq_false_iff_ne]; intro e; rw [e] at g; exact blt_irrefl _ g⟩
                    · exact .inr ⟨decide_eq_false (by rw [g1]; exact blt_irrefl _), by rw [g1]; exact beq_self_eq_true _, by omega⟩
                obtain ⟨wo, hwo⟩ : ∃ wo, wo = wr := ⟨_, rfl⟩
                subst hwo
                rcases hcs with h0 | ⟨k, y, hik, hy, hcs⟩
                · have h0n : ¬ 0 < i := by omega
                  clear hx hC1 hC2
                  go_wp2
                  refine qC_region (by kernel_rfl) (lexB_of (by kernel_rfl)) (BelC wo) HDR.out ?_
                  repeat (first | (refine qC_none rfl (fun K hK => ?_); apply Exists.intro; refine ⟨fun w0 hw0 => ?_, ?_⟩; (focus (obtain ⟨⟨q0, q1, q2, q3, q4, q5, q6⟩, r0, r1, r2, r3, r4, r5, r6⟩ := HCX.out w0 hw0; go_simp; first | exact rfl | exact ⟨rfl, rfl⟩ | (exact H1.out w0 hw0))); go_simp; refine hK _ ?_; clear hK K) | (refine qC_yes _ _ _ rfl rfl (by rfl) (fun K hK => ?_); apply Exists.intro; refine ⟨fun w0 hw0 => ?_, ?_⟩; (focus (obtain ⟨⟨q0, q1, q2, q3, q4, q5, q6⟩, r0, r1, r2, r3, r4, r5, r6⟩ := HCX.out w0 hw0; go_simp; first | exact rfl | exact ⟨rfl, rfl⟩ | (exact H1.out w0 hw0))); go_simp; refine hK _ ?_; clear hK K) | (refine qC_no _ _ _ rfl rfl (by rfl) (fun K hK => ?_); go_simp; refine hK _ ?_; clear hK K) | (refine qC_undef _ _ _ rfl rfl (by rfl) (fun K hK => ?_); go_simp; refine hK _ ?_; clear hK K))
                  refine qC_nil ?_
                  intro w5 hw5
                  have HJ5 := hid (HJ.out.trans (hw5.out.mono HJ.out.size))
                  clear hw5
                  go_wp2
                  go_roundg (nb - (i + 1))
                  case measure => omega
                  case rel => exact ⟨i + 1, by omega, by omega, by go_num, HJ5⟩
                · have hv1 : ∃ b o, (some ⟨b1, o1, none⟩ : Option Addr) = some ⟨b, o, none⟩ ∧ ∀ W', Below W6.heap.size W6 W' → ItAt W' b o k y := HV.out.1.itAt hy
                  obtain ⟨b3, o3, e3, hC3⟩ := hv1
                  have e33 : b1 = b3 ∧ o1 = o3 := by
                    injection e3 with e3
                    injection e3 with e3 e4
                    exact ⟨e3, e4⟩
                  obtain ⟨rfl, rfl⟩ := e33
                  have HCY : Hid (∀ W, BelC wo W → (ItAt W b1 o1 i x ∧ ItAt W b2 o2 i x) ∧ ItAt W b1 o1 k y) := hid fun W hW => ⟨HCX.out W hW, hC3 W (HJ.out.trans (hW.out.mono HJ.out.size))⟩
                  have h0 : (0 : Int) < (i : Int) := by omega
                  have h0n : 0 < i := by omega
                  have hw1 : IntKind.i64.wrap ((i : Int) - 1) = (k : Int) := by rw [IntKind.wrap_i64]; omega
                  have hk0 : (0 : Int) ≤ (k : Int) := by omega
                  have hkn : (k : Int) < (nb : Int) := by omega
                  clear hx hC1 hC2 hy hC3 e3 hik
                  rcases hcs with ⟨hb1, hb2⟩ | ⟨hb1, hb2, hb3⟩
                  all_goals
                    go_wp2
                    refine qC_region (by kernel_rfl) (lexB_of (by kernel_rfl)) (BelC wo) HDR.out ?_
                    repeat (first | (refine qC_none rfl (fun K hK => ?_); apply Exists.intro; refine ⟨fun w0 hw0 => ?_, ?_⟩; (focus (obtain ⟨⟨⟨q0, q1, q2, q3, q4, q5, q6⟩, r0, r1, r2, r3, r4, r5, r6⟩, s0, s1, s2, s3, s4, s5, s6⟩ := HCY.out w0 hw0; go_simp; first | exact rfl | exact ⟨rfl, rfl⟩ | (exact H1.out w0 hw0))); go_simp; refine hK _ ?_; clear hK K) | (refine qC_yes _ _ _ rfl rfl (by rfl) (fun K hK => ?_); apply Exists.intro; refine ⟨fun w0 hw0 => ?_, ?_⟩; (focus (obtain ⟨⟨⟨q0, q1, q2, q3, q4, q5, q6⟩, r0, r1, r2, r3, r4, r5, r6⟩, s0, s1, s2, s3, s4, s5, s6⟩ := HCY.out w0 hw0; go_simp; first | exact rfl | exact ⟨rfl, rfl⟩ | (exact H1.out w0 hw0))); go_simp; refine hK _ ?_; clear hK K) | (refine qC_no _ _ _ rfl rfl (by rfl) (fun K hK => ?_); go_simp; refine hK _ ?_; clear hK K) | (refine qC_undef _ _ _ rfl rfl (by rfl) (fun K hK => ?_); go_simp; refine hK _ ?_; clear hK K))
                    refine qC_nil ?_
                    intro w5 hw5
                    have HJ5 := hid (HJ.out.trans (hw5.out.mono HJ.out.size))
                    clear hw5
                    go_wp2
                    go_roundg (nb - (i + 1))
                    case measure => omega
                    case rel => exact ⟨i + 1, by omega, by omega, by go_num, HJ5⟩
              · have hii : ¬ ((i : Int) < (nb : Int)) := by omega
                have HF := hid (HV.out.2.2.trans (HJ.out.mono HV.out.2.2.size))
                go_wp2
                go_ret
                exact ⟨rfl, HF.out⟩
end
end Go.Proofs.YtnnghcooidjlhaaGreat
