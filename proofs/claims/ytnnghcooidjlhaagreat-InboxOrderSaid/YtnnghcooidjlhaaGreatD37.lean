/- Parts of the proof: Xo Mf23o. -/
import Derived.Test.YtnnghcooidjlhaaGreatD27
import Derived.Test.YtnnghcooidjlhaaGreatD36
set_option linter.all false
set_option maxRecDepth 100000
namespace Go.Proofs.YtnnghcooidjlhaaGreat
section
open Go.RowKit Go.Lib
def rot23 {α : Type} (t : Nat) (m : List α) : List α := m.drop (t % m.length) ++ m.take (t % m.length)
theorem rot23_length {α : Type} (t : Nat) (m : List α) : (rot23 t m).length = m.length := by
  unfold rot23
  rw [List.length_append, List.length_drop, List.length_take]
  generalize t % m.length = r
  omega
theorem rot23_get {α : Type} {t : Nat} {m : List α} {i : Nat} (hi : i < m.length) : (rot23 t m)[i]? = m[(i + t) % m.length]? := by
  unfold rot23
  have hr : t % m.length < m.length := Nat.mod_lt _ (by omega)
  have e : (i + t) % m.length = (i + t % m.length) % m.length := by rw [Nat.add_mod_mod]
  rw [e]
  generalize t % m.length = r at hr
  by_cases h : i + r < m.length
  · rw [List.getElem?_append_left (by rw [List.length_drop]; omega), List.getElem?_drop, Nat.mod_eq_of_lt h, Nat.add_comm]
  · rw [List.getElem?_append_right (by rw [List.length_drop]; omega), List.length_drop, List.getElem?_take_of_lt (by omega)]
    congr 1
    rw [Nat.mod_eq_sub_mod (by omega), Nat.mod_eq_of_lt (by omega)]
    omega
theorem upI_rot {lp : Int} (t : Nat) (xs : List (Ev × Bool)) (ho : ∀ x ∈ xs, x.1.ok) : upI lp [] (rot23 t xs) = upI lp [] xs := by
  unfold rot23
  have e := upI_turn (lp := lp) (xs.drop (t % xs.length)) (xs.take (t % xs.length)) (fun x hx => ho x (by
    rcases List.mem_append.1 hx with h | h
    · exact List.mem_of_mem_drop h
    · exact List.mem_of_mem_take h))
  rw [e, List.take_append_drop]
def end9 : Bs := [255, 255, 255, 255, 255, 255, 255, 255, 255]
def CellsA (W : World) (b o j : Nat) (x : A23) : Prop := W.cell? ⟨b, o + j * 7, none⟩ = some (.int .i64 x.kd) ∧ A23At W b o j x
set_option maxHeartbeats 32000000 in
theorem iorder23_any {w : World} {p : Option Addr} {n c : Nat} {l : List A23} (hv : Vw 7 a23C w (.slice p n c) l) (hn : n = l.length) (hok : ∀ a ∈ l, a.e.ok) (tu : Int) (htu : 0 ≤ tu ∧ tu < 256) :
    Calls Tryz.prog 12 #[.slice p n c, .int .u8 tu] w fun r w' => r = .returned (.bool true) ∧ Below w.heap.size w w' := by
  have HB := hid (fun W => begun23_any 0 (by omega) W)
  have HA := hid (fun W => awake23_any W)
  obtain ⟨m, hm⟩ : ∃ m, m = min n 20 := ⟨_, rfl⟩
  obtain ⟨l2, hl2⟩ : ∃ l2, l2 = l.take m := ⟨_, rfl⟩
  have hll : l2.length = m := by rw [hl2, List.length_take]; omega
  have hv2 : Vw 7 a23C w (.slice p m c) l2 ∧ ((20 : Int) < (n : Int) → (20 : Int) ≤ (c : Int) ∧ ∃ b o, p = some ⟨b, o, none⟩) := by
    by_cases h0 : l = []
    · subst h0
      have : m = 0 := by rw [hm, hn]; rfl
      rw [this, hl2]
      exact ⟨by simpa using Vw.nil 7 a23C w p c, fun h => by rw [hn] at h; simp at h⟩
    · obtain ⟨b, o, c', e, hc, _⟩ := hv.ex h0
      injection e with e1 e2 e3
      subst e1 e3
      refine ⟨?_, fun h => ⟨by omega, b, o, rfl⟩⟩
      rw [hl2]
      rw [hn] at hv
      exact hv.take m (by omega)
  obtain ⟨hv2, hcap⟩ := hv2
  have hok2 : ∀ a ∈ l2, a.e.ok := fun a ha => hok a (by rw [hl2] at ha; exact List.mem_of_mem_take ha)
  obtain ⟨tn, htn⟩ : ∃ tn : Nat, tu = (tn : Int) ∧ tn < 256 := ⟨tu.toNat, by omega, by omega⟩
  obtain ⟨htn, htn2⟩ := htn
  subst htn
  have HX := hid (⟨hv2, hll, hok2⟩ : _ ∧ _ ∧ _)
  have hms : m ≤ 20 := by omega
  have hcs : ((20 : Int) < (n : Int) ∧ m = 20 ∧ (20 : Int) ≤ (c : Int) ∧ ∃ b o, p = some ⟨b, o, none⟩) ∨ (¬ (20 : Int) < (n : Int) ∧ m = n) := by
    by_cases h : (20 : Int) < (n : Int)
    · exact .inl ⟨h, by omega, hcap h⟩
    · exact .inr ⟨h, by omega⟩
  clear hv hn hok hm hl2 hll hv2 hok2 htu hcap
  go_enter Tryz.func12, Tryz.ntmps12
  go_wp2_with fail
  (with_reducible refine (HB.out _).mono ?_)
  rintro r W1 ⟨i1, s1, rfl, hI1⟩
  have H1 := hid hI1
  clear hI1
  go_wp2_with fail
  (with_reducible refine (HB.out _).mono ?_)
  rintro r W2 ⟨i2, s2, rfl, hI2⟩
  have H2 := hid (I2.of H1.out hI2)
  clear hI2
  go_wp2_with fail
  (with_reducible refine (HA.out W2).mono ?_)
  rintro r W3 ⟨rfl, hb3⟩
  have HI0 := hid (H2.out.below hb3)
  clear hb3
  have hmn : m ≤ n := by omega
  rcases hcs with ⟨q1, q2, q3, bb, oo, q4⟩ | ⟨q1, q2⟩
  case' inl => subst q4
  case' inr => subst q2
  all_goals
    go_wp2
    go_loopg [7] m (fun gg s7 wr => ∃ (j : Nat), j ≤ m ∧ m - j ≤ gg ∧ s7 = .int .i64 j ∧ Hid (I2 w wr i1 s1 i2 s2 0 (2 * j) [] [] (upI 0 [] ((l2.map A23.p).take j)) (upI 0 [] ((rot23 tn (l2.map A23.p)).take j))))
    case atStart => exact ⟨0, by omega, by omega, rfl, HI0⟩
    case round =>
      obtain ⟨j, hj, hgg, rfl, HI⟩ := hrel
      by_cases hjm : j < m
      · obtain ⟨x, hx⟩ : ∃ x, l2[j]? = some x := ⟨_, List.getElem?_eq_getElem (by rw [HX.out.2.1]; exact hjm)⟩
        obtain ⟨i, hi⟩ : ∃ i, i = (j + tn) % m := ⟨_, rfl⟩
        have hin : i < m := by rw [hi]; exact Nat.mod_lt _ (by omega)
        obtain ⟨y, hy⟩ : ∃ y, l2[i]? = some y := ⟨_, List.getElem?_eq_getElem (by rw [HX.out.2.1]; exact hin)⟩
        obtain ⟨b, o, e1, hC⟩ := HX.out.1.a23At hx
        obtain ⟨b2, o2, e2, hC2⟩ := HX.out.1.a23At hy
        have e12 : b = b2 ∧ o = o2 := by
          rw [e1] at e2
          injection e2 with e2
          injection e2 with e2 e3
          exact ⟨e2, e3⟩
        obtain ⟨rfl, rfl⟩ := e12
        clear e2
        first
          | subst e1
          | (have e13 : b = bb ∧ o = oo := by
              injection e1 with e1
              injection e1 with e1 e2
              exact ⟨e1.symm, e2.symm⟩
             obtain ⟨rfl, rfl⟩ := e13)
        have hji : (j : Int) < (m : Int) := by omega
        have hji2 : (j : Int) < 20 := by omega
        first
          | have hrem : Int.tmod ((j : Int) + (tn : Int)) 20 = (i : Int) := by rw [Int.tmod_eq_emod_of_nonneg (by omega), hi, q2]; omega
          | have hrem : Int.tmod ((j : Int) + (tn : Int)) (m : Int) = (i : Int) := by rw [Int.tmod_eq_emod_of_nonneg (by omega), hi]; push_cast; rfl
        have hw : IntKind.i64.wrap ((j : Int) + (tn : Int)) = (j : Int) + (tn : Int) := by rw [IntKind.wrap_i64]; omega
        have hw2 : IntKind.i64.wrap (tn : Int) = (tn : Int) := by rw [IntKind.wrap_i64]; omega
        have hii : (0 : Int) ≤ (i : Int) := by omega
        have hin2 : (i : Int) < (m : Int) := by omega
        have hin3 : (i : Int) < 20 := by omega
        have hn0 : ¬ (m : Int) = 0 := by omega
        have hm0 : ¬ m = 0 := by omega
        have HC : Hid (∀ W, Below w.heap.size w W → CellsA W b o j x ∧ CellsA W b o i y) := hid fun W hW => ⟨hC W hW, hC2 W hW⟩
        obtain ⟨⟨m0, m1, m2, m3, m4, m5, m6⟩, k0, k1, k2, k3, k4, k5, k6⟩ := HC.out wr HI.out.fr
        have HIX := hid (⟨hx, hy, hi⟩ : _ ∧ _ ∧ _)
        have HXJ : Hid ((l2.map A23.p)[j]? = some (x.e, x.a)) := hid (by rw [List.getElem?_map, hx]; rfl)
        have HYJ : Hid ((rot23 tn (l2.map A23.p))[j]? = some (y.e, y.a)) := hid (by
          have hxl : (l2.map A23.p).length = m := by rw [List.length_map]; exact HX.out.2.1
          rw [rot23_get (by omega), hxl, ← hi, List.getElem?_map, hy]; rfl)
        obtain ⟨wo, hwo⟩ : ∃ wo, wo = wr := ⟨_, rfl⟩
        subst hwo
        clear hC hC2 hi hx hy
        go_wp2
        have HKP : Hid (∀ W', Below wo.drew.heap.size wo.drew W' → W'.cell? ⟨b, o + j * 7, none⟩ = some (.int .i64 x.kd) ∧ W'.cell? ⟨b, o + j * 7 + 1, none⟩ = some (.float .f64 x.e.t) ∧ W'.cell? ⟨b, o + j * 7 + 2, none⟩ = some (.int .i64 x.e.src) ∧ W'.cell? ⟨b, o + j * 7 + 3, none⟩ = some (.int .i64 x.e.n) ∧ W'.cell? ⟨b, o + j * 7 + 4, none⟩ = some (.int .i64 x.e.dst) ∧ W'.cell? ⟨b, o + j * 7 + 5, none⟩ = some (.int .i64 x.e.pay) ∧ W'.cell? ⟨b, o + j * 7 + 6, none⟩ = some (.bool x.a) ∧ W'.cell? ⟨b, o + i * 7, none⟩ = some (.int .i64 y.kd) ∧ W'.cell? ⟨b, o + i * 7 + 1, none⟩ = some (.float .f64 y.e.t) ∧ W'.cell? ⟨b, o + i * 7 + 2, none⟩ = some (.int .i64 y.e.src) ∧ W'.cell? ⟨b, o + i * 7 + 3, none⟩ = some (.int .i64 y.e.n) ∧ W'.cell? ⟨b, o + i * 7 + 4, none⟩ = some (.int .i64 y.e.dst) ∧ W'.cell? ⟨b, o + i * 7 + 5, none⟩ = some (.int .i64 y.e.pay) ∧ W'.cell? ⟨b, o + i * 7 + 6, none⟩ = some (.bool y.a)) := hid fun W' hb => by
          obtain ⟨⟨u0, u1, u2, u3, u4, u5, u6⟩, v0, v1, v2, v3, v4, v5, v6⟩ := HC.out W' (HI.out.fr.trans (((below_drewN (Below.refl wo.heap.size wo) 1).trans hb).mono HI.out.fr.size))
          exact ⟨u0, u1, u2, u3, u4, u5, u6, v0, v1, v2, v3, v4, v5, v6⟩
        refine wp_region_held_drew (S := fun W' : World => W'.cell? ⟨b, o + j * 7, none⟩ = some (.int .i64 x.kd) ∧ W'.cell? ⟨b, o + j * 7 + 1, none⟩ = some (.float .f64 x.e.t) ∧ W'.cell? ⟨b, o + j * 7 + 2, none⟩ = some (.int .i64 x.e.src) ∧ W'.cell? ⟨b, o + j * 7 + 3, none⟩ = some (.int .i64 x.e.n) ∧ W'.cell? ⟨b, o + j * 7 + 4, none⟩ = some (.int .i64 x.e.dst) ∧ W'.cell? ⟨b, o + j * 7 + 5, none⟩ = some (.int .i64 x.e.pay) ∧ W'.cell? ⟨b, o + j * 7 + 6, none⟩ = some (.bool x.a) ∧ W'.cell? ⟨b, o + i * 7, none⟩ = some (.int .i64 y.kd) ∧ W'.cell? ⟨b, o + i * 7 + 1, none⟩ = some (.float .f64 y.e.t) ∧ W'.cell? ⟨b, o + i * 7 + 2, none⟩ = some (.int .i64 y.e.src) ∧ W'.cell? ⟨b, o + i * 7 + 3, none⟩ = some (.int .i64 y.e.n) ∧ W'.cell? ⟨b, o + i * 7 + 4, none⟩ = some (.int .i64 y.e.dst) ∧ W'.cell? ⟨b, o + i * 7 + 5, none⟩ = some (.int .i64 y.e.pay) ∧ W'.cell? ⟨b, o + i * 7 + 6, none⟩ = some (.bool y.a)) (by kernel_rfl) (by exact ⟨m0, m1, m2, m3, m4, m5, m6, k0, k1, k2, k3, k4, k5, k6⟩) (fun hHeld => ?_)
        refine hTk (i := 0) (v := ?_) (by (simp only [gEa, gEb, gEc]; try rfl)) (by kernel_rfl) ?_ (Or.inl ⟨by rfl, ?_⟩) hHeld ?_; rotate_left 2; (focus (intro wz hSw; (try dsimp only at hSw); go_simp; first | done | with_reducible rfl)); rotate_left; (focus exact fun _ _ _ h => h); (try simp only [Act.put, sEa, sEb, sEc]); refine hTk (i := 1) (v := ?_) (by (simp only [gEa, gEb, gEc]; try rfl)) (by kernel_rfl) ?_ (Or.inl ⟨by rfl, ?_⟩) hHeld ?_; rotate_left 2; (focus (intro wz hSw; (try dsimp only at hSw); go_simp; first | done | with_reducible rfl)); rotate_left; (focus exact fun _ _ _ h => h); (try simp only [Act.put, sEa, sEb, sEc]); refine hTk (i := 2) (v := ?_) (by (simp only [gEa, gEb, gEc]; try rfl)) (by kernel_rfl) ?_ (Or.inl ⟨by rfl, ?_⟩) hHeld ?_; rotate_left 2; (focus (intro wz hSw; (try dsimp only at hSw); go_simp; first | done | with_reducible rfl)); rotate_left; (focus exact fun _ _ _ h => h); (try simp only [Act.put, sEa, sEb, sEc]); refine hTk (i := 3) (v := ?_) (by (simp only [gEa, gEb, gEc]; try rfl)) (by kernel_rfl) ?_ (Or.inl ⟨by rfl, ?_⟩) hHeld ?_; rotate_left 2; (focus (intro wz hSw; (try dsimp only at hSw); go_simp; first | done | with_reducible rfl)); rotate_left; (focus exact fun _ _ _ h => h); (try simp only [Act.put, sEa, sEb, sEc]); refine hTk (i := 4) (v := ?_) (by (simp only [gEa, gEb, gEc]; try rfl)) (by kernel_rfl) ?_ (Or.inl ⟨by rfl, ?_⟩) hHeld ?_; rotate_left 2; (focus (intro wz hSw; (try dsimp only at hSw); go_simp; first | done | with_reducible rfl)); rotate_left; (focus exact fun _ _ _ h => h); (try simp only [Act.put, sEa, sEb, sEc]); refine hTk (i := 5) (v := ?_) (by (simp only [gEa, gEb, gEc]; try rfl)) (by kernel_rfl) ?_ (Or.inl ⟨by rfl, ?_⟩) hHeld ?_; rotate_left 2; (focus (intro wz hSw; (try dsimp only at hSw); go_simp; first | done | with_reducible rfl)); rotate_left; (focus exact fun _ _ _ h => h); (try simp only [Act.put, sEa, sEb, sEc]); refine hTk (i := 6) (v := ?_) (by (simp only [gEa, gEb, gEc]; try rfl)) (by kernel_rfl) ?_ (Or.inl ⟨by rfl, ?_⟩) hHeld ?_; rotate_left 2; (focus (intro wz hSw; (try dsimp only at hSw); go_simp; first | done | with_reducible rfl)); rotate_left; (focus exact fun _ _ _ h => h); (try simp only [Act.put, sEa, sEb, sEc]); refine hTk (i := 7) (v := ?_) (by (simp only [gEa, gEb, gEc]; try rfl)) (by kernel_rfl) ?_ (Or.inl ⟨by rfl, ?_⟩) hHeld ?_; rotate_left 2; (focus (intro wz hSw; (try dsimp only at hSw); go_simp; first | done | with_reducible rfl)); rotate_left; (focus exact fun _ _ _ h => h); (try simp only [Act.put, sEa, sEb, sEc]); refine hTk (i := 8) (v := ?_) (by (simp only [gEa, gEb, gEc]; try rfl)) (by kernel_rfl) ?_ (Or.inl ⟨by rfl, ?_⟩) hHeld ?_; rotate_left 2; (focus (intro wz hSw; (try dsimp only at hSw); go_simp; first | done | with_reducible rfl)); rotate_left; (focus exact fun _ _ _ h => h); (try simp only [Act.put, sEa, sEb, sEc]); refine hTk (i := 9) (v := ?_) (by (simp only [gEa, gEb, gEc]; try rfl)) (by kernel_rfl) ?_ (Or.inl ⟨by rfl, ?_⟩) hHeld ?_; rotate_left 2; (focus (intro wz hSw; (try dsimp only at hSw); go_simp; first | done | with_reducible rfl)); rotate_left; (focus exact fun _ _ _ h => h); (try simp only [Act.put, sEa, sEb, sEc]); refine hTk (i := 10) (v := ?_) (by (simp only [gEa, gEb, gEc]; try rfl)) (by kernel_rfl) ?_ (Or.inl ⟨by rfl, ?_⟩) hHeld ?_; rotate_left 2; (focus (intro wz hSw; (try dsimp only at hSw); go_simp; first | done | with_reducible rfl)); rotate_left; (focus exact fun _ _ _ h => h); (try simp only [Act.put, sEa, sEb, sEc]); refine hTk (i := 11) (v := ?_) (by (simp only [gEa, gEb, gEc]; try rfl)) (by kernel_rfl) ?_ (Or.inl ⟨by rfl, ?_⟩) hHeld ?_; rotate_left 2; (focus (intro wz hSw; (try dsimp only at hSw); go_simp; first | done | with_reducible rfl)); rotate_left; (focus exact fun _ _ _ h => h); (try simp only [Act.put, sEa, sEb, sEc]); refine hTk (i := 12) (v := ?_) (by (simp only [gEa, gEb, gEc]; try rfl)) (by kernel_rfl) ?_ (Or.inl ⟨by rfl, ?_⟩) hHeld ?_; rotate_left 2; (focus (intro wz hSw; (try dsimp only at hSw); go_simp; first | done | with_reducible rfl)); rotate_left; (focus exact fun _ _ _ h => h); (try simp only [Act.put, sEa, sEb, sEc]); refine hTk (i := 13) (v := ?_) (by (simp only [gEa, gEb, gEc]; try rfl)) (by kernel_rfl) ?_ (Or.inl ⟨by rfl, ?_⟩) hHeld ?_; rotate_left 2; (focus (intro wz hSw; (try dsimp only at hSw); go_simp; first | done | with_reducible rfl)); rotate_left; (focus exact fun _ _ _ h => h); (try simp only [Act.put, sEa, sEb, sEc])
        refine wpAnyH_ready (rs := [14, 15]) (by kernel_rfl) (by simp) ?_
        refine AllReadyH.cons (by (simp only [gEa, gEb, gEc]; try rfl)) (fun K hK => ?_) (AllReadyH.cons (by (simp only [gEa, gEb, gEc]; try rfl)) (fun K hK => ?_) AllReadyH.nil)
        · go_simp
          refine hK.out _ _ (by exact HKP.out _ (by first | exact (Below.refl _ _).alloc (Nat.le_refl _) _ | exact ((Below.refl _ _).alloc (Nat.le_refl _) _).alloc (by simp) _)) (fun hHeld => ?_)
          clear hK K
          (try simp only [Act.put, sEa, sEb, sEc])
          refine wpAnyH_ready (rs := [15]) (by kernel_rfl) (by simp) ?_
          refine AllReadyH.cons (by (simp only [gEa, gEb, gEc]; try rfl)) (fun K hK => ?_) AllReadyH.nil
          · go_simp
            refine hK.out _ _ (by exact HKP.out _ (by first | exact (Below.refl _ _).alloc (Nat.le_refl _) _ | exact ((Below.refl _ _).alloc (Nat.le_refl _) _).alloc (by simp) _)) (fun hHeld => ?_)
            clear hK K
            (try simp only [Act.put, sEa, sEb, sEc])
            refine wpAnyH_ready (rs := [16]) (by kernel_rfl) (by simp) ?_
            refine AllReadyH.cons (by (simp only [gEa, gEb, gEc]; try rfl)) (fun K hK => ?_) AllReadyH.nil
            · go_simp
              refine hK.out _ _ (by exact HKP.out _ (by first | exact (Below.refl _ _).alloc (Nat.le_refl _) _ | exact ((Below.refl _ _).alloc (Nat.le_refl _) _).alloc (by simp) _)) (fun hHeld => ?_)
              clear hK K
              (try simp only [Act.put, sEa, sEb, sEc])
              refine wpAnyH_ready (rs := [17]) (by kernel_rfl) (by simp) ?_
              refine AllReadyH.cons (by (simp only [gEa, gEb, gEc]; try rfl)) (fun K hK => ?_) AllReadyH.nil
              · go_simp
                refine hK.out _ _ (by exact HKP.out _ (by first | exact (Below.refl _ _).alloc (Nat.le_refl _) _ | exact ((Below.refl _ _).alloc (Nat.le_refl _) _).alloc (by simp) _)) (fun hHeld => ?_)
                clear hK K
                (try simp only [Act.put, sEa, sEb, sEc])
                refine wpAnyH_done (by kernel_rfl) ?_ _
                obtain ⟨W8, hW8⟩ : ∃ W8, W8 = ((wo.alloc (.cells #[.int .i64 x.kd, .float .f64 x.e.t, .int .i64 x.e.src, .int .i64 x.e.n, .int .i64 x.e.dst, .int .i64 x.e.pay, .bool x.a] 97)).alloc (.cells #[.int .i64 y.kd, .float .f64 y.e.t, .int .i64 y.e.src, .int .i64 y.e.n, .int .i64 y.e.dst, .int .i64 y.e.pay, .bool y.a] 97)).drew := ⟨_, rfl⟩
                have hI8 : I2 w W8 i1 s1 i2 s2 0 (2 * j) [(wo.heap.size + 1, 97, #[.int .i64 y.kd, .float .f64 y.e.t, .int .i64 y.e.src, .int .i64 y.e.n, .int .i64 y.e.dst, .int .i64 y.e.pay, .bool y.a]), (wo.heap.size, 97, #[.int .i64 x.kd, .float .f64 x.e.t, .int .i64 x.e.src, .int .i64 x.e.n, .int .i64 x.e.dst, .int .i64 x.e.pay, .bool x.a])] [] (upI 0 [] ((l2.map A23.p).take j)) (upI 0 [] ((rot23 tn (l2.map A23.p)).take j)) := by
                  rw [hW8]
                  have h9 := (HI.out.box 97 #[.int .i64 x.kd, .float .f64 x.e.t, .int .i64 x.e.src, .int .i64 x.e.n, .int .i64 x.e.dst, .int .i64 x.e.pay, .bool x.a]).box 97 #[.int .i64 y.kd, .float .f64 y.e.t, .int .i64 y.e.src, .int .i64 y.e.n, .int .i64 y.e.dst, .int .i64 y.e.pay, .bool y.a]
                  rw [show (wo.alloc (.cells #[.int .i64 x.kd, .float .f64 x.e.t, .int .i64 x.e.src, .int .i64 x.e.n, .int .i64 x.e.dst, .int .i64 x.e.pay, .bool x.a] 97)).heap.size = wo.heap.size + 1 by simp] at h9
                  exact h9.below (below_drewN (Below.refl _ _) 1)
                rw [← hW8]
                have hXB := hI8.blk (z := (wo.heap.size, 97, #[.int .i64 x.kd, .float .f64 x.e.t, .int .i64 x.e.src, .int .i64 x.e.n, .int .i64 x.e.dst, .int .i64 x.e.pay, .bool x.a])) (by simp)
                have z1 : W8.cell? ⟨wo.heap.size, 1, none⟩ = some (.float .f64 x.e.t) := hXB.cell 1
                have z2 : W8.cell? ⟨wo.heap.size, 2, none⟩ = some (.int .i64 x.e.src) := hXB.cell 2
                have z3 : W8.cell? ⟨wo.heap.size, 3, none⟩ = some (.int .i64 x.e.n) := hXB.cell 3
                have z4 : W8.cell? ⟨wo.heap.size, 4, none⟩ = some (.int .i64 x.e.dst) := hXB.cell 4
                have z5 : W8.cell? ⟨wo.heap.size, 5, none⟩ = some (.int .i64 x.e.pay) := hXB.cell 5
                have z6 : W8.cell? ⟨wo.heap.size, 6, none⟩ = some (.bool x.a) := hXB.cell 6
                have HS1 := hid (i2_step hI8 (by omega) x.e x.a (HX.out.2.2 x (List.mem_of_getElem? HIX.out.1)))
                rw [upI_snoc, ← take_snoc23 HXJ.out] at HS1
                unfold msgV at HS1
                clear hI8 hW8 hXB hHeld m0 m1 m2 m3 m4 m5 m6 k0 k1 k2 k3 k4 k5 k6
                go_wp2_with fail
                (with_reducible refine HS1.out.mono ?_)
                rintro r W9 ⟨r1, r2, r3, rfl, hI9⟩
                have hYB := hI9.blk (z := ((wo.heap.size + 1), 97, #[.int .i64 y.kd, .float .f64 y.e.t, .int .i64 y.e.src, .int .i64 y.e.n, .int .i64 y.e.dst, .int .i64 y.e.pay, .bool y.a])) (by simp)
                have y1 : W9.cell? ⟨(wo.heap.size + 1), 1, none⟩ = some (.float .f64 y.e.t) := hYB.cell 1
                have y2 : W9.cell? ⟨(wo.heap.size + 1), 2, none⟩ = some (.int .i64 y.e.src) := hYB.cell 2
                have y3 : W9.cell? ⟨(wo.heap.size + 1), 3, none⟩ = some (.int .i64 y.e.n) := hYB.cell 3
                have y4 : W9.cell? ⟨(wo.heap.size + 1), 4, none⟩ = some (.int .i64 y.e.dst) := hYB.cell 4
                have y5 : W9.cell? ⟨(wo.heap.size + 1), 5, none⟩ = some (.int .i64 y.e.pay) := hYB.cell 5
                have y6 : W9.cell? ⟨(wo.heap.size + 1), 6, none⟩ = some (.bool y.a) := hYB.cell 6
                have HS2 := hid (i2_step hI9.swap (by omega) y.e y.a (HX.out.2.2 y (List.mem_of_getElem? HIX.out.2.1)))
                rw [upI_snoc, ← take_snoc23 HYJ.out] at HS2
                unfold msgV at HS2
                clear hI9 hYB z1 z2 z3 z4 z5 z6
                go_wp2_with fail
                (with_reducible refine HS2.out.mono ?_)
                rintro r W10 ⟨s4, s5, s6, rfl, hI10⟩
                have HI10 : Hid (I2 w W10 i1 s1 i2 s2 0 (2 * (j + 1)) [] [] (upI 0 [] ((l2.map A23.p).take (j + 1))) (upI 0 [] ((rot23 tn (l2.map A23.p)).take (j + 1)))) := hid ((hI10.swap.sub (by simp) (by simp)).up (by omega))
                clear hI10 y1 y2 y3 y4 y5 y6
                go_wp2
                go_roundg (m - (j + 1))
                case measure => omega
                case rel => exact ⟨j + 1, by omega, by omega, by go_num, HI10⟩
        · go_simp
          refine hK.out _ _ (by exact HKP.out _ (by first | exact (Below.refl _ _).alloc (Nat.le_refl _) _ | exact ((Below.refl _ _).alloc (Nat.le_refl _) _).alloc (by simp) _)) (fun hHeld => ?_)
          clear hK K
          (try simp only [Act.put, sEa, sEb, sEc])
          refine wpAnyH_ready (rs := [14]) (by kernel_rfl) (by simp) ?_
          refine AllReadyH.cons (by (simp only [gEa, gEb, gEc]; try rfl)) (fun K hK => ?_) AllReadyH.nil
          · go_simp
            refine hK.out _ _ (by exact HKP.out _ (by first | exact (Below.refl _ _).alloc (Nat.le_refl _) _ | exact ((Below.refl _ _).alloc (Nat.le_refl _) _).alloc (by simp) _)) (fun hHeld => ?_)
            clear hK K
            (try simp only [Act.put, sEa, sEb, sEc])
            refine wpAnyH_ready (rs := [16]) (by kernel_rfl) (by simp) ?_
            refine AllReadyH.cons (by (simp only [gEa, gEb, gEc]; try rfl)) (fun K hK => ?_) AllReadyH.nil
            · go_simp
              refine hK.out _ _ (by exact HKP.out _ (by first | exact (Below.refl _ _).alloc (Nat.le_refl _) _ | exact ((Below.refl _ _).alloc (Nat.le_refl _) _).alloc (by simp) _)) (fun hHeld => ?_)
              clear hK K
              (try simp only [Act.put, sEa, sEb, sEc])
              refine wpAnyH_ready (rs := [17]) (by kernel_rfl) (by simp) ?_
              refine AllReadyH.cons (by (simp only [gEa, gEb, gEc]; try rfl)) (fun K hK => ?_) AllReadyH.nil
              · go_simp
                refine hK.out _ _ (by exact HKP.out _ (by first | exact (Below.refl _ _).alloc (Nat.le_refl _) _ | exact ((Below.refl _ _).alloc (Nat.le_refl _) _).alloc (by simp) _)) (fun hHeld => ?_)
                clear hK K
                (try simp only [Act.put, sEa, sEb, sEc])
                refine wpAnyH_done (by kernel_rfl) ?_ _
                obtain ⟨W8, hW8⟩ : ∃ W8, W8 = ((wo.alloc (.cells #[.int .i64 y.kd, .float .f64 y.e.t, .int .i64 y.e.src, .int .i64 y.e.n, .int .i64 y.e.dst, .int .i64 y.e.pay, .bool y.a] 97)).alloc (.cells #[.int .i64 x.kd, .float .f64 x.e.t, .int .i64 x.e.src, .int .i64 x.e.n, .int .i64 x.e.dst, .int .i64 x.e.pay, .bool x.a] 97)).drew := ⟨_, rfl⟩
                have hI8 : I2 w W8 i1 s1 i2 s2 0 (2 * j) [(wo.heap.size + 1, 97, #[.int .i64 x.kd, .float .f64 x.e.t, .int .i64 x.e.src, .int .i64 x.e.n, .int .i64 x.e.dst, .int .i64 x.e.pay, .bool x.a]), (wo.heap.size, 97, #[.int .i64 y.kd, .float .f64 y.e.t, .int .i64 y.e.src, .int .i64 y.e.n, .int .i64 y.e.dst, .int .i64 y.e.pay, .bool y.a])] [] (upI 0 [] ((l2.map A23.p).take j)) (upI 0 [] ((rot23 tn (l2.map A23.p)).take j)) := by
                  rw [hW8]
                  have h9 := (HI.out.box 97 #[.int .i64 y.kd, .float .f64 y.e.t, .int .i64 y.e.src, .int .i64 y.e.n, .int .i64 y.e.dst, .int .i64 y.e.pay, .bool y.a]).box 97 #[.int .i64 x.kd, .float .f64 x.e.t, .int .i64 x.e.src, .int .i64 x.e.n, .int .i64 x.e.dst, .int .i64 x.e.pay, .bool x.a]
                  rw [show (wo.alloc (.cells #[.int .i64 y.kd, .float .f64 y.e.t, .int .i64 y.e.src, .int .i64 y.e.n, .int .i64 y.e.dst, .int .i64 y.e.pay, .bool y.a] 97)).heap.size = wo.heap.size + 1 by simp] at h9
                  exact h9.below (below_drewN (Below.refl _ _) 1)
                rw [← hW8]
                have hXB := hI8.blk (z := ((wo.heap.size + 1), 97, #[.int .i64 x.kd, .float .f64 x.e.t, .int .i64 x.e.src, .int .i64 x.e.n, .int .i64 x.e.dst, .int .i64 x.e.pay, .bool x.a])) (by simp)
                have z1 : W8.cell? ⟨(wo.heap.size + 1), 1, none⟩ = some (.float .f64 x.e.t) := hXB.cell 1
                have z2 : W8.cell? ⟨(wo.heap.size + 1), 2, none⟩ = some (.int .i64 x.e.src) := hXB.cell 2
                have z3 : W8.cell? ⟨(wo.heap.size + 1), 3, none⟩ = some (.int .i64 x.e.n) := hXB.cell 3
                have z4 : W8.cell? ⟨(wo.heap.size + 1), 4, none⟩ = some (.int .i64 x.e.dst) := hXB.cell 4
                have z5 : W8.cell? ⟨(wo.heap.size + 1), 5, none⟩ = some (.int .i64 x.e.pay) := hXB.cell 5
                have z6 : W8.cell? ⟨(wo.heap.size + 1), 6, none⟩ = some (.bool x.a) := hXB.cell 6
                have HS1 := hid (i2_step hI8 (by omega) x.e x.a (HX.out.2.2 x (List.mem_of_getElem? HIX.out.1)))
                rw [upI_snoc, ← take_snoc23 HXJ.out] at HS1
                unfold msgV at HS1
                clear hI8 hW8 hXB hHeld m0 m1 m2 m3 m4 m5 m6 k0 k1 k2 k3 k4 k5 k6
                go_wp2_with fail
                (with_reducible refine HS1.out.mono ?_)
                rintro r W9 ⟨r1, r2, r3, rfl, hI9⟩
                have hYB := hI9.blk (z := (wo.heap.size, 97, #[.int .i64 y.kd, .float .f64 y.e.t, .int .i64 y.e.src, .int .i64 y.e.n, .int .i64 y.e.dst, .int .i64 y.e.pay, .bool y.a])) (by simp)
                have y1 : W9.cell? ⟨wo.heap.size, 1, none⟩ = some (.float .f64 y.e.t) := hYB.cell 1
                have y2 : W9.cell? ⟨wo.heap.size, 2, none⟩ = some (.int .i64 y.e.src) := hYB.cell 2
                have y3 : W9.cell? ⟨wo.heap.size, 3, none⟩ = some (.int .i64 y.e.n) := hYB.cell 3
                have y4 : W9.cell? ⟨wo.heap.size, 4, none⟩ = some (.int .i64 y.e.dst) := hYB.cell 4
                have y5 : W9.cell? ⟨wo.heap.size, 5, none⟩ = some (.int .i64 y.e.pay) := hYB.cell 5
                have y6 : W9.cell? ⟨wo.heap.size, 6, none⟩ = some (.bool y.a) := hYB.cell 6
                have HS2 := hid (i2_step hI9.swap (by omega) y.e y.a (HX.out.2.2 y (List.mem_of_getElem? HIX.out.2.1)))
                rw [upI_snoc, ← take_snoc23 HYJ.out] at HS2
                unfold msgV at HS2
                clear hI9 hYB z1 z2 z3 z4 z5 z6
                go_wp2_with fail
                (with_reducible refine HS2.out.mono ?_)
                rintro r W10 ⟨s4, s5, s6, rfl, hI10⟩
                have HI10 : Hid (I2 w W10 i1 s1 i2 s2 0 (2 * (j + 1)) [] [] (upI 0 [] ((l2.map A23.p).take (j + 1))) (upI 0 [] ((rot23 tn (l2.map A23.p)).take (j + 1)))) := hid ((hI10.swap.sub (by simp) (by simp)).up (by omega))
                clear hI10 y1 y2 y3 y4 y5 y6
                go_wp2
                go_roundg (m - (j + 1))
                case measure => omega
                case rel => exact ⟨j + 1, by omega, by omega, by go_num, HI10⟩
      · have hjm2 : j = m := by omega
        obtain ⟨L, hL⟩ : ∃ L, L = upI 0 [] (l2.map A23.p) := ⟨_, rfl⟩
        have HI1 : Hid (I2 w wr i1 s1 i2 s2 0 40 [] [] L L) := hid (by
          have h1 := HI.out
          have hxl : (l2.map A23.p).length = m := by rw [List.length_map]; exact HX.out.2.1
          rw [hjm2, List.take_of_length_le (by omega), List.take_of_length_le (by rw [rot23_length]; omega), upI_rot tn _ (fun z hz => by
            obtain ⟨a, ha, rfl⟩ := List.mem_map.1 hz
            exact HX.out.2.2 a ha), ← hL] at h1
          exact h1.up (by omega))
        obtain ⟨nb, hnb⟩ : ∃ nb, nb = (betI L [] end9).length := ⟨_, rfl⟩
        have HNB := hid hnb
        have hnbl : nb ≤ 40 := by
          rw [hnb]
          unfold betI
          rw [List.length_map]
          exact Nat.le_trans (List.length_filter_le _ _) HI1.out.ok.1
        have HB1 := hid (i2_between HI1.out (by omega) [] end9 (by simp) (by decide))
        rw [← hnb, show S [] = { data := #[] } from rfl, show S end9 = { data := #[255, 255, 255, 255, 255, 255, 255, 255, 255] } from rfl] at HB1
        first
          | have hx1 : ¬ (j : Int) < 20 := by omega
          | have hx1 : ¬ (j : Int) < (m : Int) := by omega
        clear hnb hL hjm hjm2 hj hgg
        go_wp2_with fail
        (with_reducible refine HB1.out.mono ?_)
        rintro r W5 ⟨p5, c5, rfl, hI5⟩
        have HB2 := hid (i2_between hI5.swap (by omega) [] end9 (by simp) (by decide))
        rw [← HNB.out, show S [] = { data := #[] } from rfl, show S end9 = { data := #[255, 255, 255, 255, 255, 255, 255, 255, 255] } from rfl] at HB2
        clear hI5
        go_wp2_with fail
        (with_reducible refine HB2.out.mono ?_)
        rintro r W6 ⟨p6, c6, rfl, hI6⟩
        have HC1 := hid (i2_counts hI6.swap (by omega))
        clear hI6
        go_wp2_with fail
        (with_reducible refine HC1.out.mono ?_)
        rintro r W7 ⟨rfl, hI7⟩
        have HC2 := hid (i2_counts hI7.swap (by omega))
        clear hI7
        go_wp2_with fail
        (with_reducible refine HC2.out.mono ?_)
        rintro r W8 ⟨rfl, hI8⟩
        have HEV := hid (events23_any (hI8.vw (z := (.slice p5 nb c5, betI L [] end9)) (by simp)) (hI8.vw (z := (.slice p6 nb c6, betI L [] end9)) (by simp)) HNB.out (by omega))
        have H8 := hid hI8.fr
        clear hI8
        go_wp2_with fail
        (with_reducible refine HEV.out.mono ?_)
        rintro r W9 ⟨rfl, hb9⟩
        have HF := hid (H8.out.trans (hb9.mono H8.out.size))
        clear hb9
        go_wp2
        go_ret
        exact ⟨by first | rfl | simp, HF.out⟩
end
section
open Go.ChangeShapes Go.WideShapes Go.ChangeAt Go.RowKit Go.Deep
set_option maxHeartbeats 8000000 in
set_option maxRecDepth 100000 in
theorem inboxOrder_facts : joinedFacts Tryz.checked.prog 12 Tryz.f12 Rows.inboxOrderSpec Rows.inboxOrderRow = true := by
 unfold joinedFacts
 repeat' (rw [Bool.and_eq_true]; refine ⟨?_, ?_⟩)
 all_goals (as_aux_lemma => kernel_rfl)
end
end Go.Proofs.YtnnghcooidjlhaaGreat
