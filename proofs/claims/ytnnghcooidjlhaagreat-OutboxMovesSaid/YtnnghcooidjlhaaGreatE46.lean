/- Parts of the proof: Zqb. -/
import Derived.Deep.Cut
import Derived.Deep.CutRange
import Derived.Test.YtnnghcooidjlhaaGreatE36
import Derived.Test.YtnnghcooidjlhaaGreatE44
set_option linter.all false
set_option maxRecDepth 100000
namespace Go.Proofs.YtnnghcooidjlhaaGreat
section
open Go.RowKit Go.Lib
set_option maxHeartbeats 32000000 in
theorem omoves24_many {w : World} {p : Option Addr} {n c : Nat} {l : List It} (h15 : 15 < n) (hv : Vw 7 itC w (.slice p n c) l) (hn : n = l.length) (hok : ∀ a ∈ l, a.e.ok ∧ a.c.length < 9223372036854775807) {p2 : Option Addr} {n2 c2 : Nat} {fs : List Bs} (hv2 : Vw 1 strC w (.slice p2 n2 c2) fs) (hn2 : n2 = fs.length) :
    Calls Tryz.prog 7 #[.slice p n c, .slice p2 n2 c2] w fun r w' => r = .returned (.bool true) ∧ Below w.heap.size w w' := by
  have H15 := hid h15
  clear h15
  have HB := hid (begun24_any w)
  have HA := hid (fun W => awake24_any W)
  have HX := hid (⟨hv, hn, hok, hv2, hn2⟩ : _ ∧ _ ∧ _ ∧ _ ∧ _)
  clear hv hn hok hv2 hn2
  go_enter Tryz.func7, Tryz.ntmps7
  go_wp2_with fail
  (with_reducible refine HB.out.mono ?_)
  rintro r W1 ⟨tb, xb, yb, s, O, rfl, hT⟩
  have HM0 : Hid (MvA w W1 tb xb yb s 0 0 [(.slice none 0 0, [])] [] []) := hid ⟨O, 0, 0, hT, by omega, by omega, fun z hz => by
    rw [List.mem_singleton.1 hz]
    exact ⟨Vw.nil _ _ _ _ _, fun b e => by cases e⟩⟩
  clear hT
  go_wp2_with fail
  (with_reducible refine (HA.out W1).mono ?_)
  rintro r W2 ⟨rfl, hb2⟩
  have HI0 := hid (HM0.out.below hb2)
  clear hb2 HM0
  go_wp2
  go_loopg [6, 7] 15 (fun gg s6 s7 wr => ∃ (j : Nat) (q : Option Addr) (m d : Nat) (lm : List It), j ≤ 15 ∧ 15 - j ≤ gg ∧ s7 = .int .i64 j ∧ s6 = .slice q m d ∧ Hid (m = lm.length ∧ lm.length ≤ j ∧ AscO lm ∧ MvA w wr tb xb yb s j j [(.slice q m d, lm)] lm []))
  case atStart => exact ⟨0, _, _, _, [], by omega, by omega, rfl, rfl, hid ⟨rfl, by simp, List.Pairwise.nil, HI0.out⟩⟩
  case round =>
    obtain ⟨j, q, m, d, lm, hj, hgg, rfl, rfl, HI⟩ := hrel
    by_cases hjj : j < n ∧ j < 15
    · obtain ⟨hjn, hje⟩ := hjj
      obtain ⟨a, ha⟩ : ∃ a, l[j]? = some a := ⟨_, List.getElem?_eq_getElem (by rw [← HX.out.2.1]; exact hjn)⟩
      obtain ⟨b, o, e1, hC⟩ := HX.out.1.itAt ha
      subst e1
      have HC := hid hC
      have HG := hid (HX.out.2.2.1 a (List.mem_of_getElem? ha))
      have HIT := hid (fun W => item24_any a W)
      have hji : (j : Int) < (n : Int) := by omega
      have hji2 : (j : Int) < 15 := by omega
      obtain ⟨t0, _⟩ := HI.out.2.2.2.c
      obtain ⟨m0, m1, m2, m3, m4, m5, m6⟩ := HC.out wr HI.out.2.2.2.fr
      have HCK : Hid (∀ W', Below wr.drew.heap.size wr.drew W' → W'.cell? ⟨tb, 0, none⟩ = some (.pointer (some ⟨xb, 0, none⟩)) ∧ ItAt W' b o j a) := hid fun W' hb => by
        have hb' : Below wr.heap.size wr W' := (below_drewN (Below.refl wr.heap.size wr) 1).trans hb
        have h' := HI.out.2.2.2.below hb'
        exact ⟨h'.c.1, HC.out W' h'.fr⟩
      have HCM : Hid (∀ W' n' k' ex la lb, MvA w W' tb xb yb s n' k' ex la lb → W'.cell? ⟨tb, 0, none⟩ = some (.pointer (some ⟨xb, 0, none⟩)) ∧ ItAt W' b o j a) := hid fun W' n' k' ex la lb h => ⟨h.c.1, HC.out W' h.fr⟩
      clear ha hC
      obtain ⟨wo, hwo⟩ : ∃ wo, wo = wr := ⟨_, rfl⟩
      subst hwo
      by_cases har : a.right
      · have HPU : Hid (∀ W', Below wo.drew.heap.size wo.drew W' → Calls Tryz.prog 34 #[.pointer (some ⟨xb, 0, none⟩), itV a] W' fun e w' => e = .returned (.int .i64 0) ∧ MvA w w' tb xb yb s (j + 1) (j + 1) [(.slice q m d, lm)] (setO lm a.nrm) []) := hid fun W' hb => mvA_put (HI.out.2.2.2.below ((below_drewN (Below.refl wo.heap.size wo) 1).trans hb)) (by omega) a har HG.out.1
        have HAR := hid har
        unfold itV at HPU HIT
        clear har
        go_wp2
        go_region_held3 (fun W => W.cell? ⟨tb, 0, none⟩ = some (.pointer (some ⟨xb, 0, none⟩)) ∧ W.cell? ⟨b, o + j * 7, none⟩ = some (.string (S a.c)) ∧ W.cell? ⟨b, o + j * 7 + 1, none⟩ = some (.int .i64 a.k) ∧ W.cell? ⟨b, o + j * 7 + 2, none⟩ = some (.float .f64 a.e.t) ∧ W.cell? ⟨b, o + j * 7 + 3, none⟩ = some (.int .i64 a.e.src) ∧ W.cell? ⟨b, o + j * 7 + 4, none⟩ = some (.int .i64 a.e.n) ∧ W.cell? ⟨b, o + j * 7 + 5, none⟩ = some (.int .i64 a.e.dst) ∧ W.cell? ⟨b, o + j * 7 + 6, none⟩ = some (.int .i64 a.e.pay)) (first | exact hck5 | exact hck3 | exact ⟨t0, m0, m1, m2, m3, m4, m5, m6⟩)
          (first
            | (go_at_call 35; refine (HIT.out _).mono ?_; rintro r W3 ⟨rfl, hb3⟩; have hck3 := HCK.out W3 hb3)
            | (go_at_call 34; refine (HPU.out W3 hb3).mono ?_; rintro r W5 ⟨rfl, hM5⟩; have hck5 := HCM.out W5 _ _ _ _ _ hM5))
        all_goals
          have HR := hid (mvA_ref hM5 (List.mem_singleton.2 rfl) HI.out.1 (by rw [HI.out.1]; have := HI.out.2.1; omega) a HG.out.1)
          have HM5 := hid hM5
          obtain ⟨m0, m1, m2, m3, m4, m5, m6⟩ := hck5.2
          unfold itV at HR
          clear hM5 hck5 hck3 hb3 t0
          go_wp2_with fail
          (with_reducible refine HR.out.mono ?_)
          rintro r W6 ⟨p6, n6, c6, rfl, hn6, hM6⟩
          have H6 : Hid (n6 = (setO lm a.nrm).length ∧ MvA w W6 tb xb yb s (j + 1) (j + 1) [(.slice p6 n6 c6, setO lm a.nrm)] (setO lm a.nrm) []) := hid (by
            have e : put24 lm a.n0 = setO lm a.nrm := put24_right HI.out.2.2.1 (fun y hy => (HI.out.2.2.2.ok.1 y hy).1.1) HAR.out
            rw [e] at hn6 hM6
            exact ⟨hn6, hM6.sub (fun z hz => by rw [List.mem_singleton.1 hz]; simp)⟩)
          clear hn6 hM6 m0 m1 m2 m3 m4 m5 m6
          go_wp2
          go_roundg (15 - (j + 1))
          case measure => omega
          case rel => exact ⟨j + 1, _, _, _, setO lm a.nrm, by omega, by omega, by go_num, rfl, hid ⟨H6.out.1, Nat.le_trans (setO_length _ _) (by have := HI.out.2.1; omega), setO_asc HI.out.2.2.1 _, H6.out.2⟩⟩
      · have HPU : Hid (∀ W', Below wo.drew.heap.size wo.drew W' → Calls Tryz.prog 34 #[.pointer (some ⟨xb, 0, none⟩), itV a] W' fun e w' => e = .returned (.int .i64 2) ∧ MvA w w' tb xb yb s j j [(.slice q m d, lm)] lm []) := hid fun W' hb => (oput_no ⟨xb, 0, none⟩ a HG.out.2 HG.out.1 har W').mono fun e w' ⟨h1, h2⟩ => ⟨h1, (HI.out.2.2.2.below ((below_drewN (Below.refl wo.heap.size wo) 1).trans hb)).below h2⟩
        unfold itV at HPU HIT
        clear har
        go_wp2
        go_region_held3 (fun W => W.cell? ⟨tb, 0, none⟩ = some (.pointer (some ⟨xb, 0, none⟩)) ∧ W.cell? ⟨b, o + j * 7, none⟩ = some (.string (S a.c)) ∧ W.cell? ⟨b, o + j * 7 + 1, none⟩ = some (.int .i64 a.k) ∧ W.cell? ⟨b, o + j * 7 + 2, none⟩ = some (.float .f64 a.e.t) ∧ W.cell? ⟨b, o + j * 7 + 3, none⟩ = some (.int .i64 a.e.src) ∧ W.cell? ⟨b, o + j * 7 + 4, none⟩ = some (.int .i64 a.e.n) ∧ W.cell? ⟨b, o + j * 7 + 5, none⟩ = some (.int .i64 a.e.dst) ∧ W.cell? ⟨b, o + j * 7 + 6, none⟩ = some (.int .i64 a.e.pay)) (first | exact hck5 | exact hck3 | exact ⟨t0, m0, m1, m2, m3, m4, m5, m6⟩)
          (first
            | (go_at_call 35; refine (HIT.out _).mono ?_; rintro r W3 ⟨rfl, hb3⟩; have hck3 := HCK.out W3 hb3)
            | (go_at_call 34; refine (HPU.out W3 hb3).mono ?_; rintro r W5 ⟨rfl, hM5⟩; have hck5 := HCM.out W5 _ _ _ _ _ hM5))
        all_goals
          have HM5 := hid hM5
          clear hM5 hck5 hck3 hb3 t0 m0 m1 m2 m3 m4 m5 m6
          go_wp2
          go_roundg (15 - (j + 1))
          case measure => omega
          case rel => exact ⟨j + 1, _, _, _, lm, by omega, by omega, by go_num, rfl, hid ⟨HI.out.1, by have := HI.out.2.1; omega, HI.out.2.2.1, HM5.out.up (by omega) (by omega)⟩⟩
    · have HI2 : Hid (PartsO lm lm [] ∧ MvA w wr tb xb yb s (15 + 15 * 0) 15 [(.slice q m d, lm)] lm []) := hid ⟨⟨HI.out.2.2.1, HI.out.2.2.1, List.Pairwise.nil, by simp, by simp, by simp⟩, HI.out.2.2.2.up (by omega) (by omega)⟩
      have HLM := hid (⟨HI.out.1, Nat.le_trans HI.out.2.1 hj, HI.out.2.2.1⟩ : m = lm.length ∧ lm.length ≤ 15 ∧ AscO lm)
      have HFIT : Hid (∀ y ∈ lm, y.fit) := hid fun y hy => (HI.out.2.2.2.ok.1 y hy).1.1
      have hm15 : m ≤ 15 := by rw [HLM.out.1]; exact HLM.out.2.1
      have hji : (j : Int) < (n : Int) := by have := H15.out; omega
      have hji2 : ¬ (j : Int) < 15 := by have := H15.out; omega
      clear hjj
      all_goals
        go_wp2
        go_loopg [8] 8 (fun gg s8 wr => ∃ (i : Nat) (la lb : List It), i ≤ 8 ∧ 8 - i ≤ gg ∧ s8 = .int .i64 i ∧ Hid (PartsO lm la lb ∧ MvA w wr tb xb yb s (15 + 15 * i) 15 [(.slice q m d, lm)] la lb))
        case atStart => exact ⟨0, lm, [], by omega, by omega, rfl, HI2⟩
        case round =>
          obtain ⟨i, la, lb, hi, hgg2, rfl, HJ⟩ := hrel
          by_cases hii : i < n2 ∧ i < 8
          · obtain ⟨hi2, hi8⟩ := hii
            obtain ⟨f, hf⟩ : ∃ f, fs[i]? = some f := ⟨_, List.getElem?_eq_getElem (by rw [← HX.out.2.2.2.2]; exact hi2)⟩
            obtain ⟨bf, off, cf, ef, _, hbf, kf⟩ := HX.out.2.2.2.1.ex (by rintro rfl; simp at hf)
            injection ef with ef1 ef2 ef3
            subst ef1
            clear ef2 ef3
            have HCF : Hid (∀ W, Below w.heap.size w W → W.cell? ⟨bf, off + i, none⟩ = some (.string (S f))) := hid fun W hW => by
              have := (World.cell?_of_block (hW.block bf hbf)).trans (kf i f hf 0 _ rfl)
              rwa [Nat.mul_one, Nat.add_zero] at this
            have hii1 : (i : Int) < (n2 : Int) := by omega
            have hii2 : (i : Int) < 8 := by omega
            clear hf hbf kf
            obtain ⟨wo, hwo⟩ : ∃ wo, wo = wr := ⟨_, rfl⟩
            subst hwo
            obtain ⟨t0, t1⟩ := HJ.out.2.c
            have f0 := HCF.out wo HJ.out.2.fr
            have HMab := hid (mvA_moveab (HJ.out.2.below (below_drewN (Below.refl wo.heap.size wo) 1)) HJ.out.1 (by omega) (by omega) f)
            have HMba := hid (mvA_moveba (HJ.out.2.below (below_drewN (Below.refl wo.heap.size wo) 1)) HJ.out.1 (by omega) (by omega) f)
            have HCK : Hid (∀ W' n' k' ex la lb, MvA w W' tb xb yb s n' k' ex la lb → W'.cell? ⟨tb, 0, none⟩ = some (.pointer (some ⟨xb, 0, none⟩)) ∧ W'.cell? ⟨tb, 1, none⟩ = some (.pointer (some ⟨yb, 0, none⟩)) ∧ W'.cell? ⟨bf, off + i, none⟩ = some (.string (S f))) := hid fun W' n' k' ex la lb h => ⟨h.c.1, h.c.2, HCF.out W' h.fr⟩
            go_upto_if 63 with fail
            go_cut [] from 51 to 225 (fun wc => ∃ (la4 lb4 : List It), Hid (PartsO lm la4 lb4 ∧ MvA w wc tb xb yb s (15 + 15 * i + 15) 15 [(.slice q m d, lm)] la4 lb4))
            case first =>
              rcases Nat.mod_two_eq_zero_or_one i with hp | hp
              case' inl =>
                have hrem : (i : Int) % 2 = 0 := by omega
                have hrem2 : ((i : Int) % 2 == 0) = true := by rw [hrem]; rfl
                have HMV := hid HMab.out
              case' inr =>
                have hrem : (i : Int) % 2 = 1 := by omega
                have hrem2 : ((i : Int) % 2 == 0) = false := by rw [hrem]; rfl
                have HMV := hid HMba.out
              all_goals
                clear hp HMab HMba
                go_wp2
                go_region_held3 (fun W => W.cell? ⟨tb, 0, none⟩ = some (.pointer (some ⟨xb, 0, none⟩)) ∧ W.cell? ⟨tb, 1, none⟩ = some (.pointer (some ⟨yb, 0, none⟩)) ∧ W.cell? ⟨bf, off + i, none⟩ = some (.string (S f))) (first | exact hck5 | exact ⟨t0, t1, f0⟩)
                  (first
                    | (go_at_call 37; refine HMV.out.mono ?_; rintro r W4 ⟨x1, x2, la4, lb4, rfl, hM4, hP4⟩; have hck5 := HCK.out W4 _ _ _ _ _ hM4))
              all_goals
                have HF := hid (⟨hP4, hM4⟩ : _ ∧ _)
                clear hM4 hP4 hck5 t0 t1 f0
                go_wp2_with fail
                go_meet
                case rel => exact ⟨_, _, HF⟩
            case rest =>
              obtain ⟨la4, lb4, HX4⟩ := hcut
              have hM4 := HX4.out.2
              have hP4 := HX4.out.1
              have hck5 := HCK.out _ _ _ _ _ _ hM4
              clear HX4
              have HP4 := hid hP4
              have HOKA := hid hM4.ok.1
              have HOKB := hid hM4.ok.2.1
              have HLA4 := hid hM4.ok.2.2.1
              have HLB4 := hid hM4.ok.2.2.2
              have HLA := hid (mvA_lista hM4 (by omega))
              obtain ⟨na, hna⟩ : ∃ na, na = la4.length := ⟨_, rfl⟩
              obtain ⟨nb, hnb⟩ : ∃ nb, nb = lb4.length := ⟨_, rfl⟩
              have Hna := hid hna
              have Hnb := hid hnb
              have HFA : Hid ((la4.foldl setO []).length = la4.length) := hid (by
                have := (foldO (xs := la4) (l := []) List.Pairwise.nil hP4.al.ne (by simp)).2.2
                simpa using this)
              have hsum : IntKind.i64.wrap ((na : Int) + (nb : Int)) = (m : Int) := by
                have h1 := hP4.len
                have h2 := HLM.out.1
                rw [IntKind.wrap_i64]
                omega
              have hnai : na ≤ 15 := by rw [hna]; exact HLA4.out
              have hnbi : nb ≤ 15 := by rw [hnb]; exact HLB4.out
              rw [← hna] at HLA
              obtain ⟨u0, u1, _⟩ := hck5
              clear hM4 hP4 hna hnb t0 t1 f0
              go_wp2_with fail
              (with_reducible refine HLA.out.mono ?_)
              rintro r W5 ⟨p5, c5, rfl, hM5⟩
              have HLB := hid (mvA_listb hM5 (by omega))
              rw [← Hnb.out] at HLB
              obtain ⟨_, u1⟩ := hM5.c
              clear hM5 u0
              go_wp2_with fail
              (with_reducible refine HLB.out.mono ?_)
              rintro r W6 ⟨p6, c6, rfl, hM6⟩
              have H6 := hid hM6
              clear hM6 u1
              go_wp2
              go_loopg [13, 14] na (fun gg s13 s14 wr => ∃ (k : Nat) (q3 : Option Addr) (m3 d3 : Nat), k ≤ na ∧ na - k ≤ gg ∧ s14 = .int .i64 k ∧ s13 = .slice q3 m3 d3 ∧ Hid (Below W6.heap.size W6 wr ∧ m3 = ((la4.take k).foldl setO ([])).length ∧ Vw 7 itC wr (.slice q3 m3 d3) ((la4.take k).foldl setO ([]))))
              case atStart => exact ⟨0, _, _, _, by omega, by omega, rfl, rfl, hid ⟨Below.refl _ _, rfl, Vw.nil _ _ _ _ _⟩⟩
              case round =>
                obtain ⟨k, q3, m3, d3, hk, hgg3, rfl, rfl, HQ⟩ := hrel
                by_cases hke : k < na
                · obtain ⟨x, hx⟩ : ∃ x, la4[k]? = some x := ⟨_, List.getElem?_eq_getElem (by rw [← Hna.out]; exact hke)⟩
                  obtain ⟨ba, oa, ea, hCa⟩ := (H6.out.vw (z := (.slice p5 na c5, la4)) (by simp)).itAt hx
                  subst ea
                  have HCA := hid hCa
                  have hki : (k : Int) < (na : Int) := by omega
                  obtain ⟨wo, hwo⟩ : ∃ wo, wo = wr := ⟨_, rfl⟩
                  subst hwo
                  obtain ⟨r0, r1, r2, r3, r4, r5, r6⟩ := HCA.out wo HQ.out.1
                  have HPT := hid (put24_any (HQ.out.2.2.below (below_drewN (Below.refl wo.heap.size wo) 1)) HQ.out.2.1 (by rw [HQ.out.2.1]; have h1 := fold_len (la4.take k) ([] : List It); have h2 : (la4.take k).length ≤ k := List.length_take_le ..; have h3 : ([] : List It).length ≤ 15 := (by simp); omega) x (HOKA.out x (List.mem_of_getElem? hx)).2.1)
                  rw [fold_next hx List.Pairwise.nil (by simp) HOKA.out] at HPT
                  unfold itV at HPT
                  have HCB : Hid (∀ W', Below wo.drew.heap.size wo.drew W' → ItAt W' ba oa k x) := hid fun W' hb => HCA.out W' (HQ.out.1.trans (((below_drewN (Below.refl wo.heap.size wo) 1).trans hb).mono HQ.out.1.size))
                  clear hx hCa
                  go_wp2
                  go_region_held3 (fun W => W.cell? ⟨ba, oa + k * 7, none⟩ = some (.string (S x.c)) ∧ W.cell? ⟨ba, oa + k * 7 + 1, none⟩ = some (.int .i64 x.k) ∧ W.cell? ⟨ba, oa + k * 7 + 2, none⟩ = some (.float .f64 x.e.t) ∧ W.cell? ⟨ba, oa + k * 7 + 3, none⟩ = some (.int .i64 x.e.src) ∧ W.cell? ⟨ba, oa + k * 7 + 4, none⟩ = some (.int .i64 x.e.n) ∧ W.cell? ⟨ba, oa + k * 7 + 5, none⟩ = some (.int .i64 x.e.dst) ∧ W.cell? ⟨ba, oa + k * 7 + 6, none⟩ = some (.int .i64 x.e.pay)) (first | exact hck7 | exact ⟨r0, r1, r2, r3, r4, r5, r6⟩)
                    (first
                      | (go_at_call 36; refine HPT.out.mono ?_; rintro r W7 ⟨v7, rfl, hO7, hb7⟩; have hck7 := HCB.out W7 hb7; obtain ⟨p7, c7, rfl⟩ := own_slice2 hO7))
                  all_goals
                    have HQ7 : Hid (Below W6.heap.size W6 W7 ∧ Vw 7 itC W7 (.slice p7 ((la4.take (k + 1)).foldl setO ([])).length c7) ((la4.take (k + 1)).foldl setO ([]))) := hid ⟨HQ.out.1.trans (((below_drewN (Below.refl wo.heap.size wo) 1).trans hb7).mono HQ.out.1.size), Vw.of_own itC_len hO7 rfl⟩
                    clear hO7 hb7 hck7 r0 r1 r2 r3 r4 r5 r6
                    go_wp2
                    go_roundg (na - (k + 1))
                    case measure => omega
                    case rel => exact ⟨k + 1, _, _, _, by omega, by omega, by go_num, rfl, hid ⟨HQ7.out.1, rfl, HQ7.out.2⟩⟩
                · have hke2 : k = na := by omega
                  have hki : ¬ (k : Int) < (na : Int) := by omega
                  have e3 : (la4.take k).foldl setO [] = la4.foldl setO [] := by rw [hke2, Hna.out, List.take_length]
                  have HQ0 : Hid (Below W6.heap.size W6 wr ∧ m3 = ((lb4.take 0).foldl setO (la4.foldl setO [])).length ∧ Vw 7 itC wr (.slice q3 m3 d3) ((lb4.take 0).foldl setO (la4.foldl setO []))) := hid (by
                    have h := HQ.out
                    rw [e3] at h
                    exact h)
                  clear e3 hke2 HQ
                  go_wp2
                  go_loopg [13, 15] nb (fun gg s13 s15 wr => ∃ (k : Nat) (q3 : Option Addr) (m3 d3 : Nat), k ≤ nb ∧ nb - k ≤ gg ∧ s15 = .int .i64 k ∧ s13 = .slice q3 m3 d3 ∧ Hid (Below W6.heap.size W6 wr ∧ m3 = ((lb4.take k).foldl setO (la4.foldl setO [])).length ∧ Vw 7 itC wr (.slice q3 m3 d3) ((lb4.take k).foldl setO (la4.foldl setO []))))
                  case atStart => exact ⟨0, _, _, _, by omega, by omega, rfl, rfl, HQ0⟩
                  case round =>
                    obtain ⟨k, q3, m3, d3, hk, hgg3, rfl, rfl, HQ⟩ := hrel
                    by_cases hke : k < nb
                    · obtain ⟨x, hx⟩ : ∃ x, lb4[k]? = some x := ⟨_, List.getElem?_eq_getElem (by rw [← Hnb.out]; exact hke)⟩
                      obtain ⟨ba, oa, ea, hCa⟩ := (H6.out.vw (z := (.slice p6 nb c6, lb4)) (by simp)).itAt hx
                      subst ea
                      have HCA := hid hCa
                      have hki : (k : Int) < (nb : Int) := by omega
                      obtain ⟨wo, hwo⟩ : ∃ wo, wo = wr := ⟨_, rfl⟩
                      subst hwo
                      obtain ⟨r0, r1, r2, r3, r4, r5, r6⟩ := HCA.out wo HQ.out.1
                      have HPT := hid (put24_any (HQ.out.2.2.below (below_drewN (Below.refl wo.heap.size wo) 1)) HQ.out.2.1 (by rw [HQ.out.2.1]; have h1 := fold_len (lb4.take k) (la4.foldl setO []); have h2 : (lb4.take k).length ≤ k := List.length_take_le ..; have h3 : (la4.foldl setO []).length ≤ 15 := (by rw [HFA.out]; exact HLA4.out); omega) x (HOKB.out x (List.mem_of_getElem? hx)).2.1)
                      rw [fold_next hx (fold_asc List.Pairwise.nil) (fold_ok (by simp) (fun y hy => (HOKA.out y hy).1.1)) HOKB.out] at HPT
                      unfold itV at HPT
                      have HCB : Hid (∀ W', Below wo.drew.heap.size wo.drew W' → ItAt W' ba oa k x) := hid fun W' hb => HCA.out W' (HQ.out.1.trans (((below_drewN (Below.refl wo.heap.size wo) 1).trans hb).mono HQ.out.1.size))
                      clear hx hCa
                      go_wp2
                      go_region_held3 (fun W => W.cell? ⟨ba, oa + k * 7, none⟩ = some (.string (S x.c)) ∧ W.cell? ⟨ba, oa + k * 7 + 1, none⟩ = some (.int .i64 x.k) ∧ W.cell? ⟨ba, oa + k * 7 + 2, none⟩ = some (.float .f64 x.e.t) ∧ W.cell? ⟨ba, oa + k * 7 + 3, none⟩ = some (.int .i64 x.e.src) ∧ W.cell? ⟨ba, oa + k * 7 + 4, none⟩ = some (.int .i64 x.e.n) ∧ W.cell? ⟨ba, oa + k * 7 + 5, none⟩ = some (.int .i64 x.e.dst) ∧ W.cell? ⟨ba, oa + k * 7 + 6, none⟩ = some (.int .i64 x.e.pay)) (first | exact hck7 | exact ⟨r0, r1, r2, r3, r4, r5, r6⟩)
                        (first
                          | (go_at_call 36; refine HPT.out.mono ?_; rintro r W7 ⟨v7, rfl, hO7, hb7⟩; have hck7 := HCB.out W7 hb7; obtain ⟨p7, c7, rfl⟩ := own_slice2 hO7))
                      all_goals
                        have HQ7 : Hid (Below W6.heap.size W6 W7 ∧ Vw 7 itC W7 (.slice p7 ((lb4.take (k + 1)).foldl setO (la4.foldl setO [])).length c7) ((lb4.take (k + 1)).foldl setO (la4.foldl setO []))) := hid ⟨HQ.out.1.trans (((below_drewN (Below.refl wo.heap.size wo) 1).trans hb7).mono HQ.out.1.size), Vw.of_own itC_len hO7 rfl⟩
                        clear hO7 hb7 hck7 r0 r1 r2 r3 r4 r5 r6
                        go_wp2
                        go_roundg (nb - (k + 1))
                        case measure => omega
                        case rel => exact ⟨k + 1, _, _, _, by omega, by omega, by go_num, rfl, hid ⟨HQ7.out.1, rfl, HQ7.out.2⟩⟩
                    · have hke2 : k = nb := by omega
                      have hki : ¬ (k : Int) < (nb : Int) := by omega
                      have e4 : (lb4.take k).foldl setO (la4.foldl setO []) = lm := by
                        rw [hke2, Hnb.out, List.take_length]
                        exact HP4.out.again
                      have hm3 : m = m3 := by rw [HQ.out.2.1, e4, HLM.out.1]
                      have HR0 : Hid (Below W6.heap.size W6 wr ∧ Vw 7 itC wr (.slice q3 m d3) lm) := hid (by
                        have h := HQ.out
                        rw [e4, ← hm3] at h
                        exact ⟨h.1, h.2.2⟩)
                      subst hm3
                      clear e4 hke2 HQ
                      obtain ⟨q4, hq4⟩ : ∃ q4, q4 = q3 := ⟨_, rfl⟩
                      obtain ⟨d4, hd4⟩ : ∃ d4, d4 = d3 := ⟨_, rfl⟩
                      subst hq4 hd4
                      go_wp2
                      go_loopg [16] m (fun gg s16 wr => ∃ e : Nat, e ≤ m ∧ m - e ≤ gg ∧ s16 = .int .i64 e ∧ Hid (Below W6.heap.size W6 wr ∧ Vw 7 itC wr (.slice q4 m d4) lm))
                      case atStart => exact ⟨0, by omega, by omega, rfl, HR0⟩
                      case round =>
                        obtain ⟨e, he, hgg5, rfl, HU⟩ := hrel
                        by_cases hee : e < m
                        · obtain ⟨x, hx⟩ : ∃ x, lm[e]? = some x := ⟨_, List.getElem?_eq_getElem (by rw [← HLM.out.1]; exact hee)⟩
                          obtain ⟨b1, o1, e1, hC1⟩ := HU.out.2.itAt hx
                          obtain ⟨b2, o2, e2, hC2⟩ := (H6.out.vw (z := (.slice q m d, lm)) (by simp)).itAt hx
                          subst e1 e2
                          have HC12 : Hid (∀ W, BelC wr W → ItAt W b1 o1 e x ∧ ItAt W b2 o2 e x) := hid fun W hW => ⟨hC1 W hW.out, hC2 W (HU.out.1.trans (hW.out.mono HU.out.1.size))⟩
                          have hei : (e : Int) < (m : Int) := by omega
                          have HDR := hid (BelC.drew wr)
                          have H1 := hid (BelC.call (W1 := wr) (same20_any x.e))
                          unfold evV at H1
                          clear hx hC1 hC2
                          obtain ⟨wo, hwo⟩ : ∃ wo, wo = wr := ⟨_, rfl⟩
                          subst hwo
                          go_wp2
                          refine qC_region (by kernel_rfl) (by kernel_rfl) (BelC wo) HDR.out ?_
                          repeat (first | (refine qC_none rfl (fun K hK => ?_); apply Exists.intro; refine ⟨fun w0 hw0 => ?_, ?_⟩; (focus (obtain ⟨⟨q0, q1, q2, q3, q4, q5, q6⟩, r0, r1, r2, r3, r4, r5, r6⟩ := HC12.out w0 hw0; go_simp; first | exact rfl | exact ⟨rfl, rfl⟩ | (exact H1.out w0 hw0))); go_simp; refine hK _ ?_; clear hK K) | (refine qC_yes _ _ _ rfl rfl (by rfl) (fun K hK => ?_); apply Exists.intro; refine ⟨fun w0 hw0 => ?_, ?_⟩; (focus (obtain ⟨⟨q0, q1, q2, q3, q4, q5, q6⟩, r0, r1, r2, r3, r4, r5, r6⟩ := HC12.out w0 hw0; go_simp; first | exact rfl | exact ⟨rfl, rfl⟩ | (exact H1.out w0 hw0))); go_simp; refine hK _ ?_; clear hK K) | (refine qC_no _ _ _ rfl rfl (by rfl) (fun K hK => ?_); go_simp; refine hK _ ?_; clear hK K) | (refine qC_undef _ _ _ rfl rfl (by rfl) (fun K hK => ?_); go_simp; refine hK _ ?_; clear hK K))
                          refine qC_nil ?_
                          intro w5 hw5
                          have HU5 := hid (⟨HU.out.1.trans (hw5.out.mono HU.out.1.size), HU.out.2.below hw5.out⟩ : _ ∧ _)
                          clear hw5
                          go_wp2
                          go_roundg (m - (e + 1))
                          case measure => omega
                          case rel => exact ⟨e + 1, by omega, by omega, by go_num, HU5⟩
                        · have hei : ¬ (e : Int) < (m : Int) := by omega
                          have HEND : Hid (PartsO lm la4 lb4 ∧ MvA w wr tb xb yb s (15 + 15 * (i + 1)) 15 [(.slice q m d, lm)] la4 lb4) := hid ⟨HP4.out, ((H6.out.below HU.out.1).up (by omega) (Nat.le_refl _)).sub (fun z hz => by rw [List.mem_singleton.1 hz]; simp)⟩
                          go_wp2
                          go_roundg (8 - (i + 1))
                          case measure => omega
                          case rel => exact ⟨i + 1, la4, lb4, by omega, by omega, by go_num, HEND⟩
          · have hexit2 : ¬ (i : Int) < (n2 : Int) ∨ ((i : Int) < (n2 : Int) ∧ ¬ (i : Int) < 8) := by omega
            have HF := hid HJ.out.2.fr
            clear hii
            rcases hexit2 with hii | ⟨hii, hii2⟩
            all_goals
              go_wp2
              go_ret
              exact ⟨rfl, HF.out⟩
end
end Go.Proofs.YtnnghcooidjlhaaGreat
