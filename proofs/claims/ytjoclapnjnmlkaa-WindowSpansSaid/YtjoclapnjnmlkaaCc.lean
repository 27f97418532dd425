/- Walk: near pairs, by the document. -/
import Derived.Test.YtjoclapnjnmlkaaPn
set_option linter.unusedSimpArgs false
namespace Go.Proofs.Ytjoclapnjnmlkaa
open Go.RowKit

theorem run_max2 {x y : Nat} (hx : fkept x) (hy : fkept y) (P : Program) (ats : Array TypeId) (t : TypeId) (w : World) :
    (Builtin.max_ ats t #[.float .f64 x, .float .f64 y]).run P w = .ok (.float .f64 (fmx x y)) w := by
  have ho : FloatKind.f64.format.order x y = some (compare (fkey x) (fkey y)) := ford_key hx.1 hy.1
  unfold fmx
  rw [flt_key hx.1 hy.1]
  rcases Int.lt_trichotomy (fkey x) (fkey y) with h | h | h
  · rw [cmp_lt h] at ho
    simp [Builtin.max_, Builtin.max2, ho, h]
  · rw [cmp_eq h] at ho
    have : x = y := fkey_inj hx hy h
    subst this
    simp [Builtin.max_, Builtin.max2, ho]
  · rw [cmp_gt h] at ho
    have h2 : ¬ fkey x < fkey y := by omega
    simp [Builtin.max_, Builtin.max2, ho, h2]
theorem run_min2 {x y : Nat} (hx : fkept x) (hy : fkept y) (P : Program) (ats : Array TypeId) (t : TypeId) (w : World) :
    (Builtin.min_ ats t #[.float .f64 x, .float .f64 y]).run P w = .ok (.float .f64 (fmn x y)) w := by
  have ho : FloatKind.f64.format.order x y = some (compare (fkey x) (fkey y)) := ford_key hx.1 hy.1
  unfold fmn
  rw [flt_key hx.1 hy.1]
  rcases Int.lt_trichotomy (fkey x) (fkey y) with h | h | h
  · rw [cmp_lt h] at ho
    simp [Builtin.min_, Builtin.min2, ho, h]
  · rw [cmp_eq h] at ho
    have : x = y := fkey_inj hx hy h
    subst this
    simp [Builtin.min_, Builtin.min2, ho]
  · rw [cmp_gt h] at ho
    have h2 : ¬ fkey x < fkey y := by omega
    simp [Builtin.min_, Builtin.min2, ho, h2]

set_option maxHeartbeats 1000000 in
theorem rclose_any (p : Option Addr) (ds : List Done) (cap dv : Nat) (w : World) (hc : ds.length ≤ 61) (hH : Hist w p ds) (hkp : ∀ x ∈ keep ds, fkept x) :
    Calls Try.prog 22 #[.slice p ds.length cap, .float .f64 dv] w fun e w' => e = .returned (.int .i64 (pairs (nearM dv) (keep ds) (keep ds).length)) ∧ Below w.heap.size w w' := by
  have HT := Lib.hid (rtimes_any p ds cap w hc hH)
  have hkl := keep_len ds
  clear hH
  generalize keep ds = xs at *
  have HKP := Lib.hid (fun i (h : i < xs.length) => hkp _ (get_mem h))
  clear hkp
  go_enter Try.func22, Try.ntmps22
  go_wp2_with (go_at_call 25; refine HT.out.mono ?_; rintro e w1 ⟨q, c, rfl, hf, hb⟩)
  clear HT
  have HL := Lib.hid (pairs_le (nearM dv) xs)
  go_loopw [6, 7] (fun n i wr => ∃ j : Nat, j ≤ xs.length ∧ i = .int .i64 (j : Int) ∧ n = .int .i64 (pairs (nearM dv) xs j) ∧ ∃ m, wr = w1.drewN m) (fun _ i _ => xs.length - (intOf i).toNat)
  case atStart => exact ⟨0, Nat.zero_le _, rfl, rfl, 0, rfl⟩
  case round =>
    obtain ⟨j, hj, rfl, rfl, m, rfl⟩ := hrel
    have hle := HL.out j (by omega)
    by_cases hlt : j < xs.length
    · rcases hf with h0 | ⟨b, off, rfl, hbl, hd⟩
      · subst h0; simp at hlt
      have hx := hd j hlt
      have hkx := HKP.out j hlt
      have HD := Lib.hid hd
      clear hd
      have hst : pairs (nearM dv) xs (j + 1) = pairs (nearM dv) xs j + (xs.take j).countP (nearM dv (xs.getD j 0)) := rfl
      have HJ := Lib.hid hst
      clear hst
      generalize xs.getD j 0 = x at *
      generalize pairs (nearM dv) xs j = P at *
      go_wp2
      go_hide hQ
      go_loopw [6, 8] (fun n i wr => ∃ k : Nat, k ≤ j ∧ i = .int .i64 (k : Int) ∧ n = .int .i64 ((P + (xs.take k).countP (nearM dv x) : Nat) : Int) ∧ ∃ m, wr = w1.drewN m) (fun _ i _ => j - (intOf i).toNat)
      case atStart => exact ⟨0, Nat.zero_le _, rfl, by simp, _, rfl⟩
      case round =>
        obtain ⟨k, hk, rfl, rfl, m2, rfl⟩ := hrel
        have hck := cnt_le' (nearM dv x) xs k
        by_cases hkl : k < j
        · have hkx2 : k < xs.length := by omega
          have hy := HD.out k hkx2
          have hky := HKP.out k hkx2
          have hkt := cnt_step (nearM dv x) xs k hkx2
          generalize (xs.take k).countP (nearM dv x) = C at *
          generalize xs.getD k 0 = y at *
          have hmx := run_max2 hkx hky Try.prog #[23, 23] 23
          have hmn := run_min2 hkx hky Try.prog #[23, 23] 23
          have HK := Lib.hid hkt
          have KX := Lib.hid hkx
          clear hkt hkx hky
          have hg : nearM dv x y = oLt (fsub (fmx x y) (fmn x y)) dv := rfl
          generalize fmx x y = M at *
          generalize fmn x y = N at *
          cases g1 : oLt (fsub M N) dv
          · rw [g1] at hg
            have HG := Lib.hid hg
            clear hg
            go_wp2
            refine wp_region_v (by kernel_rfl) (by kernel_rfl) ?_
            repeat (refine wpV_none rfl (fun K hK => ?_); go_simp; (refine hK _ ?_; clear hK K))
            refine wpV_sub0 rfl _ _ _ _ rfl _ _ rfl rfl (fun r hr K hK => ?_)
            have hrl : flt r dv = false := by rw [hr.lt, g1]
            clear hr
            go_simp
            refine hK _ ?_
            clear hK K
            repeat (refine wpV_none rfl (fun K hK => ?_); go_simp; (refine hK _ ?_; clear hK K))
            refine wpV_nil ?_
            intro nq
            go_wp2
            go_roundw
            case rel => exact ⟨k + 1, by omega, by go_num, by rw [HK.out, HG.out]; rfl, _, rfl⟩
            case measure => simp [intOf]; omega
          · rw [g1] at hg
            have HG := Lib.hid hg
            clear hg
            go_wp2
            refine wp_region_v (by kernel_rfl) (by kernel_rfl) ?_
            repeat (refine wpV_none rfl (fun K hK => ?_); go_simp; (refine hK _ ?_; clear hK K))
            refine wpV_sub0 rfl _ _ _ _ rfl _ _ rfl rfl (fun r hr K hK => ?_)
            have hrl : flt r dv = true := by rw [hr.lt, g1]
            clear hr
            go_simp
            refine hK _ ?_
            clear hK K
            repeat (refine wpV_none rfl (fun K hK => ?_); go_simp; (refine hK _ ?_; clear hK K))
            refine wpV_nil ?_
            intro nq
            go_wp2
            go_roundw
            case rel => exact ⟨k + 1, by omega, by go_num, by rw [HK.out, HG.out]; go_num, _, rfl⟩
            case measure => simp [intOf]; omega
        · have hke : k = j := by omega
          subst hke
          subst hQ
          go_wp2
          exact ⟨⟨k + 1, by omega, by go_num, by rw [HJ.out], _, rfl⟩, by simp [intOf]; omega⟩
    · have hke : j = xs.length := by omega
      subst hke
      go_wp2
      go_ret
      exact ⟨rfl, below_drewN_w hb _⟩
end Go.Proofs.Ytjoclapnjnmlkaa
