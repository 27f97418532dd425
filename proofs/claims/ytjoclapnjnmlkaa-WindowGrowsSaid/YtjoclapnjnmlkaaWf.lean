/- Walks: the greatest gap. -/
import Derived.Test.YtjoclapnjnmlkaaWe
set_option linter.unusedSimpArgs false
namespace Go.Proofs.Ytjoclapnjnmlkaa
open Go.RowKit

/-- one step of the gap along a sorted row -/
def gstep (o x y : Nat) : Nat := if oGt (fsub y x) o then (fsub y x).getD 0 else o
def gapTo (xs : List Nat) : Nat → Nat
  | 0 => 0
  | k + 1 => gstep (gapTo xs k) (xs.getD k 0) (xs.getD (k + 1) 0)

set_option maxHeartbeats 1000000 in
theorem wgap_any (hS : SortOk Try.prog 34 35) (hS0 : SortNone Try.prog 34 35)
    (p : Option Addr) (ds : List Done) (cap : Nat) (w : World) (hc : ds.length ≤ 61) (hH : Hist w p ds) :
    Calls Try.prog 17 #[.slice p ds.length cap] w fun e w' => (∃ xs : List Nat, xs.Perm (keep ds) ∧ xs.Pairwise (fun x y => 0 ≤ cmpT y x) ∧
      e = .returned (.tuple #[.float .f64 (gapTo xs (xs.length - 1)), .bool (decide ((1 : Int) < (xs.length : Int)))])) ∧ Below w.heap.size w w' := by
  have HT := Lib.hid (wtimes_any hS hS0 p ds cap w hc hH)
  clear hS hS0 hH
  go_enter Try.func17, Try.ntmps17
  go_wp2_with (go_at_call 23; refine HT.out.mono ?_; rintro e w1 ⟨q, c, xs, rfl, hf, hp, hs, hb⟩)
  clear HT
  have hxl : xs.length ≤ 61 := by have := hp.length_eq; have := keep_len ds; omega
  go_loopw [5, 6] (fun o i wr => ∃ j : Nat, 1 ≤ j ∧ (j = 1 ∨ j ≤ xs.length) ∧ i = .int .i64 (j : Int) ∧ o = .float .f64 (gapTo xs (j - 1)) ∧ ∃ m, wr = w1.drewN m) (fun _ i _ => xs.length + 1 - (intOf i).toNat)
  case atStart => exact ⟨1, by omega, .inl rfl, rfl, rfl, 0, rfl⟩
  case round =>
    obtain ⟨j, hj1, hj, rfl, rfl, m, rfl⟩ := hrel
    by_cases hlt : j < xs.length
    · rcases hf with h0 | ⟨b, off, rfl, hbl, hd⟩
      · subst h0; simp at hlt
      obtain ⟨k, hk⟩ : ∃ k, j = k + 1 := ⟨j - 1, by omega⟩
      have hx := hd k (by omega)
      have hy := hd j hlt
      clear hd
      have hg : gapTo xs j = gstep (gapTo xs k) (xs.getD k 0) (xs.getD j 0) := by rw [hk]; rfl
      have hjk : j - 1 = k := by omega
      rw [hjk]
      have hkl : k < xs.length := by omega
      have hkj2 : (k : Int) = (j : Int) - 1 := by omega
      have hn1 : IntKind.i64.wrap ((j : Int) - 1) = (k : Int) := by rw [← hkj2]; exact IntWalk.i64_in _ (by omega)
      clear hkj2
      have HJ := Lib.hid hk
      clear hk hjk
      generalize xs.getD k 0 = x at *
      generalize xs.getD j 0 = y at *
      generalize gapTo xs k = o at *
      unfold gstep at hg
      cases ho : oGt (fsub y x) o
      · rw [ho] at hg
        simp only [Bool.false_eq_true, if_false] at hg
        have HG := Lib.hid hg
        clear hg
        go_wp2
        refine wp_region_v (by kernel_rfl) (by kernel_rfl) ?_
        repeat (refine wpV_none rfl (fun K hK => ?_); go_simp; (refine hK _ ?_; clear hK K))
        refine wpV_sub0 rfl _ _ _ _ rfl _ _ rfl rfl (fun r hr K hK => ?_)
        have hrl : fgt r o = false := by rw [hr.gt, ho]
        clear hr
        go_simp
        refine hK _ ?_
        clear hK K
        repeat (refine wpV_none rfl (fun K hK => ?_); go_simp; (refine hK _ ?_; clear hK K))
        refine wpV_nil ?_
        intro nq
        clear hn1
        go_wp2
        go_roundw
        case rel => exact ⟨j + 1, by omega, by omega, by go_num, by rw [Nat.add_sub_cancel, HG.out], _, rfl⟩
        case measure => simp [intOf]; omega
      · rw [ho] at hg
        simp only [if_true] at hg
        cases hsub : fsub y x with
        | none => rw [hsub] at ho; cases ho
        | some d =>
          rw [hsub] at hg ho
          have HG := Lib.hid hg
          have HS := Lib.hid hsub
          clear hg hsub
          go_wp2
          refine wp_region_v (by kernel_rfl) (by kernel_rfl) ?_
          repeat (refine wpV_none rfl (fun K hK => ?_); go_simp; (refine hK _ ?_; clear hK K))
          refine wpV_sub0 rfl _ _ _ _ rfl _ _ rfl rfl (fun r hr K hK => ?_)
          rw [HS.out] at hr
          obtain rfl : r = d := hr
          have hrl : fgt r o = true := ho
          go_simp
          refine hK _ ?_
          clear hK K
          repeat (refine wpV_none rfl (fun K hK => ?_); go_simp; (refine hK _ ?_; clear hK K))
          refine wpV_nil ?_
          intro nq
          clear hn1
          go_wp2
          go_roundw
          case rel => exact ⟨j + 1, by omega, by omega, by go_num, by rw [Nat.add_sub_cancel, HG.out]; rfl, _, rfl⟩
          case measure => simp [intOf]; omega
    · go_wp2
      go_ret2
      have he : j - 1 = xs.length - 1 := by omega
      exact ⟨⟨xs, hp, hs, by rw [← he]; rfl⟩, below_drewN_w hb _⟩

/-- the least of those that are greater -/
def nstep (a : Nat) (s : Nat × Bool) (t : Nat) : Nat × Bool := if fgt t a && (!s.2 || flt t s.1) then (t, true) else s
def nextOf (a : Nat) (l : List Nat) : Nat × Bool := l.foldl (nstep a) (0, false)
theorem nextOf_take (a : Nat) (xs : List Nat) (k : Nat) (h : k < xs.length) : nextOf a (xs.take (k + 1)) = nstep a (nextOf a (xs.take k)) (xs.getD k 0) := by
  unfold nextOf
  rw [List.take_succ_eq_append_getElem h, List.foldl_append]
  have e : xs.getD k 0 = xs[k] := by simp [List.getD, h]
  rw [e]; rfl
def rgstep (xs : List Nat) (o a : Nat) : Nat := if (nextOf a xs).2 && oGt (fsub (nextOf a xs).1 a) o then (fsub (nextOf a xs).1 a).getD 0 else o
def rgap (xs : List Nat) (l : List Nat) : Nat := l.foldl (rgstep xs) 0
theorem rgap_take (ys xs : List Nat) (k : Nat) (h : k < xs.length) : rgap ys (xs.take (k + 1)) = rgstep ys (rgap ys (xs.take k)) (xs.getD k 0) := by
  unfold rgap
  rw [List.take_succ_eq_append_getElem h, List.foldl_append]
  have e : xs.getD k 0 = xs[k] := by simp [List.getD, h]
  rw [e]; rfl

set_option maxHeartbeats 1000000 in
theorem rgap_any (p : Option Addr) (ds : List Done) (cap : Nat) (w : World) (hc : ds.length ≤ 61) (hH : Hist w p ds) :
    Calls Try.prog 18 #[.slice p ds.length cap] w fun e w' =>
      e = .returned (.tuple #[.float .f64 (rgap (keep ds) (keep ds)), .bool (decide ((1 : Int) < ((keep ds).length : Int)))]) ∧ Below w.heap.size w w' := by
  have HT := Lib.hid (rtimes_any p ds cap w hc hH)
  have hkl := keep_len ds
  clear hH
  generalize keep ds = xs at *
  go_enter Try.func18, Try.ntmps18
  go_wp2_with (go_at_call 25; refine HT.out.mono ?_; rintro e w1 ⟨q, c, rfl, hf, hb⟩)
  clear HT
  go_loopw [5, 6] (fun o i wr => ∃ j : Nat, j ≤ xs.length ∧ i = .int .i64 (j : Int) ∧ o = .float .f64 (rgap xs (xs.take j)) ∧ ∃ m, wr = w1.drewN m) (fun _ i _ => xs.length - (intOf i).toNat)
  case atStart => exact ⟨0, Nat.zero_le _, rfl, rfl, 0, rfl⟩
  case round =>
    obtain ⟨j, hj, rfl, rfl, m, rfl⟩ := hrel
    by_cases hlt : j < xs.length
    · rcases hf with h0 | ⟨b, off, rfl, hbl, hd⟩
      · subst h0; simp at hlt
      have hx := hd j hlt
      have HD := Lib.hid hd
      clear hd
      have HG := Lib.hid (rgap_take xs xs j hlt)
      generalize xs.getD j 0 = a at *
      generalize rgap xs (xs.take j) = o at *
      go_wp2
      go_hide hQ
      go_loopw [7, 8, 9] (fun nx is i wr => ∃ k : Nat, k ≤ xs.length ∧ i = .int .i64 (k : Int) ∧ nx = .float .f64 (nextOf a (xs.take k)).1 ∧ is = .bool (nextOf a (xs.take k)).2 ∧ ∃ m, wr = w1.drewN m) (fun _ _ i _ => xs.length - (intOf i).toNat)
      case atStart => exact ⟨0, Nat.zero_le _, rfl, rfl, rfl, _, rfl⟩
      case round =>
        obtain ⟨k, hk, rfl, rfl, rfl, m2, rfl⟩ := hrel
        by_cases hkl : k < xs.length
        · have hy := HD.out k hkl
          have hkt := nextOf_take a xs k hkl
          generalize xs.getD k 0 = t at *
          generalize nextOf a (xs.take k) = s at *
          obtain ⟨nx, is⟩ := s
          unfold nstep at hkt
          simp only at hkt
          cases g1 : fgt t a
          · simp only [g1, Bool.false_and, Bool.false_eq_true, if_false] at hkt
            have HK := Lib.hid hkt
            clear hkt
            go_wp2
            refine wp_region_v (by kernel_rfl) (by kernel_rfl) ?_
            repeat (first | (refine wpV_none rfl (fun K hK => ?_); go_simp; (refine hK _ ?_; clear hK K)) | (refine wpV_pass2 _ _ _ rfl rfl rfl (fun K hK => ?_); go_simp; (refine hK _ ?_; clear hK K)) | (refine wpV_pass3 _ _ _ rfl rfl rfl (fun K hK => ?_); go_simp; (refine hK _ ?_; clear hK K)) | (refine wpV_want2 _ _ _ rfl rfl rfl (fun K hK => ?_); go_simp; (refine hK _ ?_; clear hK K)))
            refine wpV_nil ?_
            intro nq
            go_wp2
            go_roundw
            case rel => exact ⟨k + 1, by omega, by go_num, by rw [HK.out], by rw [HK.out], _, rfl⟩
            case measure => simp [intOf]; omega
          · cases is
            · simp only [g1, Bool.not_false, Bool.true_or, Bool.and_true, if_true] at hkt
              have HK := Lib.hid hkt
              clear hkt
              go_wp2
              refine wp_region_v (by kernel_rfl) (by kernel_rfl) ?_
              repeat (first | (refine wpV_none rfl (fun K hK => ?_); go_simp; (refine hK _ ?_; clear hK K)) | (refine wpV_pass2 _ _ _ rfl rfl rfl (fun K hK => ?_); go_simp; (refine hK _ ?_; clear hK K)) | (refine wpV_pass3 _ _ _ rfl rfl rfl (fun K hK => ?_); go_simp; (refine hK _ ?_; clear hK K)) | (refine wpV_want2 _ _ _ rfl rfl rfl (fun K hK => ?_); go_simp; (refine hK _ ?_; clear hK K)))
              refine wpV_nil ?_
              intro nq
              go_wp2
              go_roundw
              case rel => exact ⟨k + 1, by omega, by go_num, by rw [HK.out], by rw [HK.out], _, rfl⟩
              case measure => simp [intOf]; omega
            · cases g2 : flt t nx
              · simp only [g1, g2, Bool.not_true, Bool.or_false, Bool.and_false, Bool.false_eq_true, if_false] at hkt
                have HK := Lib.hid hkt
                clear hkt
                go_wp2
                refine wp_region_v (by kernel_rfl) (by kernel_rfl) ?_
                repeat (first | (refine wpV_none rfl (fun K hK => ?_); go_simp; (refine hK _ ?_; clear hK K)) | (refine wpV_pass2 _ _ _ rfl rfl rfl (fun K hK => ?_); go_simp; (refine hK _ ?_; clear hK K)) | (refine wpV_pass3 _ _ _ rfl rfl rfl (fun K hK => ?_); go_simp; (refine hK _ ?_; clear hK K)) | (refine wpV_want2 _ _ _ rfl rfl rfl (fun K hK => ?_); go_simp; (refine hK _ ?_; clear hK K)))
                refine wpV_nil ?_
                intro nq
                go_wp2
                go_roundw
                case rel => exact ⟨k + 1, by omega, by go_num, by rw [HK.out], by rw [HK.out], _, rfl⟩
                case measure => simp [intOf]; omega
              · simp only [g1, g2, Bool.not_true, Bool.or_true, Bool.and_true, if_true] at hkt
                have HK := Lib.hid hkt
                clear hkt
                go_wp2
                refine wp_region_v (by kernel_rfl) (by kernel_rfl) ?_
                repeat (first | (refine wpV_none rfl (fun K hK => ?_); go_simp; (refine hK _ ?_; clear hK K)) | (refine wpV_pass2 _ _ _ rfl rfl rfl (fun K hK => ?_); go_simp; (refine hK _ ?_; clear hK K)) | (refine wpV_pass3 _ _ _ rfl rfl rfl (fun K hK => ?_); go_simp; (refine hK _ ?_; clear hK K)) | (refine wpV_want2 _ _ _ rfl rfl rfl (fun K hK => ?_); go_simp; (refine hK _ ?_; clear hK K)))
                refine wpV_nil ?_
                intro nq
                go_wp2
                go_roundw
                case rel => exact ⟨k + 1, by omega, by go_num, by rw [HK.out], by rw [HK.out], _, rfl⟩
                case measure => simp [intOf]; omega
        · have hke : k = xs.length := by omega
          subst hke
          have ht : xs.take xs.length = xs := by simp
          rw [ht]
          clear ht
          unfold rgstep at HG
          generalize nextOf a xs = s at *
          obtain ⟨nx, is⟩ := s
          subst hQ
          cases is
          · have HG2 : Hid (rgap xs (List.take (j + 1) xs) = o) := by rw [HG.out]; rfl
            clear HG
            go_wp2
            exact ⟨⟨j + 1, by omega, by go_num, by rw [HG2.out], _, rfl⟩, by simp [intOf]; omega⟩
          · cases hsub : fsub nx a with
            | none =>
              have HG2 : Hid (rgap xs (List.take (j + 1) xs) = o) := by rw [HG.out, hsub]; rfl
              clear HG
              have ho : oGt (fsub nx a) o = false := by rw [hsub]; rfl
              have HS := Lib.hid hsub
              clear hsub
              go_wp2
              exact ⟨⟨j + 1, by omega, by go_num, by rw [HG2.out], _, rfl⟩, by simp [intOf]; omega⟩
            | some d =>
              cases hgt : fgt d o
              · have HG2 : Hid (rgap xs (List.take (j + 1) xs) = o) := by rw [HG.out, hsub]; simp only [oGt, hgt]; rfl
                clear HG
                have ho : oGt (fsub nx a) o = false := by rw [hsub]; exact hgt
                have HS := Lib.hid hsub
                clear hsub
                go_wp2
                exact ⟨⟨j + 1, by omega, by go_num, by rw [HG2.out], _, rfl⟩, by simp [intOf]; omega⟩
              · have HG2 : Hid (rgap xs (List.take (j + 1) xs) = d) := by rw [HG.out, hsub]; simp only [oGt, hgt]; rfl
                clear HG
                have ho : oGt (fsub nx a) o = true := by rw [hsub]; exact hgt
                have HS := Lib.hid hsub
                clear hsub
                go_wp2
                exact ⟨⟨j + 1, by omega, by go_num, by rw [HG2.out, HS.out]; rfl, _, rfl⟩, by simp [intOf]; omega⟩
    · have hke : j = xs.length := by omega
      subst hke
      have ht : xs.take xs.length = xs := by simp
      rw [ht]
      clear ht
      go_wp2
      go_ret2
      exact ⟨rfl, below_drewN_w hb _⟩
end Go.Proofs.Ytjoclapnjnmlkaa
