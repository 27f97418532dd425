/- Walk of the law: the order plays no part. -/
import Derived.Test.YtjoclapnjnmlkaaLb
set_option linter.unusedSimpArgs false
namespace Go.Proofs.Ytjoclapnjnmlkaa
open Go.RowKit

def cells6 (x : Done) : List Value := [.float .f64 x.t, .int .i64 x.a, .int .i64 x.b, .int .i64 x.c, .int .i64 x.d, .int .i64 x.f]
def flat (ds : List Done) : List Value := ds.flatMap cells6
theorem flat_len (ds : List Done) : (flat ds).length = ds.length * 6 := by
  induction ds with
  | nil => rfl
  | cons d ds ih =>
    show (cells6 d ++ flat ds).length = _
    rw [List.length_append, ih, List.length_cons]
    show 6 + _ = _
    omega
theorem flat_append (a b : List Done) : flat (a ++ b) = flat a ++ flat b := by simp [flat]
theorem flat_get (ds : List Done) : ∀ (i j : Nat), i < ds.length → j < 6 → (flat ds)[i * 6 + j]? = (cells6 (ds.getD i z0))[j]? := by
  induction ds with
  | nil => intro i j h; simp at h
  | cons d ds ih =>
    intro i j hi hj
    show (cells6 d ++ flat ds)[i * 6 + j]? = _
    cases i with
    | zero => rw [List.getElem?_append_left (by show _ < 6; omega)]; simp
    | succ i =>
      rw [List.getElem?_append_right (by show 6 ≤ _; omega)]
      have e : (i + 1) * 6 + j - (cells6 d).length = i * 6 + j := by show _ - 6 = _; omega
      rw [e, ih i j (by simpa using hi) hj]
      simp
theorem Hist.own {w : World} {B : Nat} {T : TypeId} {v : Value} {ds : List Done} (h : w.ownsRow B T 6 v ds.length (flat ds)) :
    ∃ p cap, v = .slice p ds.length cap ∧ Hist w p ds := by
  rcases h.2 with ⟨rfl, h0⟩ | ⟨g, cap, cur, rfl, hg, hh, hn, _, hs, ht⟩
  · have : ds = [] := List.length_eq_zero_iff.1 h0
    subst this
    exact ⟨none, 0, rfl, .inl rfl⟩
  · refine ⟨_, cap, rfl, .inr ⟨g, 0, rfl, (Array.getElem?_eq_some_iff.1 hh).1, fun i hi => ?_⟩⟩
    have hc : ∀ j, j < 6 → w.cell? ⟨g, 0 + i * 6 + j, none⟩ = (cells6 (ds.getD i z0))[j]? := fun j hj => by
      rw [cell_of_row w g _ cur T (0, 0) hh]
      have e := flat_get ds i j hi hj
      rw [← ht, List.getElem?_take, if_pos (by omega)] at e
      rw [Nat.zero_add]
      simpa using e
    exact ⟨hc 0 (by omega), hc 1 (by omega), hc 2 (by omega), hc 3 (by omega), hc 4 (by omega), hc 5 (by omega)⟩

def turned (es : List Done) (t k : Nat) : List Done := (List.range k).map fun i => es.getD ((i + t) % es.length) z0
theorem turned_succ (es : List Done) (t k : Nat) : turned es t (k + 1) = turned es t k ++ [es.getD ((k + t) % es.length) z0] := by
  unfold turned
  rw [List.range_succ, List.map_append]
  rfl
theorem turned_len (es : List Done) (t k : Nat) : (turned es t k).length = k := by simp [turned]
theorem turned_perm (es : List Done) (t : Nat) : (turned es t es.length).Perm es := by
  have e : turned es t es.length = es.drop (t % es.length) ++ es.take (t % es.length) := by
    rcases Nat.eq_zero_or_pos es.length with h0 | h0
    · have : es = [] := List.length_eq_zero_iff.1 h0
      subst this; simp [turned]
    have hm := Nat.mod_lt t h0
    apply List.ext_getElem?
    intro i
    by_cases hi : i < es.length
    · have hr : (turned es t es.length)[i]? = some (es.getD ((i + t) % es.length) z0) := by simp [turned, hi]
      rw [hr]
      by_cases hk : i < es.length - t % es.length
      · rw [List.getElem?_append_left (by simpa using hk), List.getElem?_drop]
        have h1 : (i + t) % es.length = t % es.length + i := by
          rw [Nat.add_mod, Nat.mod_eq_of_lt hi, Nat.mod_eq_of_lt (by omega)]; omega
        rw [h1, List.getElem?_eq_getElem (by omega)]
        simp [List.getD, List.getElem?_eq_getElem (show t % es.length + i < es.length by omega)]
      · rw [List.getElem?_append_right (by simp; omega), List.getElem?_take, if_pos (by simp; omega)]
        have h1 : (i + t) % es.length = i - (es.length - t % es.length) := by
          rw [Nat.add_mod, Nat.mod_eq_of_lt hi, Nat.mod_eq_sub_mod (by omega), Nat.mod_eq_of_lt (by omega)]; omega
        rw [h1, List.length_drop, List.getElem?_eq_getElem (by omega)]
        simp [List.getD, List.getElem?_eq_getElem (show i - (es.length - t % es.length) < es.length by omega)]
    · rw [List.getElem?_eq_none (by rw [turned_len]; omega), List.getElem?_eq_none (by simp; omega)]
  rw [e]
  exact List.perm_append_comm.trans (List.Perm.of_eq (List.take_append_drop _ _))
theorem keep_perm {a b : List Done} (h : a.Perm b) : (keep a).Perm (keep b) := h.filterMap _

theorem news6 (w : World) (v0 v1 v2 v3 v4 v5 : Value) (t : TypeId) {g : Nat} (hg : g = w.heap.size) : ∀ j u, [v0, v1, v2, v3, v4, v5][j]? = some u → (w.alloc (.cells #[v0, v1, v2, v3, v4, v5] t)).cell? ((⟨g, 0, none⟩ : Addr).add j) = some u := by
  subst hg
  intro j u h
  have hj : j < 6 := by have := (List.getElem?_eq_some_iff.1 h).1; simpa using this
  have h6 : j = 0 ∨ j = 1 ∨ j = 2 ∨ j = 3 ∨ j = 4 ∨ j = 5 := by omega
  rcases h6 with rfl | rfl | rfl | rfl | rfl | rfl <;> (simp at h; subst h; show World.cell? _ (⟨w.heap.size, _, none⟩ : Addr) = _; unfold World.cell?; rw [heap_alloc_new]; rfl)

theorem infDone : (Try.prog.info? 46).map (fun i => (i.zero, i.size, i.bytes)) = some (some (.agg #[.float .f64 0, .int .i64 0, .int .i64 0, .int .i64 0, .int .i64 0, .int .i64 0]), 6, 48) := by kernel_rfl

set_option maxHeartbeats 2000000 in
theorem lorder_any (p : Option Addr) (ds : List Done) (cap tn wv : Nat) (w : World) (A : Arg w p ds cap) (hw6 : wv < 18446744073709551616) (htn : tn < 256) :
    Calls Try.prog 6 #[.slice p ds.length cap, .int .u8 (tn : Int), .float .f64 wv] w fun e w' => e = .returned (.bool true) ∧ Below w.heap.size w w' := by
  obtain ⟨i0, hi, hz0, hz1, hz2⟩ := info_parts infDone
  have hl : (ds.take 60).length ≤ 60 := List.length_take_le 60 ds
  have hk := fun x (h : x ∈ keep (ds.take 60)) => kept_of (take_small A.small 60) h
  have HF := Lib.hid (few_any p ds cap w A.fits A.big A.hist A.nil)
  have hH := hist_take A.hist 60
  clear A
  generalize ds.take 60 = es at *
  go_enter Try.func6, Try.ntmps6
  go_wp2_with fail
  refine HF.out.mono ?_
  rintro e w' ⟨rfl, rfl⟩
  go_wp2_with fail
  go_loopw [7, 8] (fun v i wr => ∃ k : Nat, k ≤ es.length ∧ i = .int .i64 k ∧ wr.ownsRow w.heap.size 46 6 v (turned es tn k).length (flat (turned es tn k)) ∧ Below w.heap.size w wr) (fun _ i _ => es.length - (intOf i).toNat)
  case atStart => exact ⟨0, Nat.zero_le _, rfl, World.ownsRow_nil _ _ _ _, Below.refl _ _⟩
  case round =>
    obtain ⟨k, hk2, rfl, hown, hb⟩ := hrel
    by_cases hlt : k < es.length
    · rcases hH with h0 | ⟨b, off, rfl, hbl, hd⟩
      · subst h0; simp at hlt
      have hml : (k + tn) % es.length < es.length := Nat.mod_lt _ (by omega)
      have hx := (hd _ hml).below hbl hb
      have hm1 : IntKind.i64.wrap ((k : Int) + (tn : Int)) = ((k + tn : Nat) : Int) := by rw [IntWalk.i64_in _ (by omega)]; omega
      have hm2 : Int.tmod ((k + tn : Nat) : Int) (es.length : Int) = (((k + tn) % es.length : Nat) : Int) := rfl
      have hts := turned_succ es tn k
      have htl := turned_len es tn k
      generalize (k + tn) % es.length = m at *
      generalize k + tn = kt at *
      obtain ⟨c0, c1, c2, c3, c4, c5⟩ := hx
      have HK := Lib.hid hts
      clear hts
      have hs := hb.size
      generalize es.getD m z0 = x at *
      go_wp2_with (at_builtin; go_loud (refine wpList_append_own _ rfl _ _ 22 rfl w.heap.size 46 i0 (.agg #[.float .f64 0, .int .i64 0, .int .i64 0, .int .i64 0, .int .i64 0, .int .i64 0]) 6 48 Try.underlying22 hi hz0 hz1 hz2 rfl (by decide) _ _ _ rfl (hown.alloc _) ⟨wr.heap.size, 0, none⟩ 1 1 (cells6 x) rfl rfl ?c1 ?c2 ?c3 ?c4 ?c5 ?_))
      case c1 => exact news6 _ _ _ _ _ _ _ _ rfl
      case c2 => intro u hu; simp [cells6] at hu; rcases hu with rfl | rfl | rfl | rfl | rfl | rfl <;> rfl
      case c3 => unfold maxLen; omega
      case c4 => omega
      case c5 => simp; omega
      intro v' w1 hown' hgr _
      go_wp2
      go_roundw
      case rel =>
        refine ⟨k + 1, by omega, by go_num, ?_, ?_⟩
        · rw [HK.out, flat_append, List.length_append, htl]; simpa [flat] using hown'
        · exact (hb.alloc hs _).grown hgr (by simp; omega) (fun q hq => (hown.lt q hq).1)
      case measure => simp [intOf]; omega
    · have hke : k = es.length := by omega
      subst hke
      have hperm := keep_perm (turned_perm es tn)
      have hmm : (turned es tn es.length).length = es.length := turned_len es tn es.length
      obtain ⟨q, c, rfl, hm⟩ := Hist.own hown
      clear hown
      generalize turned es tn es.length = ms at *
      rw [hmm]
      have HH1 := Lib.hid (hH.below hb)
      have HH2 := Lib.hid hm
      have HMe := Lib.hid (fun w h => wmost_any sort_ok sort_none p es cap wv w (by omega) h)
      have HMm := Lib.hid (fun w h => wmost_any sort_ok sort_none q ms c wv w (by omega) h)
      have HGe := Lib.hid (fun w h => wgap_any sort_ok sort_none p es cap w (by omega) h)
      have HGm := Lib.hid (fun w h => wgap_any sort_ok sort_none q ms c w (by omega) h)
      have HPe := Lib.hid (fun w h => wparts_any sort_ok sort_none p es cap 0 wv 8 w (by omega) h (by decide) hw6)
      have HPm := Lib.hid (fun w h => wparts_any sort_ok sort_none q ms c 0 wv 8 w (by omega) h (by decide) hw6)
      rw [hmm] at HMm HGm HPm
      have HU : Hid (∀ xs : List Nat, xs.Perm (keep es) → xs.Pairwise (fun x y => 0 ≤ cmpT y x) → ∀ ys : List Nat, ys.Perm (keep es) ∨ ys.Perm (keep ms) → ys.Pairwise (fun x y => 0 ≤ cmpT y x) → ys = xs) :=
        fun xs hp hs ys hq ht => (srt_unique (fun x hx => hk x (hp.mem_iff.1 hx)) (hp.trans (hq.elim (fun h => h.symm) (fun h => (h.trans hperm).symm))) (srt_of hs) (srt_of ht)).symm
      have HC : Hid (∀ i, cntL 0 wv (keep ms) i = cntL 0 wv (keep es) i) := fun i => by unfold cntL; exact hperm.countP_eq _
      have hN : pN 0 wv 8 ≤ 100 := by unfold pN; split <;> decide
      clear hperm hm hk hH
      go_wp2_with fail
      refine (HMe.out _ HH1.out).mono ?_
      rintro e w1 ⟨⟨xs, hp, hs, rfl⟩, b1⟩
      have HX := Lib.hid (HU.out xs hp hs)
      clear hp hs HMe HU
      have B1 := hb.trans (b1.mono hb.size)
      have HH1' := Lib.hid (HH1.out.below b1)
      have HH2' := Lib.hid (HH2.out.below b1)
      clear HH1 HH2 b1 hb
      go_wp2_with fail
      refine (HMm.out _ HH2'.out).mono ?_
      rintro e w2 ⟨⟨ys, hp, hs, rfl⟩, b2⟩
      obtain rfl := HX.out ys (.inr hp) hs
      clear hp hs HMm
      have B2 := B1.trans (b2.mono B1.size)
      have HH1 := Lib.hid (HH1'.out.below b2)
      have HH2 := Lib.hid (HH2'.out.below b2)
      clear HH1' HH2' b2 B1
      generalize best (many ys wv) ys (0, 0) = s at *
      obtain ⟨n, a⟩ := s
      go_wp2_with fail
      refine (HGe.out _ HH1.out).mono ?_
      rintro e w3 ⟨⟨xs, hp, hs, rfl⟩, b3⟩
      obtain rfl := HX.out xs (.inl hp) hs
      clear hp hs HGe
      have B3 := B2.trans (b3.mono B2.size)
      have HH1' := Lib.hid (HH1.out.below b3)
      have HH2' := Lib.hid (HH2.out.below b3)
      clear HH1 HH2 b3 B2
      go_wp2_with fail
      refine (HGm.out _ HH2'.out).mono ?_
      rintro e w4 ⟨⟨zs, hp, hs, rfl⟩, b4⟩
      obtain rfl := HX.out zs (.inr hp) hs
      clear hp hs HGm HX
      have B4 := B3.trans (b4.mono B3.size)
      have HH1 := Lib.hid (HH1'.out.below b4)
      have HH2 := Lib.hid (HH2'.out.below b4)
      clear HH1' HH2' b4 B3
      generalize gapTo zs (zs.length - 1) = g at *
      generalize decide ((1 : Int) < (zs.length : Int)) = gi at *
      generalize pN 0 wv 8 = N at *
      generalize pErr 0 wv 8 = E at *
      go_wp2_with fail
      refine (HPe.out _ HH1.out).mono ?_
      rintro e w5 ⟨⟨v, rfl, hv⟩, b5⟩
      have B5 := B4.trans (b5.mono B4.size)
      have HH2' := Lib.hid (HH2.out.below b5)
      clear HH1 HH2 b5 B4 HPe
      go_wp2_with fail
      refine (HPm.out _ HH2'.out).mono ?_
      rintro e w6 ⟨⟨v2, rfl, hv2⟩, b6⟩
      have B6 := B5.trans (b6.mono B5.size)
      have HV1 := Lib.hid (hv.below b6)
      have HV2 := Lib.hid (hv2.congr (fun i _ => HC.out i))
      clear HH2' b6 B5 HPm HC hv hv2
      go_wp2_with fail
      refine (awake_any _).mono ?_
      rintro e w7 ⟨rfl, b7⟩
      have B7 := B6.trans (b7.mono B6.size)
      have HV1' := Lib.hid (HV1.out.below b7)
      have HV2' := Lib.hid (HV2.out.below b7)
      clear B6 b7 HV1 HV2
      have h1 : ((n : Int) == (n : Int)) = true := by simp
      have h2 : (gi == gi) = true := by simp
      have h3 : (E == E) = true := by simp
      go_wp2_with fail
      refine (rfloat_any _ _ _).mono ?_
      rintro e w8 ⟨rfl, rfl⟩
      go_wp2_with fail
      refine (rfloat_any _ _ _).mono ?_
      rintro e w8 ⟨rfl, rfl⟩
      go_wp2_with fail
      refine (ints_eq v v2 N _ _ hN HV1'.out HV2'.out).mono ?_
      rintro e w8 ⟨rfl, m, rfl⟩
      go_wp2_with fail
      go_ret
      exact ⟨by simp, below_drewN_w B7 m⟩
end Go.Proofs.Ytjoclapnjnmlkaa
