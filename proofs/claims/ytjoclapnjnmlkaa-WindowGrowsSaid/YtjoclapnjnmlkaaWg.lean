/- Walks: how many times fall into each part. -/
import Derived.Test.YtjoclapnjnmlkaaWf
import Derived.Deep.OwnRows
import Derived.BigQuiet
import Derived.Deep.QuietTactic
set_option linter.unusedSimpArgs false
namespace Go.Proofs.Ytjoclapnjnmlkaa
open Go.RowKit

@[go_sem] theorem orNan_some (w : World) (x y r : Nat) : orNan w x y (some r) = r := rfl
@[go_sem] theorem draws_some (r : Nat) : draws (some r) = 0 := rfl
@[go_sem] theorem drewN_zero (w : World) : w.drewN 0 = w := rfl

/-- what an index is as a float -/
def flo (i : Nat) : Nat := floatOfInt .f64 (i : Int)
theorem flo_fin (i : Nat) (h : i < 66) : ffin (flo i) = true := by
  have : (List.range 66).all (fun n => ffin (flo n)) = true := by decide +kernel
  rw [List.all_eq_true] at this
  exact this i (List.mem_range.2 h)

theorem fsub_some {x y : Nat} (hx : fnan x = false) (hy : ffin y = true) : ∃ d, fsub x y = some d := by
  have hx' := fnan_false hx
  have hy' : frung y < 9218868437227405312 := by simpa [ffin] using hy
  obtain ⟨n, j, ey, _, _⟩ := read_num hy'
  unfold fsub FloatKind.format Ieee.Format.sub
  rw [ey]
  rcases Nat.lt_or_ge (frung x) 9218868437227405312 with h | h
  · obtain ⟨m, i, ex, _, _⟩ := read_num h
    rw [ex]
    exact ⟨_, rfl⟩
  · rw [read_inf (by omega)]
    exact ⟨_, rfl⟩
theorem fmul_some {x y : Nat} (hx : ffin x = true) (hy : ffin y = true) : ∃ d, fmul x y = some d := by
  have hx' : frung x < 9218868437227405312 := by simpa [ffin] using hx
  have hy' : frung y < 9218868437227405312 := by simpa [ffin] using hy
  obtain ⟨m, i, ex, _, _⟩ := read_num hx'
  obtain ⟨n, j, ey, _, _⟩ := read_num hy'
  unfold fmul FloatKind.format Ieee.Format.mul
  rw [ex, ey]
  exact ⟨_, rfl⟩

/-- does a time fall into a part -/
def inPart (f wv t i : Nat) : Bool := fge ((fsub t f).getD 0) ((fmul (flo i) wv).getD 0) && flt ((fsub t f).getD 0) ((fmul (flo (i + 1)) wv).getD 0)

def rowN (n : Nat) (f : Nat → Nat) : Array Value := ((List.range n).map fun i => Value.int .i64 (f i)).toArray
theorem rowN_get (n : Nat) (f : Nat → Nat) (i : Nat) (h : i < n) : (rowN n f)[i]? = some (.int .i64 (f i)) := by simp [rowN, h]
theorem rowN_set (n : Nat) (f g : Nat → Nat) (k : Nat) (v : Nat) (hk : k < n) (h1 : g k = v) (h2 : ∀ i, i ≠ k → g i = f i) : (rowN n f).setIfInBounds k (.int .i64 v) = rowN n g := by
  apply Array.ext_getElem?
  intro i
  rw [Array.getElem?_setIfInBounds]
  by_cases hik : k = i
  · subst hik
    simp [rowN, hk, h1]
  · rw [if_neg hik]
    simp only [rowN, List.getElem?_toArray, List.getElem?_map]
    by_cases hi : i < n
    · rw [List.getElem?_range hi]; simp [h2 i (fun e => hik e.symm)]
    · rw [List.getElem?_eq_none (by simpa using hi)]; rfl
theorem rowN_congr (n : Nat) (f g : Nat → Nat) (h : ∀ i, i < n → f i = g i) : rowN n f = rowN n g := by
  unfold rowN
  rw [List.map_congr_left]
  intro i hi
  rw [h i (List.mem_range.1 hi)]

/-- the counts, the first k of them brought up to date -/
def upd (f wv t : Nat) (c : Nat → Nat) (k : Nat) (i : Nat) : Nat := if decide (i < k) && inPart f wv t i then c i + 1 else c i

theorem upd_no {f wv t : Nat} {c : Nat → Nat} {k : Nat} (h : inPart f wv t k = false) (i : Nat) : upd f wv t c k i = upd f wv t c (k + 1) i := by
  unfold upd
  by_cases hik : i = k
  · subst hik; simp [h]
  · have : decide (i < k) = decide (i < k + 1) := by rw [decide_eq_decide]; omega
    rw [this]
theorem upd_other {f wv t : Nat} {c : Nat → Nat} {k : Nat} (i : Nat) (hik : i ≠ k) : upd f wv t c (k + 1) i = upd f wv t c k i := by
  unfold upd
  have : decide (i < k + 1) = decide (i < k) := by rw [decide_eq_decide]; omega
  rw [this]
theorem _root_.Go.World.grownBy.drewN {w w' : World} {r : Option Nat} (h : w.grownBy w' r) (n : Nat) : w.grownBy (w'.drewN n) r := ⟨h.os, h.tape, h.output, h.size, h.block⟩
theorem _root_.Go.World.grownBy.setCell {w w' : World} {b : Nat} (h : w.grownBy w' (some b)) {a : Addr} {v : Value} (ha : a.block = b) : w.grownBy (w'.setCell a v) (some b) :=
  ⟨h.os, h.tape, h.output, by simp [World.setCell]; exact h.size, fun k hk hne => by rw [Below.heap_setCell _ _ _ _ (fun e => hne (by rw [e, ha]))]; exact h.block k hk hne⟩

set_option maxHeartbeats 1000000 in
theorem wput_any (n : Nat) (c : Nat → Nat) (bf bo br bw t fv wv : Nat) (w : World) (hn : n ≤ 64) (hc : ∀ i, c i ≤ 100)
    (ht : fnan t = false) (hff : ffin fv = true) (hwf : ffin wv = true)
    (h1 : w.cell? ⟨bf, 0, none⟩ = some (.float .f64 fv)) (h2 : w.cell? ⟨bo, 0, none⟩ = some (.slice (some ⟨br, 0, none⟩) n n)) (h3 : w.cell? ⟨bw, 0, none⟩ = some (.float .f64 wv))
    (h4 : w.heap[br]? = some (.cells (rowN n c) 3 (0, 0))) (d1 : bf ≠ br) (d2 : bo ≠ br) (d3 : bw ≠ br) :
    Calls Try.prog 30 #[.float .f64 t, .pointer (some ⟨bf, 0, none⟩), .pointer (some ⟨bo, 0, none⟩), .pointer (some ⟨bw, 0, none⟩)] w fun e w' =>
      e = .returned (.tuple #[]) ∧ w'.heap[br]? = some (.cells (rowN n (upd fv wv t c n)) 3 (0, 0)) ∧ w.grownBy w' (some br) := by
  obtain ⟨d, hd⟩ := fsub_some ht hff
  go_enter Try.func30, Try.ntmps30
  go_wp2
  go_loopw [14] (fun i wr => ∃ k : Nat, k ≤ n ∧ i = .int .i64 k ∧ wr.heap[br]? = some (.cells (rowN n (upd fv wv t c k)) 3 (0, 0)) ∧ w.grownBy wr (some br)) (fun i _ => n - (intOf i).toNat)
  case atStart => 
    refine ⟨0, Nat.zero_le _, rfl, ?_, ⟨rfl, rfl, rfl, Nat.le_refl _, fun _ _ _ => rfl⟩⟩
    show w.heap[br]? = _
    rw [h4, rowN_congr n c (upd fv wv t c 0) (fun i _ => by simp [upd])]
  case round =>
    obtain ⟨k, hk, rfl, hrow, hg⟩ := hrel
    have g1 := hg.cell h1 (by simpa using d1)
    have g2 := hg.cell h2 (by simpa using d2)
    have g3 := hg.cell h3 (by simpa using d3)
    clear h1 h2 h3 h4
    by_cases hlt : k < n
    · obtain ⟨lo, hlo⟩ := fmul_some (flo_fin k (by omega)) hwf
      obtain ⟨hi, hhi⟩ := fmul_some (flo_fin (k + 1) (by omega)) hwf
      have e1 : floatOfInt .f64 (k : Int) = flo k := rfl
      have e2 : floatOfInt .f64 ((k : Int) + 1) = flo (k + 1) := by unfold flo; congr 1
      have e3 : IntKind.i64.wrap ((k : Int) + 1) = (k : Int) + 1 := IntWalk.i64_in _ (by omega)
      have hcell : wr.cell? ⟨br, k, none⟩ = some (.int .i64 (upd fv wv t c k k)) := by
        rw [cell_of_row wr br k _ _ _ hrow, rowN_get _ _ _ hlt]
      have hfz : wr.frozen? ⟨br, k, none⟩ = false := frozen_of_row wr br k _ _ hrow
      have hck : upd fv wv t c k k = c k := by simp [upd]
      rw [hck] at hcell
      have hcc := hc k
      have hin : inPart fv wv t k = (fge d lo && flt d hi) := by unfold inPart; rw [hd, hlo, hhi]; rfl
      have HIN := Lib.hid hin
      clear hin hck
      have HROW := Lib.hid hrow
      have HG := Lib.hid hg
      clear hrow hg
      obtain ⟨ck, hck0⟩ : ∃ ck, c k = ck := ⟨_, rfl⟩
      rw [hck0] at hcell hcc
      have HCK := Lib.hid hck0
      clear hck0
      go_wp2
      go_quiet (fail)
      cases k1 : fge d lo
      · have HIN2 : Hid (inPart fv wv t k = false) := by rw [HIN.out, k1]; rfl
        clear hcell hfz e1 e2 e3
        go_wp2
        go_roundw
        case rel =>
          refine ⟨k + 1, by omega, by go_num, ?_, HG.out.drewN nq⟩
          show wr.heap[br]? = _
          rw [HROW.out, rowN_congr n (upd fv wv t c k) (upd fv wv t c (k + 1)) (fun i _ => upd_no HIN2.out i)]
        case measure => simp [intOf]; omega
      · cases k2 : flt d hi
        · have HIN2 : Hid (inPart fv wv t k = false) := by rw [HIN.out, k2, Bool.and_false]; rfl
          clear hcell hfz e1 e2 e3
          go_wp2
          go_roundw
          case rel =>
            refine ⟨k + 1, by omega, by go_num, ?_, HG.out.drewN nq⟩
            show wr.heap[br]? = _
            rw [HROW.out, rowN_congr n (upd fv wv t c k) (upd fv wv t c (k + 1)) (fun i _ => upd_no HIN2.out i)]
          case measure => simp [intOf]; omega
        · have HIN2 : Hid (inPart fv wv t k = true) := by rw [HIN.out, k1, k2]; rfl
          clear e1 e2 e3
          go_wp2
          go_roundw
          case rel =>
            refine ⟨k + 1, by omega, by go_num, ?_, (HG.out.drewN nq).setCell rfl⟩
            have hh : (wr.drewN nq).heap[br]? = some (.cells (rowN n (upd fv wv t c k)) 3 (0, 0)) := HROW.out
            have h5 := heap_setCell_same (wr.drewN nq) br k _ _ (Value.int .i64 ((ck + 1 : Nat) : Int)) hh
            rw [rowN_set n (upd fv wv t c k) (upd fv wv t c (k + 1)) k (ck + 1) hlt (by simp [upd, HIN2.out, ← HCK.out]) (fun i hi => upd_other i hi)] at h5
            exact h5
          case measure => simp [intOf]; omega
    · have hke : k = n := by omega
      subst hke
      go_wp2
      go_end0
      exact ⟨rfl, hrow, hg⟩

/-- the counts after a list of times -/
def cntL (f wv : Nat) (l : List Nat) (i : Nat) : Nat := l.countP (fun t => inPart f wv t i)
theorem cnt_take (f wv : Nat) (xs : List Nat) (k n : Nat) (h : k < xs.length) (i : Nat) (hi : i < n) :
    upd f wv (xs.getD k 0) (cntL f wv (xs.take k)) n i = cntL f wv (xs.take (k + 1)) i := by
  unfold cntL upd
  rw [List.take_succ_eq_append_getElem h, List.countP_append]
  have e : xs.getD k 0 = xs[k] := by simp [List.getD, h]
  rw [e]
  simp only [hi, decide_true, Bool.true_and, List.countP_cons, List.countP_nil, Nat.zero_add]
  split <;> simp
theorem cnt_le (f wv : Nat) (xs : List Nat) (k i : Nat) : cntL f wv (xs.take k) i ≤ k := Nat.le_trans List.countP_le_length (List.length_take_le _ _)

theorem madeCells_zero (n : Nat) : madeCells #[Value.int .i64 0] n = rowN n (fun _ => 0) := by
  apply Array.ext_getElem?
  intro i
  by_cases hi : i < n
  · simp [madeCells, rowN, hi, Nat.mod_one]
  · simp [madeCells, rowN, hi]

theorem infInt : (Try.prog.info? 3).map (fun i => (i.zero, i.size, i.bytes)) = some (some (.int .i64 0), 1, 8) := by kernel_rfl
theorem kept_nan {ds : List Done} {x : Nat} (h : x ∈ keep ds) : fnan x = false := by
  unfold keep at h
  rw [List.mem_filterMap] at h
  obtain ⟨y, _, hy⟩ := h
  cases hn : fnan y.t
  · simp only [hn, Bool.false_eq_true, if_false, Option.some.injEq] at hy
    rw [← hy]
    unfold normR
    rw [hn]
    simp only [Bool.false_eq_true, if_false]
    split
    · decide
    · exact hn
  · simp [hn] at hy

theorem heap_alloc4 (w : World) (a b c d : Obj) : ((((w.alloc a).alloc b).alloc c).alloc d).heap[w.heap.size]? = some a ∧ ((((w.alloc a).alloc b).alloc c).alloc d).heap[w.heap.size + 1]? = some b ∧
    ((((w.alloc a).alloc b).alloc c).alloc d).heap[w.heap.size + 1 + 1]? = some c ∧ ((((w.alloc a).alloc b).alloc c).alloc d).heap[w.heap.size + 1 + 1 + 1]? = some d := by
  have s1 : (w.alloc a).heap.size = w.heap.size + 1 := by simp
  have s2 : ((w.alloc a).alloc b).heap.size = w.heap.size + 1 + 1 := by simp
  have s3 : (((w.alloc a).alloc b).alloc c).heap.size = w.heap.size + 1 + 1 + 1 := by simp
  refine ⟨?_, ?_, ?_, ?_⟩
  · rw [heap_alloc_old _ _ (by omega), heap_alloc_old _ _ (by omega), heap_alloc_old _ _ (by omega), heap_alloc_new]
  · rw [heap_alloc_old _ _ (by omega), heap_alloc_old _ _ (by omega), ← s1, heap_alloc_new]
  · rw [heap_alloc_old _ _ (by omega), ← s2, heap_alloc_new]
  · rw [← s3, heap_alloc_new]

/-- what a row of counts reads as -/
def Counts (w : World) (v : Value) (n : Nat) (f : Nat → Nat) : Prop :=
  ∃ q c, v = .slice q n c ∧ n ≤ c ∧ (n = 0 ∨ ∃ b off, q = some ⟨b, off, none⟩ ∧ b < w.heap.size ∧ ∀ i, i < n → w.cell? ⟨b, off + i, none⟩ = some (.int .i64 (f i)))

set_option maxHeartbeats 2000000 in
theorem wparts_ok (hS : SortOk Try.prog 34 35) (hS0 : SortNone Try.prog 34 35)
    (p : Option Addr) (ds : List Done) (cap fv wv n : Nat) (w : World) (hc : ds.length ≤ 61) (hH : Hist w p ds) (hn : n ≤ 64) (hff : ffin fv = true) (hwf : ffin wv = true) (hw0 : fle wv 0 = false)
    (hf6 : fv < 18446744073709551616) (hw6 : wv < 18446744073709551616) :
    Calls Try.prog 14 #[.slice p ds.length cap, .float .f64 fv, .float .f64 wv, .int .i64 n] w fun e w' => (∃ v, e = .returned (.tuple #[v, .int .i64 0]) ∧ Counts w' v n (cntL fv wv (keep ds))) ∧ Below w.heap.size w w' := by
  have HT := Lib.hid (fun w hH => wtimes_own hS hS0 p ds cap w hc hH)
  clear hS hS0
  obtain ⟨i0, hi, hz0, hz1, hz2⟩ := info_parts infInt
  have hH1 : ∀ (a b c d : Obj), Hist ((((w.alloc a).alloc b).alloc c).alloc d) p ds := fun a b c d => hH.below ((((Below.refl _ _).alloc (Nat.le_refl _) _).alloc (by simp) _).alloc (by simp; omega) _ |>.alloc (by simp; omega) _)
  have HH := Lib.hid hH1
  clear hH hH1
  have t1 : decide ((n : Int) < 0) = false := by simp
  have t2 : decide ((64 : Int) < (n : Int)) = false := by simp; omega
  go_enter Try.func14, Try.ntmps14
  go_wp2_with (first
    | (go_at_call 29; refine (finite_any _ _ (by assumption)).mono ?_; rintro e w' ⟨rfl, rfl⟩)
    | (at_make; refine wpList_make_row _ rfl _ _ 32 rfl 3 i0 (.int .i64 0) Try.underlying32 hi hz0 hz1 rfl .i64 .i64 n rfl rfl (by rw [hz2]; omega) (by omega) ?_)
    | (go_at_call 23; go_loud (refine (HT.out _ (HH.out _ _ _ _)).mono ?_); rintro e w1 ⟨q, c, xs, rfl, hf, hp, hs, hb, hq⟩))
  obtain ⟨k1, k2, k3, k4⟩ := heap_alloc4 w (Obj.cells #[Value.float FloatKind.f64 fv] 23) (Obj.cells #[Value.float FloatKind.f64 wv] 23) (Obj.cells (madeCells #[Value.int IntKind.i64 0] n) 3) (Obj.cells #[Value.slice (some { block := w.heap.size + 1 + 1, off := 0 }) n n] 32)
  have hz : ((((w.alloc (Obj.cells #[Value.float FloatKind.f64 fv] 23)).alloc (Obj.cells #[Value.float FloatKind.f64 wv] 23)).alloc (Obj.cells (madeCells #[Value.int IntKind.i64 0] n) 3)).alloc (Obj.cells #[Value.slice (some { block := w.heap.size + 1 + 1, off := 0 }) n n] 32)).heap.size = w.heap.size + 4 := by simp
  have hBB : Below w.heap.size w ((((w.alloc (Obj.cells #[Value.float FloatKind.f64 fv] 23)).alloc (Obj.cells #[Value.float FloatKind.f64 wv] 23)).alloc (Obj.cells (madeCells #[Value.int IntKind.i64 0] n) 3)).alloc (Obj.cells #[Value.slice (some { block := w.heap.size + 1 + 1, off := 0 }) n n] 32)) := ((((Below.refl _ _).alloc (Nat.le_refl _) _).alloc (by simp) _).alloc (by simp; omega) _ |>.alloc (by simp; omega) _)
  generalize ((((w.alloc (Obj.cells #[Value.float FloatKind.f64 fv] 23)).alloc (Obj.cells #[Value.float FloatKind.f64 wv] 23)).alloc (Obj.cells (madeCells #[Value.int IntKind.i64 0] n) 3)).alloc (Obj.cells #[Value.slice (some { block := w.heap.size + 1 + 1, off := 0 }) n n] 32)) = W at *
  rw [hz] at hb
  have hB1 : Below w.heap.size w w1 := hBB.trans (hb.mono (by omega))
  have q1 := (hb.block _ (by omega)).trans k1
  have q2 := (hb.block _ (by omega)).trans k2
  have q3 := (hb.block _ (by omega)).trans k3
  have q4 := (hb.block _ (by omega)).trans k4
  rw [hz] at hq
  clear k1 k2 k3 k4 hz hBB hb HT HH
  rw [madeCells_zero] at q3
  have hxl : xs.length ≤ 61 := by have := hp.length_eq; have := keep_len ds; omega
  generalize hBe : w.heap.size = B at *
  have HBE := Lib.hid hBe
  clear hBe
  obtain ⟨Bw, hBw⟩ : ∃ x, x = B + 1 := ⟨_, rfl⟩
  obtain ⟨Br, hBr⟩ : ∃ x, x = B + 1 + 1 := ⟨_, rfl⟩
  obtain ⟨Bo, hBo⟩ : ∃ x, x = B + 1 + 1 + 1 := ⟨_, rfl⟩
  rw [← hBo, ← hBr, ← hBw]
  rw [← hBo] at q4
  rw [← hBr] at q3 q4
  rw [← hBw] at q2
  have n1 : B ≠ Br := by omega
  have n2 : Bo ≠ Br := by omega
  have n3 : Bw ≠ Br := by omega
  have hqq : ∀ a, q = some a → a.block ≠ Br := fun a ha => by have := hq a ha; omega
  have hBb : B ≤ Br := by omega
  have HQ := Lib.hid hqq
  clear hBw hBr hBo hq hqq
  have c1 := cell_of_one q1
  have c2 := cell_of_one q2
  have c4 := cell_of_one q4
  have hbr := lt_of_block q3
  clear q1 q2 q4
  go_loopw [40] (fun i wr => ∃ k : Nat, k ≤ xs.length ∧ i = .int .i64 k ∧ wr.heap[Br]? = some (.cells (rowN n (cntL fv wv (xs.take k))) 3 (0, 0)) ∧ w1.grownBy wr (some Br)) (fun i _ => xs.length - (intOf i).toNat)
  case atStart => exact ⟨0, Nat.zero_le _, rfl, by rw [q3, rowN_congr n (fun _ => 0) (cntL fv wv (xs.take 0)) (fun i _ => by simp [cntL])], ⟨rfl, rfl, rfl, Nat.le_refl _, fun _ _ _ => rfl⟩⟩
  case round =>
    obtain ⟨k, hk, rfl, hrow, hg⟩ := hrel
    have g1 := hg.cell c1 (by simpa using n1)
    have g2 := hg.cell c2 (by simpa using n3)
    have g4 := hg.cell c4 (by simpa using n2)
    by_cases hlt : k < xs.length
    · rcases hf with h0 | ⟨b, off, rfl, hbl, hd⟩
      · subst h0; simp at hlt
      have hcl := hg.cell (hd k hlt) (by simpa using HQ.out _ rfl)
      have hxk : fnan (xs.getD k 0) = false := kept_nan (hp.subset (by rw [List.getD_eq_getElem?_getD, List.getElem?_eq_getElem hlt]; exact List.getElem_mem hlt))
      have hcon := wput_any n (cntL fv wv (xs.take k)) B Bo Br Bw (xs.getD k 0) fv wv wr hn (fun i => by have := cnt_le fv wv xs k i; omega) hxk hff hwf g1 g4 g2 hrow n1 n2 n3
      have hct := cnt_take fv wv xs k n hlt
      generalize xs.getD k 0 = x at *
      have HCON := Lib.hid hcon
      have HCT := Lib.hid hct
      have HG := Lib.hid hg
      clear hcon hct hg hrow hd c1 c2 c4 q3
      go_wp2_with (go_at_call 30; refine HCON.out.mono ?_; rintro e w2 ⟨rfl, hrow2, hg2⟩)
      go_roundw
      case rel =>
        refine ⟨k + 1, by omega, by go_num, ?_, ?_⟩
        · rw [hrow2, rowN_congr n _ (cntL fv wv (xs.take (k + 1))) HCT.out]
        · have h1 := HG.out
          exact ⟨hg2.os.trans h1.os, hg2.tape.trans h1.tape, hg2.output.trans h1.output, Nat.le_trans h1.size hg2.size, fun j hj hne => (hg2.block j (Nat.lt_of_lt_of_le hj h1.size) hne).trans (h1.block j hj hne)⟩
      case measure => simp [intOf]; omega
    · have hke : k = xs.length := by omega
      subst hke
      have ht : xs.take xs.length = xs := by simp
      rw [ht] at hrow
      clear ht
      have hf1 : Below B w w1 := hB1
      go_wp2
      go_ret2
      refine ⟨⟨_, rfl, some ⟨Br, 0, none⟩, n, rfl, Nat.le_refl _, ?_⟩, ?_⟩
      · refine .inr ⟨Br, 0, rfl, lt_of_block hrow, fun i hi => ?_⟩
        rw [cell_of_row wr Br (0 + i) _ _ _ hrow, Nat.zero_add, rowN_get _ _ _ hi]
        congr 3
        exact hp.countP_eq _
      · rw [HBE.out]
        exact hB1.grown hg (by have := hB1.size; have := HBE.out; omega) (fun j hj => by cases hj; exact hBb)
end Go.Proofs.Ytjoclapnjnmlkaa
