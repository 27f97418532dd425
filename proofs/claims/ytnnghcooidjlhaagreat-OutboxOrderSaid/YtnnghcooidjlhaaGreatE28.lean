/- Parts of the proof: Zd Ze Gs Mm Mn Mo. -/
import Derived.Deep.RegionHeld3
import Derived.Test.YtnnghcooidjlhaaGreatD01
import Derived.Test.YtnnghcooidjlhaaGreatD03
import Derived.Test.YtnnghcooidjlhaaGreatE27
set_option linter.all false
set_option maxRecDepth 100000
namespace Go.Proofs.YtnnghcooidjlhaaGreat
section
def AscO (l : List It) : Prop := l.Pairwise fun a b => a.key < b.key
theorem setO_asc {l : List It} (h : AscO l) (x : It) : AscO (setO l x) := by
 unfold AscO setO
 rw [List.pairwise_append, List.pairwise_cons]
 refine ⟨h.filter _, ⟨fun y hy => by simpa using (List.mem_filter.1 hy).2, h.filter _⟩, fun y hy z hz => ?_⟩
 have h1 : y.key < x.key := by simpa using (List.mem_filter.1 hy).2
 rcases List.mem_cons.1 hz with rfl | hz
 ·exact h1
 ·exact blt_trans h1 (by simpa using (List.mem_filter.1 hz).2)
theorem setO_length (l : List It) (x : It) : (setO l x).length ≤ l.length + 1 := by
 unfold setO
 rw [List.length_append, List.length_cons]
 have : ∀ l : List It, (l.filter (fun y => decide (y.key < x.key))).length + (l.filter (fun y => decide (x.key < y.key))).length ≤ l.length := fun l => by
  induction l with
  | nil => simp
  | cons y t ih =>
   rw [List.filter_cons, List.filter_cons]
   by_cases h1 : y.key < x.key
   ·have h2 : ¬ x.key < y.key := blt_asymm h1
    simp only [h1, h2, decide_true, decide_false, if_true, List.length_cons, Bool.false_eq_true, if_false]
    omega
   ·by_cases h2 : x.key < y.key
    ·simp only [h1, h2, decide_true, decide_false, if_true, List.length_cons, Bool.false_eq_true, if_false]
     omega
    ·simp only [h1, h2, decide_false, List.length_cons, Bool.false_eq_true, if_false]
     omega
 have := this l
 omega
def dif (x y : It) : Bool := decide (¬ (y.c = x.c ∧ y.k = x.k))
def del24 (l : List It) (x : It) : List It := l.filter (dif x)
def cut24 (l : List It) (x : It) : Nat := (l.takeWhile fun y => decide (y.lt x)).length
def put24 (l : List It) (x : It) : List It := (del24 l x).take (cut24 (del24 l x) x) ++ x :: (del24 l x).drop (cut24 (del24 l x) x)
theorem tw_filter {p : It → Bool} : ∀ {l : List It}, AscO l → (∀ a b : It, a ∈ l → b ∈ l → a.key < b.key → p b = true → p a = true) → l.take (l.takeWhile p).length = l.filter p ∧ l.drop (l.takeWhile p).length = l.filter fun y => !p y
 | [], _, _ => by simp
 | y :: t, h, hp => by
  have h' := List.pairwise_cons.1 h
  have ih := tw_filter (p := p) h'.2 (fun a b ha hb => hp a b (by simp [ha]) (by simp [hb]))
  cases e : p y with
  | true =>
   rw [List.takeWhile_cons_of_pos e, List.filter_cons_of_pos e, List.filter_cons_of_neg (by simp [e])]
   simp only [List.length_cons, List.take_succ_cons, List.drop_succ_cons]
   exact ⟨by rw [ih.1], ih.2⟩
  | false =>
   have ht : ∀ z ∈ t, p z = false := fun z hz => by
    cases e2 : p z with
    | false => rfl
    | true => rw [hp y z (by simp) (by simp [hz]) (h'.1 z hz) e2] at e; exact absurd e (by simp)
   rw [List.takeWhile_cons_of_neg (by simp [e]), List.filter_cons_of_neg (by simp [e]), List.filter_cons_of_pos (by simp [e])]
   refine ⟨?_, ?_⟩
   ·rw [List.filter_eq_nil_iff.2 (fun z hz => by simp [ht z hz])]; rfl
   ·rw [List.filter_eq_self.2 (fun z hz => by simp [ht z hz])]; rfl
theorem del24_eq {l : List It} (hl : ∀ y ∈ l, y.fit) {x : It} (hx : x.fit) : del24 l x = delO l x.key := by
 unfold del24 delO
 refine List.filter_congr fun y hy => ?_
 unfold dif
 exact decide_eq_decide.2 (not_congr (It.key_eq (hl y hy) hx).symm)
theorem put24_eq {l : List It} (h : AscO l) (hl : ∀ y ∈ l, y.fit) {x : It} (hx : x.fit) : put24 l x = setO l x := by
 unfold put24 cut24
 rw [del24_eq hl hx]
 have hd : AscO (delO l x.key) := h.filter _
 have hlt : ∀ y ∈ delO l x.key, decide (y.lt x) = decide (y.key < x.key) := fun y hy => decide_eq_decide.2 (It.key_lt (hl y (List.mem_filter.1 hy).1) hx).symm
 obtain ⟨e1, e2⟩ := tw_filter (p := fun y => decide (y.lt x)) hd (fun a b ha hb hab hp => by
  rw [hlt b hb] at hp
  rw [hlt a ha]
  exact decide_eq_true (blt_trans hab (by simpa using hp)))
 rw [e1, e2]
 unfold setO
 congr 1
 ·rw [List.filter_congr hlt]
  unfold delO
  rw [List.filter_filter]
  refine List.filter_congr fun y hy => ?_
  by_cases h1 : y.key < x.key
  ·have h2 : y.key ≠ x.key := fun e => by rw [e] at h1; exact blt_irrefl _ h1
   simp [h1, h2]
  ·simp [h1]
 ·congr 1
  rw [List.filter_congr (fun y hy => by rw [hlt y hy])]
  unfold delO
  rw [List.filter_filter]
  refine List.filter_congr fun y hy => ?_
  rcases blt_tri y.key x.key with h1 | h1 | h1
  ·simp [h1, blt_asymm h1]
  ·simp [h1, blt_irrefl]
  ·have h2 : y.key ≠ x.key := fun e => by rw [e] at h1; exact blt_irrefl _ h1
   simp [h1, h2, blt_asymm h1]
end
section
theorem AscO.ne {l : List It} (h : AscO l) : l.Pairwise fun a b => a.key ≠ b.key := h.imp fun hab e => by rw [e] at hab; exact blt_irrefl _ hab
theorem AscO.inj {l : List It} (h : AscO l) {a b : It} (ha : a ∈ l) (hb : b ∈ l) (e : a.key = b.key) : a = b := by
 induction l with
 | nil => simp at ha
 | cons x t ih =>
  have hx := List.pairwise_cons.1 h
  rcases List.mem_cons.1 ha with ha1 | ha1
  ·rcases List.mem_cons.1 hb with hb1 | hb1
   ·rw [ha1, hb1]
   ·have := hx.1 b hb1; rw [← ha1, e] at this; exact absurd this (blt_irrefl _)
  ·rcases List.mem_cons.1 hb with hb1 | hb1
   ·have := hx.1 a ha1; rw [← hb1, e] at this; exact absurd this (blt_irrefl _)
   ·exact ih hx.2 ha1 hb1
end
section
open Go.RowKit
def BelC (W1 : World) (W : World) : Prop := Below W1.heap.size W1 W
theorem BelC.out {W1 W : World} (h : BelC W1 W) : Below W1.heap.size W1 W := h
theorem BelC.refl (W1 : World) : BelC W1 W1 := Below.refl _ _
theorem BelC.drew (W1 : World) : BelC W1 W1.drew := below_drewN (Below.refl _ W1) 1
theorem BelC.call {P : Program} {W1 : World} {f : FuncId} {vs : Array Value} {v : Value} (hc : ∀ W, Calls P f vs W fun e w' => e = .returned v ∧ Below W.heap.size W w') : ∀ W, BelC W1 W → Calls P f vs W fun e w' => e = .returned v ∧ BelC W1 w' := fun W hW => by
 refine (hc W).mono ?_
 rintro e w' ⟨rfl, hb⟩
 exact ⟨rfl, hW.out.trans (hb.mono hW.out.size)⟩
theorem BelC.call_same {P : Program} {W1 : World} {f : FuncId} {vs : Array Value} {v : Value} (hc : ∀ W, Calls P f vs W fun e w' => e = .returned v ∧ W = w') : ∀ W, BelC W1 W → Calls P f vs W fun e w' => e = .returned v ∧ BelC W1 w' := fun W hW => by
 refine (hc W).mono ?_
 rintro e w' ⟨rfl, rfl⟩
 exact ⟨rfl, hW⟩
theorem BelC.blk {W1 W : World} {g : Nat} {t : TypeId} {cs : Array Value} (h : BelC W1 W) (hB : Blk W1 g t cs) : Blk W g t cs := hB.below h.out hB.lt
theorem BelC.alloc {W1 W : World} (h : BelC W1 W) (o : Obj) : BelC W1 (W.alloc o) := Below.alloc h (Below.size h) o
theorem BelC.drew_of {W1 W : World} (h : BelC W1 W) : BelC W1 W.drew := below_drewN h 1
theorem BelC.trans {W1 W2 W3 : World} (h : BelC W1 W2) (k : BelC W2 W3) : BelC W1 W3 := Below.trans h (k.out.mono h.out.size)
theorem BelC.of {W1 W2 : World} (h : Below W1.heap.size W1 W2) : BelC W1 W2 := h
theorem BelC.set_new {W1 W : World} (h : BelC W1 W) (p : Addr) (hp : W1.heap.size ≤ p.block) (u : Value) : BelC W1 (W.setCell p u) := Below.setCell h hp u
attribute [irreducible] BelC
end
section
open Go.RowKit Go.Lib
set_option maxHeartbeats 8000000 in
theorem putev_any (e : Ev) (h : e.right) (ho : e.ok) (w : World) :
  Calls Tryz.prog 96 #[evV e] w fun r w' => r = .returned (.tuple #[.string (S (evB e)), .int .i64 0]) ∧ Below w.heap.size w w' := by
 have HR := hid (fun W => rightv_any e W)
 rw [decide_eq_true h] at HR
 have hw1 : IntKind.i64.wrap (e.src + 1) = e.src + 1 := by
  have := h.2.1; have := h.2.2.1
  rw [IntKind.wrap_i64]; omega
 have HCC := hid (fun (W1 : World) => (⟨BelC.call (W1 := W1) (rtime_any e h ho), BelC.call (W1 := W1) (one_any (e.src + 1) (by have := h.2.1; have := h.2.2.1; omega)), BelC.call (W1 := W1) (fun W => packI_any e.n W ho.2.2.1.1 ho.2.2.1.2), BelC.call (W1 := W1) (fun W => packI_any e.pay W ho.2.2.2.2.1 ho.2.2.2.2.2), BelC.call (W1 := W1) (one_any e.dst (by have := h.2.2.2.2.2.1; have := h.2.2.2.2.2.2; omega))⟩ : _ ∧ _ ∧ _ ∧ _ ∧ _))
 unfold evV at HCC HR ⊢
 clear h ho
 go_enter Tryz.func96, Tryz.ntmps96
 go_wp2_with fail
 (with_reducible refine (HR.out _).mono ?_)
 rintro r W1 ⟨rfl, hb1⟩
 have hB := (Blk.new w 67 #[.float .f64 e.t, .int .i64 e.src, .int .i64 e.n, .int .i64 e.dst, .int .i64 e.pay]).below hb1 (Blk.new _ _ _).lt
 have HB := hid (((Below.refl _ w).alloc (Nat.le_refl _) (.cells #[.float .f64 e.t, .int .i64 e.src, .int .i64 e.n, .int .i64 e.dst, .int .i64 e.pay] 67)).trans (hb1.mono (by simp)))
 have HCL : Hid (∀ W, BelC W1 W → W.cell? ⟨w.heap.size, 0, none⟩ = some (.float .f64 e.t) ∧ W.cell? ⟨w.heap.size, 1, none⟩ = some (.int .i64 e.src) ∧ W.cell? ⟨w.heap.size, 2, none⟩ = some (.int .i64 e.n) ∧ W.cell? ⟨w.heap.size, 3, none⟩ = some (.int .i64 e.dst) ∧ W.cell? ⟨w.heap.size, 4, none⟩ = some (.int .i64 e.pay)) := hid fun W hW => by
  have h1 := hW.blk hB
  exact ⟨h1.cell 0, h1.cell 1, h1.cell 2, h1.cell 3, h1.cell 4⟩
 have H1 := hid (HCC.out W1).1
 have H2 := hid (HCC.out W1).2.1
 have H3 := hid (HCC.out W1).2.2.1
 have H4 := hid (HCC.out W1).2.2.2.1
 have H5 := hid (HCC.out W1).2.2.2.2
 have HF : Hid (∀ W, BelC W1 W → Below w.heap.size w W) := hid fun W hW => HB.out.trans (hW.out.mono HB.out.size)
 clear hb1 hB
 go_wp2
 refine qC_region (by kernel_rfl) (by kernel_rfl) (BelC W1) (BelC.drew W1) ?_
 repeat (first | (refine qC_none rfl (fun K hK => ?_); apply Exists.intro; refine ⟨fun w0 hw0 => ?_, ?_⟩; (focus (obtain ⟨q0, q1, q2, q3, q4⟩ := HCL.out w0 hw0; go_simp; first | exact rfl | exact ⟨rfl, rfl⟩ | (first | exact H1.out w0 hw0 | exact H2.out w0 hw0 | exact H3.out w0 hw0 | exact H4.out w0 hw0 | exact H5.out w0 hw0))); go_simp; refine hK _ ?_; clear hK K) | (refine qC_yes _ _ _ rfl rfl (by rfl) (fun K hK => ?_); apply Exists.intro; refine ⟨fun w0 hw0 => ?_, ?_⟩; (focus (obtain ⟨q0, q1, q2, q3, q4⟩ := HCL.out w0 hw0; go_simp; first | exact rfl | exact ⟨rfl, rfl⟩ | (first | exact H1.out w0 hw0 | exact H2.out w0 hw0 | exact H3.out w0 hw0 | exact H4.out w0 hw0 | exact H5.out w0 hw0))); go_simp; refine hK _ ?_; clear hK K) | (refine qC_no _ _ _ rfl rfl (by rfl) (fun K hK => ?_); go_simp; refine hK _ ?_; clear hK K) | (refine qC_undef _ _ _ rfl rfl (by rfl) (fun K hK => ?_); go_simp; refine hK _ ?_; clear hK K))
 refine qC_nil ?_
 intro w5 hw5
 have HW5 := hid (HF.out w5 hw5)
 clear hw5
 go_wp2
 go_ret2
 exact ⟨rfl, HW5.out⟩
set_option maxHeartbeats 2000000 in
theorem putev_no (e : Ev) (h : ¬ e.right) (w : World) :
  Calls Tryz.prog 96 #[evV e] w fun r w' => r = .returned (.tuple #[.string ⟨#[]⟩, .int .i64 2]) ∧ Below w.heap.size w w' := by
 have HR := hid (fun W => rightv_any e W)
 rw [decide_eq_false h] at HR
 unfold evV at HR ⊢
 clear h
 go_enter Tryz.func96, Tryz.ntmps96
 go_wp2_with fail
 (with_reducible refine (HR.out _).mono ?_)
 rintro r W1 ⟨rfl, hb1⟩
 have HB := hid (((Below.refl _ w).alloc (Nat.le_refl _) (.cells #[.float .f64 e.t, .int .i64 e.src, .int .i64 e.n, .int .i64 e.dst, .int .i64 e.pay] 67)).trans (hb1.mono (by simp)))
 clear hb1
 go_wp2
 go_ret2
 exact ⟨rfl, HB.out⟩
end
section
open Go.RowKit Go.Lib
theorem andNot_top (b x : Nat) (hb : b < 18446744073709551616) (h : 9223372036854775808 ≤ b) (hx : b = x + 9223372036854775808) : bits .andNot .u64 (b : Int) 9223372036854775808 = (x : Int) := by
 have h1 := u64_andNot b 9223372036854775808 (by omega) (by omega) (by decide) (by decide)
 rw [show ((9223372036854775808 : Int)).toNat = 9223372036854775808 from rfl, Int.toNat_natCast] at h1
 rw [h1]
 have h2 : b &&& 9223372036854775807 = b % 2 ^ 63 := by
  rw [← Nat.and_two_pow_sub_one_eq_mod]
 rw [show 18446744073709551615 - 9223372036854775808 = 9223372036854775807 from rfl, h2]
 have : b % 2 ^ 63 = x := by omega
 rw [this]
set_option maxHeartbeats 4000000 in
theorem stampread_any (x : Nat) (a c : Int) (h : fnan x = false) (hx : x < 18446744073709551616) (ha : -9223372036854775808 ≤ a ∧ a < 9223372036854775808) (hc : -9223372036854775808 ≤ c ∧ c < 9223372036854775808) (w : World) :
  Calls Tryz.prog 225 #[.string (S (timeB x ++ encI a ++ encI c)), .int .i64 0] w fun e w' => e = .returned (.tuple #[.agg #[.float .f64 (tn x), .int .i64 a, .int .i64 c], .int .i64 24, .int .i64 0]) ∧ Below w.heap.size w w' := by
 obtain ⟨s, hs⟩ : ∃ s, s = timeB x ++ encI a ++ encI c := ⟨_, rfl⟩
 have hsl : s.length = 24 := by rw [hs]; simp
 rw [← hs]
 have HU := hid (fun W => readU_any s 0 W (by omega) (by omega))
 have HA := hid (fun W => readI_any s 8 W (by omega) (by omega))
 have HC := hid (fun W => readI_any s 16 W (by omega) (by omega))
 have e0 : unbe ((s.drop 0).take 8) = tkey x := by
  rw [List.drop_zero, hs, List.append_assoc, List.take_left' (timeB_length _), unbe_timeB hx]
 have e1 : decI ((s.drop 8).take 8) = a := by
  rw [hs, mid_eq (by simp) (by simp), decI_encI ha.1 ha.2]
 have e2 : decI ((s.drop 16).take 8) = c := by
  have := mid_eq (a := timeB x ++ encI a) (b := encI c) (c := []) (n := 16) (m := 8) (by simp) (by simp)
  rw [List.append_nil] at this
  rw [hs, this, decI_encI hc.1 hc.2]
 rw [e0, show ((0 : Nat) : Int) = 0 from rfl, show ((0 + 8 : Nat) : Int) = 8 from rfl] at HU
 rw [e1, show ((8 : Nat) : Int) = 8 from rfl, show ((8 + 8 : Nat) : Int) = 16 from rfl] at HA
 rw [e2, show ((16 : Nat) : Int) = 16 from rfl, show ((16 + 8 : Nat) : Int) = 24 from rfl] at HC
 have hlt := tkey_lt hx
 have hun := unT_tk hx
 have hnan : fnan (tn x) = false := by rw [fnan_tn]; exact h
 have hne := tn_ne x
 obtain ⟨b, hb⟩ : ∃ b, b = tkey x := ⟨_, rfl⟩
 obtain ⟨y, hy⟩ : ∃ y, y = tn x := ⟨_, rfl⟩
 rw [← hb] at HU hlt hun
 rw [← hy] at hun hnan hne ⊢
 unfold unT at hun
 have hnei : ((y : Int) == 9223372036854775808) = false := by
  rw [beq_eq_false_iff_ne]; omega
 have hsz : (w.alloc (.cells #[.float .f64 0, .int .i64 0, .int .i64 0] 65)).heap.size = w.heap.size + 1 := by simp
 clear h hx ha hc hs hsl e0 e1 e2 hne hb hy
 by_cases hc : 9223372036854775808 ≤ b
 ·have hcb : decide (9223372036854775808 ≤ (b : Int)) = true := decide_eq_true (by omega)
  rw [if_neg (by omega)] at hun
  have HOR := hid (andNot_top b y hlt hc (by omega))
  clear hc hlt hun
  go_enter Tryz.func225, Tryz.ntmps225
  go_wp2_with fail
  (with_reducible refine (HU.out _).mono ?_)
  rintro e w1 ⟨rfl, rfl⟩
  go_wp2_with fail
  (with_reducible refine (HA.out _).mono ?_)
  rintro e w1 ⟨rfl, rfl⟩
  go_wp2_with fail
  (with_reducible refine (HC.out _).mono ?_)
  rintro e w1 ⟨rfl, rfl⟩
  go_wp2_with fail
  rw [HOR.out, Int.toNat_natCast]
  (with_reducible refine (isnan_any _ _).mono ?_)
  rintro e w1 ⟨rfl, rfl⟩
  rw [hnan]
  go_wp2
  have hr := Blk.new w 65 #[.float .f64 y, .int .i64 a, .int .i64 c]
  have z0 := hr.cell 0
  have z1 := hr.cell 1
  have z2 := hr.cell 2
  simp only [List.getElem?_toArray, List.getElem?_cons_zero, List.getElem?_cons_succ] at z0 z1 z2
  refine bodyPost_ret (v := .tuple #[.agg #[.float .f64 y, .int .i64 a, .int .i64 c], .int .i64 24, .int .i64 0]) (by simp [results, Tryz.results225, go_sem, z0, z1, z2]) rfl ⟨rfl, (Below.refl _ w).alloc (Nat.le_refl _) _⟩
 ·have hcb : decide (9223372036854775808 ≤ (b : Int)) = false := decide_eq_false (by omega)
  rw [if_pos (by omega)] at hun
  have HOR := hid (xor_max b y hlt (by omega))
  clear hc hlt hun
  go_enter Tryz.func225, Tryz.ntmps225
  go_wp2_with fail
  (with_reducible refine (HU.out _).mono ?_)
  rintro e w1 ⟨rfl, rfl⟩
  go_wp2_with fail
  (with_reducible refine (HA.out _).mono ?_)
  rintro e w1 ⟨rfl, rfl⟩
  go_wp2_with fail
  (with_reducible refine (HC.out _).mono ?_)
  rintro e w1 ⟨rfl, rfl⟩
  go_wp2_with fail
  rw [HOR.out, Int.toNat_natCast]
  (with_reducible refine (isnan_any _ _).mono ?_)
  rintro e w1 ⟨rfl, rfl⟩
  rw [hnan]
  go_wp2
  have hr := Blk.new w 65 #[.float .f64 y, .int .i64 a, .int .i64 c]
  have z0 := hr.cell 0
  have z1 := hr.cell 1
  have z2 := hr.cell 2
  simp only [List.getElem?_toArray, List.getElem?_cons_zero, List.getElem?_cons_succ] at z0 z1 z2
  refine bodyPost_ret (v := .tuple #[.agg #[.float .f64 y, .int .i64 a, .int .i64 c], .int .i64 24, .int .i64 0]) (by simp [results, Tryz.results225, go_sem, z0, z1, z2]) rfl ⟨rfl, (Below.refl _ w).alloc (Nat.le_refl _) _⟩
def RdI (w : World) (g : Nat) (s : Bs) (i : Nat) : Prop := Blk w g 246 #[.string (S s), .int .i64 i, .bool false]
section
variable {w : World} {g : Nat} {s : Bs} {i : Nat}
theorem RdI.cells (h : RdI w g s i) : w.cell? ⟨g, 0, none⟩ = some (.string (S s)) ∧ w.cell? ⟨g, 1, none⟩ = some (.int .i64 i) ∧ w.cell? ⟨g, 2, none⟩ = some (.bool false) := by
 unfold RdI at h
 exact ⟨h.cell 0, h.cell 1, h.cell 2⟩
theorem RdI.step (h : RdI w g s i) (j : Nat) : RdI (w.setCell ⟨g, 1, none⟩ (.int .i64 j)) g s j := by
 unfold RdI at h ⊢
 simpa using h.set_ 1 (.int .i64 j)
set_option maxHeartbeats 4000000 in
theorem rbyte_any (h : RdI w g s i) (hi : i < s.length) (hl : s.length ≤ 1000) :
  Calls Tryz.prog 134 #[.pointer (some ⟨g, 0, none⟩)] w fun e w' => e = .returned (.int .i64 ((s.getD i 0).toNat : Int)) ∧ RdI w' g s (i + 1) ∧ Kp [g] w w' := by
 have HCL : Hid (∀ W, BelC w W → W.cell? ⟨g, 0, none⟩ = some (.string (S s)) ∧ W.cell? ⟨g, 1, none⟩ = some (.int .i64 i)) := hid fun W hW => by
  have h1 : RdI W g s i := hW.blk h
  exact ⟨h1.cells.1, h1.cells.2.1⟩
 have HX := hid h
 have hii : (i : Int) < (s.length : Int) := by omega
 have hw1 : IntKind.i64.wrap ((i : Int) + 1) = (i : Int) + 1 := by rw [IntKind.wrap_i64]; omega
 have hw2 : IntKind.i64.wrap ((i : Int) + 1 - 1) = (i : Int) := by rw [IntKind.wrap_i64]; omega
 have hw3 : IntKind.i64.wrap (i : Int) = (i : Int) := by rw [IntKind.wrap_i64]; omega
 have hcv : IntKind.i64.wrap ((s.getD i 0).toNat : Int) = ((s.getD i 0).toNat : Int) := by
  have := (s.getD i 0).toNat_lt
  rw [IntKind.wrap_i64]; omega
 have HV : Hid (IntKind.i64.wrap ((s[i]'hi).toNat : Int) = ((s.getD i 0).toNat : Int)) := hid (by
  have e : s[i]'hi = s.getD i 0 := by simp [List.getD, hi]
  rw [e]
  exact hcv)
 have hdec : decide ((s.length : Int) ≤ (i : Int)) = false := decide_eq_false (by omega)
 have h0 : (0 : Int) ≤ (i : Int) := by omega
 have hlt := Blk.lt h
 clear h hl
 go_enter Tryz.func134, Tryz.ntmps134
 go_wp2
 refine qC_region (by kernel_rfl) (by kernel_rfl) (BelC w) (BelC.drew w) ?_
 repeat (first | (refine qC_none rfl (fun K hK => ?_); apply Exists.intro; refine ⟨fun w0 hw0 => ?_, ?_⟩; (focus (obtain ⟨q0, q1⟩ := HCL.out w0 hw0; go_simp; first | exact rfl | exact ⟨rfl, rfl⟩ | (fail))); go_simp; refine hK _ ?_; clear hK K) | (refine qC_yes _ _ _ rfl rfl (by rfl) (fun K hK => ?_); apply Exists.intro; refine ⟨fun w0 hw0 => ?_, ?_⟩; (focus (obtain ⟨q0, q1⟩ := HCL.out w0 hw0; go_simp; first | exact rfl | exact ⟨rfl, rfl⟩ | (fail))); go_simp; refine hK _ ?_; clear hK K) | (refine qC_no _ _ _ rfl rfl (by rfl) (fun K hK => ?_); go_simp; refine hK _ ?_; clear hK K) | (refine qC_undef _ _ _ rfl rfl (by rfl) (fun K hK => ?_); go_simp; refine hK _ ?_; clear hK K))
 refine qC_nil ?_
 intro w1 hw1'
 have h1 : RdI w1 g s i := hw1'.blk HX.out
 have hk1 : Kp [g] w w1 := Kp.of_below hw1'.out
 obtain ⟨c0, c1, c2⟩ := h1.cells
 have f1 := Blk.frozen h1 1
 have hlt1 := Blk.lt h1
 have H1 := hid (⟨h1, hk1⟩ : _ ∧ _)
 clear hw1' h1 hk1
 go_wp2
 obtain ⟨W2, hW2⟩ : ∃ W2, W2 = w1.setCell ⟨g, 1, none⟩ (.int .i64 ((i + 1 : Nat) : Int)) := ⟨_, rfl⟩
 have h2 : RdI W2 g s (i + 1) := by rw [hW2]; exact H1.out.1.step (i + 1)
 have hk2 : Kp [g] w W2 := by rw [hW2]; exact H1.out.2.setCell (.inl (by simp)) _
 have HW2 := hid hW2
 have ec : ((i + 1 : Nat) : Int) = (i : Int) + 1 := by omega
 rw [ec] at hW2
 rw [← hW2]
 have HCL2 : Hid (∀ W, BelC W2 W → W.cell? ⟨g, 0, none⟩ = some (.string (S s)) ∧ W.cell? ⟨g, 1, none⟩ = some (.int .i64 ((i : Int) + 1))) := hid fun W hW => by
  have h1 : RdI W g s (i + 1) := hW.blk h2
  rw [← ec]
  exact ⟨h1.cells.1, h1.cells.2.1⟩
 have H2 := hid (⟨h2, hk2⟩ : _ ∧ _)
 clear hW2 h2 hk2 ec c0 c1 c2 f1
 refine qC_region (by kernel_rfl) (by kernel_rfl) (BelC W2) (BelC.drew W2) ?_
 repeat (first | (refine qC_none rfl (fun K hK => ?_); apply Exists.intro; refine ⟨fun w0 hw0 => ?_, ?_⟩; (focus (obtain ⟨q0, q1⟩ := HCL2.out w0 hw0; go_simp; first | exact rfl | exact ⟨rfl, rfl⟩ | (fail))); go_simp; refine hK _ ?_; clear hK K) | (refine qC_yes _ _ _ rfl rfl (by rfl) (fun K hK => ?_); apply Exists.intro; refine ⟨fun w0 hw0 => ?_, ?_⟩; (focus (obtain ⟨q0, q1⟩ := HCL2.out w0 hw0; go_simp; first | exact rfl | exact ⟨rfl, rfl⟩ | (fail))); go_simp; refine hK _ ?_; clear hK K) | (refine qC_no _ _ _ rfl rfl (by rfl) (fun K hK => ?_); go_simp; refine hK _ ?_; clear hK K) | (refine qC_undef _ _ _ rfl rfl (by rfl) (fun K hK => ?_); go_simp; refine hK _ ?_; clear hK K))
 refine qC_nil ?_
 intro w3 hw3
 have H3 : Hid (RdI w3 g s (i + 1) ∧ Kp [g] w w3) := hid ⟨hw3.blk H2.out.1, H2.out.2.trans (Kp.of_below hw3.out)⟩
 clear hw3
 go_wp2
 go_ret
 exact ⟨congrArg (fun x => Ending.returned (.int .i64 x)) HV.out, H3.out⟩
set_option maxHeartbeats 4000000 in
theorem rint_any (h : RdI w g s i) (hi : i + 8 ≤ s.length) (hl : s.length ≤ 1000) :
  Calls Tryz.prog 135 #[.pointer (some ⟨g, 0, none⟩)] w fun e w' => e = .returned (.int .i64 (decI ((s.drop i).take 8))) ∧ RdI w' g s (i + 8) ∧ Kp [g] w w' := by
 have HCL : Hid (∀ W, BelC w W → W.cell? ⟨g, 0, none⟩ = some (.string (S s)) ∧ W.cell? ⟨g, 1, none⟩ = some (.int .i64 i)) := hid fun W hW => by
  have h1 : RdI W g s i := hW.blk h
  exact ⟨h1.cells.1, h1.cells.2.1⟩
 have HX := hid h
 have HC := hid (BelC.call_same (W1 := w) (fun W => readI_any s i W (by omega) hi))
 have hlt := Blk.lt h
 clear h hl hi
 go_enter Tryz.func135, Tryz.ntmps135
 go_wp2
 refine qC_region (by kernel_rfl) (by kernel_rfl) (BelC w) (BelC.drew w) ?_
 repeat (first | (refine qC_none rfl (fun K hK => ?_); apply Exists.intro; refine ⟨fun w0 hw0 => ?_, ?_⟩; (focus (obtain ⟨q0, q1⟩ := HCL.out w0 hw0; go_simp; first | exact rfl | exact ⟨rfl, rfl⟩ | (exact HC.out w0 hw0))); go_simp; refine hK _ ?_; clear hK K) | (refine qC_yes _ _ _ rfl rfl (by rfl) (fun K hK => ?_); apply Exists.intro; refine ⟨fun w0 hw0 => ?_, ?_⟩; (focus (obtain ⟨q0, q1⟩ := HCL.out w0 hw0; go_simp; first | exact rfl | exact ⟨rfl, rfl⟩ | (exact HC.out w0 hw0))); go_simp; refine hK _ ?_; clear hK K) | (refine qC_no _ _ _ rfl rfl (by rfl) (fun K hK => ?_); go_simp; refine hK _ ?_; clear hK K) | (refine qC_undef _ _ _ rfl rfl (by rfl) (fun K hK => ?_); go_simp; refine hK _ ?_; clear hK K))
 refine qC_nil ?_
 intro w1 hw1'
 have h1 : RdI w1 g s i := hw1'.blk HX.out
 have hk1 : Kp [g] w w1 := Kp.of_below hw1'.out
 obtain ⟨c0, c1, c2⟩ := h1.cells
 have f1 := Blk.frozen h1 1
 have hlt1 := Blk.lt h1
 have H1 : Hid (RdI (w1.setCell ⟨g, 1, none⟩ (.int .i64 ((i + 8 : Nat) : Int))) g s (i + 8) ∧ Kp [g] w (w1.setCell ⟨g, 1, none⟩ (.int .i64 ((i + 8 : Nat) : Int)))) := hid ⟨h1.step (i + 8), hk1.setCell (.inl (by simp)) _⟩
 have ec : ((i + 8 : Nat) : Int) = (i : Int) + 8 := by omega
 rw [ec] at H1
 clear hw1' h1 hk1 ec
 go_wp2
 go_ret
 exact ⟨rfl, H1.out⟩
end
end
section
open Go.RowKit Go.Lib
theorem below_undr {w w' : World} (h : Below w.drew.heap.size w.drew w') : Below w.heap.size w w' := ⟨h.os, h.tape, h.output, h.size, h.block⟩
theorem BelC.call2 {P : Program} {f : FuncId} {vs : Array Value} {v : Value} (hc : ∀ W, Calls P f vs W fun e w' => e = .returned v ∧ Below W.heap.size W w') (W1 W : World) (h : BelC W1 W) : Calls P f vs W fun e w' => e = .returned v ∧ BelC W1 w' ∧ Below W.heap.size W w' := by
 refine (hc W).mono ?_
 rintro e w' ⟨rfl, hb⟩
 exact ⟨rfl, h.trans (BelC.of hb), hb⟩
def NewB (W1 : World) (w : World) (g : Nat) (t : TypeId) (cs : Array Value) : Prop := Blk w g t cs ∧ W1.heap.size ≤ g
theorem NewB.of_alloc {W1 X w : World} {t : TypeId} {cs : Array Value} (hb : Below (X.alloc (.cells cs t)).heap.size (X.alloc (.cells cs t)) w) (h : BelC W1 X) : NewB W1 w X.heap.size t cs :=
 ⟨(Blk.new X t cs).below hb (Blk.new X t cs).lt, h.out.size⟩
theorem NewB.on {W1 X w : World} {g : Nat} {t : TypeId} {cs : Array Value} (h : NewB W1 X g t cs) (hb : Below X.heap.size X w) : NewB W1 w g t cs := ⟨h.1.below hb h.1.lt, h.2⟩
theorem NewB.c3 {W1 w : World} {g : Nat} {t : TypeId} {a b c : Value} (h : NewB W1 w g t #[a, b, c]) : w.cell? ⟨g, 0, none⟩ = some a ∧ w.cell? ⟨g, 1, none⟩ = some b ∧ w.cell? ⟨g, 2, none⟩ = some c ∧ w.frozen? ⟨g, 0, none⟩ = false ∧ w.frozen? ⟨g, 1, none⟩ = false ∧ w.frozen? ⟨g, 2, none⟩ = false ∧ g < w.heap.size ∧ W1.heap.size ≤ g :=
 ⟨h.1.cell 0, h.1.cell 1, h.1.cell 2, h.1.frozen 0, h.1.frozen 1, h.1.frozen 2, h.1.lt, h.2⟩
theorem fin_A {W1 w : World} {t : TypeId} (cs : Array Value) (h : BelC W1 w) : ∃ W5, W5 = w.alloc (.cells cs t) ∧ BelC W1 W5 ∧ Blk W5 w.heap.size t cs ∧ W1.heap.size ≤ w.heap.size := ⟨_, rfl, h.alloc _, Blk.new _ _ _, h.out.size⟩
theorem fin_B {W1 w : World} {g : Nat} {t : TypeId} {a b c : Value} (x y z : Value) (hz : NewB W1 w g t #[a, b, c]) (h : BelC W1 w) : ∃ W5, W5 = ((w.setCell ⟨g, 0, none⟩ x).setCell ⟨g, 1, none⟩ y).setCell ⟨g, 2, none⟩ z ∧ BelC W1 W5 ∧ Blk W5 g t #[x, y, z] ∧ W1.heap.size ≤ g := by
 refine ⟨_, rfl, BelC.set_new (BelC.set_new (BelC.set_new h _ hz.2 _) _ hz.2 _) _ hz.2 _, ?_, hz.2⟩
 simpa using ((hz.1.set_ 0 x).set_ 1 y).set_ 2 z
theorem BelC.drew_al {W1 : World} (o : Obj) : BelC W1 (W1.alloc o) := (BelC.refl W1).alloc o
theorem BelC.al_drew {W1 : World} (o : Obj) : BelC W1 ((W1.alloc o).drew) := ((BelC.refl W1).alloc o).drew_of
theorem BelC.drew_al2 {W1 : World} (o : Obj) : BelC W1 (W1.drew.alloc o) := (BelC.drew W1).alloc o
section
variable {w : World} {g : Nat} {s : Bs} {i : Nat}
set_option maxHeartbeats 8000000 in
theorem rtimeR_any (h : RdI w g s i) (hi : i + 8 ≤ s.length) (hl : s.length ≤ 1000) {x : Nat} (hT : (s.drop i).take 8 = timeB x) (hx : fnan x = false) (hx2 : x < 18446744073709551616) :
  Calls Tryz.prog 191 #[.pointer (some ⟨g, 0, none⟩)] w fun e w' => e = .returned (.float .f64 (tn x)) ∧ RdI w' g s (i + 8) ∧ Kp [g] w w' := by
 have HCL : Hid (∀ W, BelC w W → W.cell? ⟨g, 0, none⟩ = some (.string (S s)) ∧ W.cell? ⟨g, 1, none⟩ = some (.int .i64 i)) := hid fun W hW => by
  have h1 : RdI W g s i := hW.blk h
  exact ⟨h1.cells.1, h1.cells.2.1⟩
 have HX := hid h
 have hw1 : IntKind.i64.wrap ((s.length : Int) - (i : Int)) = (s.length : Int) - (i : Int) := by rw [IntKind.wrap_i64]; omega
 have hw2 : IntKind.i64.wrap ((i : Int) + 8) = (i : Int) + 8 := by rw [IntKind.wrap_i64]; omega
 have hdec : decide ((s.length : Int) - (i : Int) < 8) = false := decide_eq_false (by omega)
 have hr1 : (0 : Int) ≤ (i : Int) := by omega
 have hr2 : (i : Int) + 8 ≤ (s.length : Int) := by omega
 have hr3 : (i : Int) ≤ (i : Int) + 8 := by omega
 have htk : (s.drop i).take (((i : Int) + 8).toNat - i) = timeB x := by
  rw [← hT]; congr 1; omega
 have HI := hid (BelC.call2 (fun W => packI_any 0 W (by omega) (by omega)))
 have HRD := hid (BelC.call2 (fun W => stampread_any x 0 0 hx hx2 (by omega) (by omega) W))
 have hlt := Blk.lt h
 clear h hl hi hT hx hx2
 go_enter Tryz.func191, Tryz.ntmps191
 go_wp2
 refine qC_region (by kernel_rfl) (by kernel_rfl) (BelC w) (BelC.drew w) ?_
 repeat (first | (refine qC_none rfl (fun K hK => ?_); apply Exists.intro; refine ⟨fun w0 hw0 => ?_, ?_⟩; (focus (obtain ⟨q0, q1⟩ := HCL.out w0 hw0; go_simp; first | exact rfl | exact ⟨rfl, rfl⟩ | (fail))); go_simp; refine hK _ ?_; clear hK K) | (refine qC_yes _ _ _ rfl rfl (by rfl) (fun K hK => ?_); apply Exists.intro; refine ⟨fun w0 hw0 => ?_, ?_⟩; (focus (obtain ⟨q0, q1⟩ := HCL.out w0 hw0; go_simp; first | exact rfl | exact ⟨rfl, rfl⟩ | (fail))); go_simp; refine hK _ ?_; clear hK K) | (refine qC_no _ _ _ rfl rfl (by rfl) (fun K hK => ?_); go_simp; refine hK _ ?_; clear hK K) | (refine qC_undef _ _ _ rfl rfl (by rfl) (fun K hK => ?_); go_simp; refine hK _ ?_; clear hK K))
 refine qC_nil ?_
 intro w1 hw1'
 have HW1 := hid hw1'
 have HSK : Hid (∀ W, BelC w1 W → W.cell? ⟨g, 0, none⟩ = some (.string (S s)) ∧ W.cell? ⟨g, 1, none⟩ = some (.int .i64 i)) := hid fun W hW => HCL.out W (hw1'.trans hW)
 clear hw1'
 go_wp2
 go_region_held3 (fun W => W.cell? ⟨g, 0, none⟩ = some (.string (S s)) ∧ W.cell? ⟨g, 1, none⟩ = some (.int .i64 i)) (first | exact HSK.out _ (BelC.set_new (BelC.set_new (BelC.set_new (by assumption) _ zq _) _ zq _) _ zq _) | exact HSK.out _ (by first | assumption | exact BelC.refl _ | exact BelC.drew _ | exact BelC.alloc (by assumption) _ | exact BelC.drew_al _ | exact BelC.al_drew _ | exact BelC.drew_al2 _))
  (first
   | (go_at_call 109; refine (HI.out w1 _ (by first | assumption | exact BelC.refl _ | exact BelC.drew _ | exact BelC.alloc (by assumption) _ | exact BelC.drew_al _ | exact BelC.al_drew _ | exact BelC.drew_al2 _)).mono ?_; rintro e wN ⟨rfl, hBN, hbN⟩; have hz := NewB.of_alloc (W1 := w1) (by first | with_reducible exact hbN | with_reducible exact below_undr hbN) (by first | assumption | exact BelC.refl _ | exact BelC.drew _); obtain ⟨z0, z1, z2, zf0, zf1, zf2, zl, zq⟩ := hz.c3)
   | (go_at_call 109; refine (HI.out w1 _ (by first | assumption | exact BelC.refl _ | exact BelC.drew _ | exact BelC.alloc (by assumption) _ | exact BelC.drew_al _ | exact BelC.al_drew _ | exact BelC.drew_al2 _)).mono ?_; rintro e wN ⟨rfl, hBN, hbN⟩; have hz' := NewB.on hz hbN; have hz := hz'; obtain ⟨z0, z1, z2, zf0, zf1, zf2, zl, zq⟩ := hz.c3)
   | (go_at_call 109; refine (HI.out w1 _ (by first | assumption | exact BelC.refl _ | exact BelC.drew _ | exact BelC.alloc (by assumption) _ | exact BelC.drew_al _ | exact BelC.al_drew _ | exact BelC.drew_al2 _)).mono ?_; rintro e wN ⟨rfl, hBN, hbN⟩; skip)
   | (go_at_call 225; refine (HRD.out w1 _ (by first | assumption | exact BelC.refl _ | exact BelC.drew _ | exact BelC.alloc (by assumption) _ | exact BelC.drew_al _ | exact BelC.al_drew _ | exact BelC.drew_al2 _)).mono ?_; rintro e wN ⟨rfl, hBN, hbN⟩; have hz := NewB.of_alloc (W1 := w1) (by first | with_reducible exact hbN | with_reducible exact below_undr hbN) (by first | assumption | exact BelC.refl _ | exact BelC.drew _); obtain ⟨z0, z1, z2, zf0, zf1, zf2, zl, zq⟩ := hz.c3)
   | (go_at_call 225; refine (HRD.out w1 _ (by first | assumption | exact BelC.refl _ | exact BelC.drew _ | exact BelC.alloc (by assumption) _ | exact BelC.drew_al _ | exact BelC.al_drew _ | exact BelC.drew_al2 _)).mono ?_; rintro e wN ⟨rfl, hBN, hbN⟩; have hz' := NewB.on hz hbN; have hz := hz'; obtain ⟨z0, z1, z2, zf0, zf1, zf2, zl, zq⟩ := hz.c3)
   | (go_at_call 225; refine (HRD.out w1 _ (by first | assumption | exact BelC.refl _ | exact BelC.drew _ | exact BelC.alloc (by assumption) _ | exact BelC.drew_al _ | exact BelC.al_drew _ | exact BelC.drew_al2 _)).mono ?_; rintro e wN ⟨rfl, hBN, hbN⟩; skip))
 all_goals
  first
   | (obtain ⟨W5, hW5, hb5, hz5, hq5⟩ := fin_B (.float .f64 (tn x)) (.int .i64 0) (.int .i64 0) hz hBN; rw [← hW5]; clear hW5)
   | (obtain ⟨W5, hW5, hb5, hz5, hq5⟩ := fin_A (t := 65) #[.float .f64 (tn x), .int .i64 0, .int .i64 0] hBN; rw [← hW5]; clear hW5)
  have hb6 : BelC w W5 := HW1.out.trans hb5
  have h6 : RdI W5 g s i := hb6.blk HX.out
  obtain ⟨c0, c1, c2⟩ := h6.cells
  have f1 := Blk.frozen h6 1
  have hlt6 := Blk.lt h6
  have hgq : g < w1.heap.size := Nat.lt_of_lt_of_le hlt HW1.out.out.size
  have y0 := hz5.cell 0
  simp only [List.getElem?_toArray, List.getElem?_cons_zero] at y0
  have hlz := hz5.lt
  have H1 : Hid (RdI (W5.setCell ⟨g, 1, none⟩ (.int .i64 ((i + 8 : Nat) : Int))) g s (i + 8) ∧ Kp [g] w (W5.setCell ⟨g, 1, none⟩ (.int .i64 ((i + 8 : Nat) : Int)))) := hid ⟨h6.step (i + 8), (Kp.of_below hb6.out).setCell (.inl (by simp)) _⟩
  have ec : ((i + 8 : Nat) : Int) = (i : Int) + 8 := by omega
  rw [ec] at H1
  clear ec hb6 h6 hb5 hz5 hBN hbN
  go_wp2
  go_ret
  exact ⟨rfl, H1.out⟩
end
end
end Go.Proofs.YtnnghcooidjlhaaGreat
