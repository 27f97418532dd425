/- Parts of the proof: Xj Ov Mf23b Xh Vr Zk. -/
import Derived.Test.YtnnghcooidjlhaaGreatD26
import Derived.Test.YtnnghcooidjlhaaGreatD27
import Derived.Test.YtnnghcooidjlhaaGreatD29
import Derived.Test.YtnnghcooidjlhaaGreatD33
import Derived.Test.YtnnghcooidjlhaaGreatD34
set_option linter.all false
set_option maxRecDepth 100000
namespace Go.Proofs.YtnnghcooidjlhaaGreat
section
open Go.RowKit Go.Lib
structure A23 where
 kd : Int
 e : Ev
 a : Bool
def a23C (x : A23) : List Value := [.int .i64 x.kd, .float .f64 x.e.t, .int .i64 x.e.src, .int .i64 x.e.n, .int .i64 x.e.dst, .int .i64 x.e.pay, .bool x.a]
theorem a23C_len (x : A23) : (a23C x).length = 7 := rfl
def A23.p (x : A23) : Ev × Bool := (x.e, x.a)
theorem upI_snoc (lp : Int) (l : List Ix) (xs : List (Ev × Bool)) (x : Ev × Bool) : stepI lp (upI lp l xs) x = upI lp l (xs ++ [x]) := by
 unfold upI
 rw [List.foldl_append]
 rfl
def A23At (W : World) (b o j : Nat) (x : A23) : Prop := W.cell? ⟨b, o + j * 7 + 1, none⟩ = some (.float .f64 x.e.t) ∧ W.cell? ⟨b, o + j * 7 + 2, none⟩ = some (.int .i64 x.e.src) ∧ W.cell? ⟨b, o + j * 7 + 3, none⟩ = some (.int .i64 x.e.n) ∧ W.cell? ⟨b, o + j * 7 + 4, none⟩ = some (.int .i64 x.e.dst) ∧ W.cell? ⟨b, o + j * 7 + 5, none⟩ = some (.int .i64 x.e.pay) ∧ W.cell? ⟨b, o + j * 7 + 6, none⟩ = some (.bool x.a)
theorem Vw.a23At {W : World} {p : Option Addr} {n c j : Nat} {l : List A23} {x : A23} (h : Vw 7 a23C W (.slice p n c) l) (hx : l[j]? = some x) : ∃ b o, p = some ⟨b, o, none⟩ ∧ ∀ W', Below W.heap.size W W' → W'.cell? ⟨b, o + j * 7, none⟩ = some (.int .i64 x.kd) ∧ A23At W' b o j x := by
 obtain ⟨b, o, c', e, _, hb, k⟩ := h.ex (by rintro rfl; simp at hx)
 injection e with e1 _ _
 refine ⟨b, o, e1, fun W' hW => ?_⟩
 have f1 : ∀ q u, (a23C x)[q]? = some u → W'.cell? ⟨b, o + j * 7 + q, none⟩ = some u := fun q u hu => (World.cell?_of_block (hW.block b hb)).trans (k j x hx q u hu)
 exact ⟨f1 0 _ rfl, f1 1 _ rfl, f1 2 _ rfl, f1 3 _ rfl, f1 4 _ rfl, f1 5 _ rfl, f1 6 _ rfl⟩
theorem take_snoc23 {α : Type} {l : List α} {j : Nat} {x : α} (h : l[j]? = some x) : l.take (j + 1) = l.take j ++ [x] := by rw [List.take_add_one, h]; rfl
set_option maxHeartbeats 16000000 in
theorem iback23_any {w : World} {p : Option Addr} {n c : Nat} {l : List A23} (hv : Vw 7 a23C w (.slice p n c) l) (hn : n = l.length) (hok : ∀ a ∈ l, a.e.ok) :
  Calls Tryz.prog 11 #[.slice p n c] w fun r w' => r = .returned (.bool true) ∧ Below w.heap.size w w' := by
 have HB := hid (begun23_any 0 (by omega) w)
 have HA := hid (fun W => awake23_any W)
 obtain ⟨m, hm⟩ : ∃ m, m = min n 15 := ⟨_, rfl⟩
 obtain ⟨xs, hxs⟩ : ∃ xs, xs = (l.take m).map A23.p := ⟨_, rfl⟩
 have hxl : xs.length = m := by rw [hxs, List.length_map, List.length_take]; omega
 have hxo : ∀ x ∈ xs, x.1.ok := fun x hx => by
  rw [hxs] at hx
  obtain ⟨a, ha, rfl⟩ := List.mem_map.1 hx
  exact hok a (List.mem_of_mem_take ha)
 have hmn : m ≤ n ∧ m ≤ 15 := by omega
 have HX := hid (⟨hv, hn, hok, hm, hxs, hxl, hxo, hmn⟩ : _ ∧ _ ∧ _ ∧ _ ∧ _ ∧ _ ∧ _ ∧ _)
 have HM := hid hm
 clear hv hn hok hm hxs hxl hxo hmn
 go_enter Tryz.func11, Tryz.ntmps11
 go_wp2_with fail
 (with_reducible refine HB.out.mono ?_)
 rintro r W1 ⟨ib, s, rfl, hI⟩
 have H1 := hid hI
 clear hI
 go_wp2_with fail
 (with_reducible refine (HA.out W1).mono ?_)
 rintro r W2 ⟨rfl, hb2⟩
 have HI0 : Hid (Ib w W2 ib s 0 0 [] [] (upI 0 [] (xs.take 0))) := hid (H1.out.below hb2)
 clear hb2
 go_wp2
 go_loopg [4] 15 (fun gg s4 wr => ∃ (j : Nat), j ≤ m ∧ 15 - j ≤ gg ∧ s4 = .int .i64 j ∧ Hid (Ib w wr ib s 0 j [] [] (upI 0 [] (xs.take j))))
 case atStart => exact ⟨0, by omega, by omega, rfl, HI0⟩
 case round =>
  obtain ⟨j, hj, hgg, rfl, HI⟩ := hrel
  by_cases hjm : j < m
  ·obtain ⟨a, ha⟩ : ∃ a, l[j]? = some a := ⟨_, List.getElem?_eq_getElem (by have := HX.out.2.1; have := HX.out.2.2.2.2.2.2.2; omega)⟩
   obtain ⟨b, o, e1, hC⟩ := HX.out.1.a23At ha
   subst e1
   have HC := hid hC
   have hxa : xs[j]? = some (a.e, a.a) := by
    rw [HX.out.2.2.2.2.1, List.getElem?_map, List.getElem?_take_of_lt hjm, ha]
    rfl
   have htk := take_snoc23 hxa
   have HS := hid (ib_step (HI.out.below (below_drewN (Below.refl wr.heap.size wr) 1)) (by have := HX.out.2.2.2.2.2.2.2; omega) a.e a.a (HX.out.2.2.1 a (List.mem_of_getElem? ha)))
   rw [upI_snoc, ← htk] at HS
   unfold msgV at HS
   have hji : (j : Int) < (n : Int) := by have := HX.out.2.2.2.2.2.2.2; omega
   have hji2 : (j : Int) < 15 := by have := HX.out.2.2.2.2.2.2.2; omega
   obtain ⟨_, m1, m2, m3, m4, m5, m6⟩ := HC.out wr HI.out.fr
   have HCK : Hid (∀ W', Ib w W' ib s 0 (j + 1) [] [] (upI 0 [] (xs.take (j + 1))) → A23At W' b o j a) := hid fun W' h => (HC.out W' h.fr).2
   obtain ⟨wo, hwo⟩ : ∃ wo, wo = wr := ⟨_, rfl⟩
   subst hwo
   clear ha hC hxa htk
   go_wp2
   go_region_held3 (fun W => W.cell? ⟨b, o + j * 7 + 1, none⟩ = some (.float .f64 a.e.t) ∧ W.cell? ⟨b, o + j * 7 + 2, none⟩ = some (.int .i64 a.e.src) ∧ W.cell? ⟨b, o + j * 7 + 3, none⟩ = some (.int .i64 a.e.n) ∧ W.cell? ⟨b, o + j * 7 + 4, none⟩ = some (.int .i64 a.e.dst) ∧ W.cell? ⟨b, o + j * 7 + 5, none⟩ = some (.int .i64 a.e.pay) ∧ W.cell? ⟨b, o + j * 7 + 6, none⟩ = some (.bool a.a)) (first | exact hck5 | exact ⟨m1, m2, m3, m4, m5, m6⟩)
    (first
     | (go_at_call 49; refine HS.out.mono ?_; rintro r W3 ⟨x3, y3, z3, rfl, hI3⟩; have hck5 := HCK.out W3 hI3))
   all_goals
    have HI3 := hid hI3
    clear hI3 hck5 m1 m2 m3 m4 m5 m6
    go_wp2
    go_roundg (15 - (j + 1))
    case measure => omega
    case rel => exact ⟨j + 1, by omega, by omega, by go_num, HI3⟩
  ·have hjm2 : j = m := by omega
   have HI1 : Hid (Ib w wr ib s 0 (15 + 0) [] [] (upI 0 [] (xs ++ (xs.map flipA).reverse.take 0))) := hid (by
    have := HI.out
    rw [hjm2, List.take_of_length_le (by rw [HX.out.2.2.2.2.2.1]; exact Nat.le_refl _)] at this
    rw [List.take_zero, List.append_nil]
    exact this.up (by have := HX.out.2.2.2.2.2.2.2; omega))
   have hms : (m : Int) ≤ 15 := by have := HX.out.2.2.2.2.2.2.2; omega
   have hmin : (n < 15 ∧ m = n) ∨ (¬ n < 15 ∧ m = 15) := by have := HM.out; omega
   clear hj
   have hcs : (¬ (j : Int) < (n : Int) ∧ (n : Int) < 15 ∧ (n : Int) = (m : Int)) ∨ ((j : Int) < (n : Int) ∧ ¬ (j : Int) < 15 ∧ ¬ (n : Int) < 15 ∧ (14 : Int) = (m : Int) - 1) ∨ (¬ (j : Int) < 15 ∧ (n : Int) = 15 ∧ (14 : Int) = (m : Int) - 1) := by omega
   have hIL := HX.out.2.2.2.2.2.1
   rcases hcs with ⟨q1, q2, q3⟩ | ⟨q1, q2, q3, q4⟩ | ⟨q1, q3, q4⟩
   all_goals
    clear hmin hjm hjm2 hgg hIL
    go_wp2
    go_loopg [5] m (fun gg s5 wr => ∃ (k : Nat), k ≤ m ∧ m - k ≤ gg ∧ s5 = .int .i64 ((m : Int) - 1 - (k : Int)) ∧ Hid (Ib w wr ib s 0 (15 + k) [] [] (upI 0 [] (xs ++ (xs.map flipA).reverse.take k))))
    case atStart => exact ⟨0, by omega, by omega, congrArg (Value.int .i64) (by omega), HI1⟩
    case round =>
     obtain ⟨k, hk, hgg, rfl, HJ⟩ := hrel
     by_cases hkm : k < m
     ·obtain ⟨i, hi⟩ : ∃ i : Nat, i = m - 1 - k := ⟨_, rfl⟩
      have hie : (m : Int) - 1 - (k : Int) = (i : Int) := by omega
      rw [hie]
      obtain ⟨a, ha⟩ : ∃ a, l[i]? = some a := ⟨_, List.getElem?_eq_getElem (by have := HX.out.2.1; have := HX.out.2.2.2.2.2.2.2; omega)⟩
      obtain ⟨b, o, e1, hC⟩ := HX.out.1.a23At ha
      subst e1
      have HC := hid hC
      have hxa : xs[i]? = some (a.e, a.a) := by
       rw [HX.out.2.2.2.2.1, List.getElem?_map, List.getElem?_take_of_lt (by omega), ha]
       rfl
      have hra : (xs.map flipA).reverse[k]? = some (a.e, !a.a) := by
       have hl : (xs.map flipA).length = m := by rw [List.length_map]; exact HX.out.2.2.2.2.2.1
       rw [List.getElem?_reverse (by omega), hl, ← hi, List.getElem?_map, hxa]
       rfl
      have htk := take_snoc23 hra
      have HS := hid (ib_step (HJ.out.below (below_drewN (Below.refl wr.heap.size wr) 1)) (by have := HX.out.2.2.2.2.2.2.2; omega) a.e (!a.a) (HX.out.2.2.1 a (List.mem_of_getElem? ha)))
      rw [upI_snoc, List.append_assoc, ← htk] at HS
      unfold msgV at HS
      have hii : (0 : Int) ≤ (i : Int) := by omega
      have hin : (i : Int) < (n : Int) := by have := HX.out.2.2.2.2.2.2.2; omega
      have him : (i : Int) ≤ 15 := by omega
      have him2 : (i : Int) < (m : Int) := by omega
      have him3 : (i : Int) < 15 := by have := HX.out.2.2.2.2.2.2.2; omega
      obtain ⟨_, m1, m2, m3, m4, m5, m6⟩ := HC.out wr HJ.out.fr
      have HCK : Hid (∀ W', Ib w W' ib s 0 (15 + k + 1) [] [] (upI 0 [] (xs ++ (xs.map flipA).reverse.take (k + 1))) → A23At W' b o i a) := hid fun W' h => (HC.out W' h.fr).2
      have hw : IntKind.i64.wrap ((i : Int) - 1) = (i : Int) - 1 := by rw [IntKind.wrap_i64]; omega
      have HE : Hid ((i : Int) - 1 = (m : Int) - 1 - ((k + 1 : Nat) : Int)) := hid (by omega)
      obtain ⟨wo, hwo⟩ : ∃ wo, wo = wr := ⟨_, rfl⟩
      subst hwo
      clear ha hC hxa htk hra hi hie
      go_wp2
      go_region_held3 (fun W => W.cell? ⟨b, o + i * 7 + 1, none⟩ = some (.float .f64 a.e.t) ∧ W.cell? ⟨b, o + i * 7 + 2, none⟩ = some (.int .i64 a.e.src) ∧ W.cell? ⟨b, o + i * 7 + 3, none⟩ = some (.int .i64 a.e.n) ∧ W.cell? ⟨b, o + i * 7 + 4, none⟩ = some (.int .i64 a.e.dst) ∧ W.cell? ⟨b, o + i * 7 + 5, none⟩ = some (.int .i64 a.e.pay) ∧ W.cell? ⟨b, o + i * 7 + 6, none⟩ = some (.bool a.a)) (first | exact hck5 | exact ⟨m1, m2, m3, m4, m5, m6⟩)
       (first
        | (go_at_call 49; refine HS.out.mono ?_; rintro r W3 ⟨x3, y3, z3, rfl, hI3⟩; have hck5 := HCK.out W3 hI3))
      all_goals
       have HI3 := hid hI3
       clear hI3 hck5 m1 m2 m3 m4 m5 m6
       go_wp2
       go_roundg (m - (k + 1))
       case measure => omega
       case rel => exact ⟨k + 1, by omega, by omega, by rw [← HE.out], HI3⟩
     ·have hkm2 : k = m := by omega
      have HI4 : Hid (Ib w wr ib s 0 30 [] [] []) := hid (by
       have := HJ.out
       rw [hkm2, List.take_of_length_le (by rw [List.length_reverse, List.length_map, HX.out.2.2.2.2.2.1]; exact Nat.le_refl _), upI_back xs HX.out.2.2.2.2.2.2.1] at this
       exact this.up (by have := HX.out.2.2.2.2.2.2.2; omega))
      have hneg : ¬ (0 : Int) ≤ (m : Int) - 1 - (k : Int) := by omega
      have HCO := hid (ib_counts HI4.out (by omega))
      rw [show moreI [] = 0 from rfl, show (([] : List Ix).length - 0 : Nat) = 0 from rfl] at HCO
      clear HI4
      go_wp2_with fail
      (with_reducible refine HCO.out.mono ?_)
      rintro r W5 ⟨rfl, hI5⟩
      have HN := hid (ib_next hI5 (by omega) [] (by simp))
      rw [show nextV (nextI [] []) = .tuple #[.agg #[.float .f64 0, .int .i64 0, .int .i64 0, .int .i64 0, .int .i64 0], .bool false, .int .i64 0] from rfl, show S [] = { data := #[] } from rfl] at HN
      clear hI5
      go_wp2_with fail
      (with_reducible refine HN.out.mono ?_)
      rintro r W6 ⟨rfl, hI6⟩
      have HF := hid (hI6.fr.alloc hI6.fr.size (.cells #[.float .f64 0, .int .i64 0, .int .i64 0, .int .i64 0, .int .i64 0] 67))
      clear hI6
      go_wp2
      go_ret
      exact ⟨rfl, HF.out⟩
end
section
open Go.ChangeShapes Go.WideShapes Go.ChangeAt Go.RowKit Go.Deep
theorem cellsAct23 : Tryz.prog.cellsOf 97 = 7 := by kernel_rfl
section
variable {H : Type} {enc : TypeId × Value → H} {w : World} {spare : Nat → Bool} {held : Bool} {fuel : Nat}
theorem open_act23 {cs : List Value} {x : DataW H × List MemPlace} (h : DataW.trod enc Tryz.prog w 0 spare held fuel 97 cs = some x) :
  ∃ y : A23, cs = a23C y ∧ y.e.ok := by
 cases fuel with
 | zero => cases h
 | succ n =>
  obtain ⟨hl, hf⟩ := trod_fields Tryz.underlying97 h
  rw [cellsAct23] at hl
  match cs, hl with
  | [c0, c1, c2, c3, c4, c5, c6], _ =>
   simp [cellsInt, cellsBool, cellsEvent] at hf
   obtain ⟨⟨_, _, h0⟩, ⟨_, _, h1⟩, ⟨_, _, h2⟩⟩ := hf
   obtain ⟨kd, rfl, _⟩ := leaf_int Tryz.underlying3 h0
   obtain ⟨e, he, hok⟩ := open_event h1
   obtain ⟨a, rfl⟩ := leaf_bool Tryz.underlying4 h2
   refine ⟨⟨kd, e, a⟩, ?_, hok⟩
   simp only [evC, List.cons.injEq, and_true] at he
   obtain ⟨e1, e2, e3, e4, e5⟩ := he
   rw [e1, e2, e3, e4, e5]
   rfl
theorem open_acts23 {v : Value} {x : DataW H × List MemPlace} (h : DataW.trod enc Tryz.prog w 0 spare held fuel 91 [v] = some x) :
  ∃ (p : Option Addr) (n c : Nat) (l : List A23), v = .slice p n c ∧ n = l.length ∧ Vw 7 a23C w (.slice p n c) l ∧ ∀ y ∈ l, y.e.ok :=
 open_rows (R := fun y : A23 => y.e.ok) ⟨0, ⟨0, 0, 0, 0, 0⟩, false⟩ Tryz.underlying91 cellsAct23 (by decide) a23C_len (fun _ _ _ h => open_act23 h) h
end
end
section
open Go.ChangeShapes Go.WideShapes Go.ChangeAt Go.RowKit Go.Deep
set_option maxHeartbeats 8000000 in
set_option maxRecDepth 100000 in
theorem inboxBack_facts : joinedFacts Tryz.checked.prog 11 Tryz.f11 Rows.inboxBackSpec Rows.inboxBackRow = true := by
 unfold joinedFacts
 repeat' (rw [Bool.and_eq_true]; refine ⟨?_, ?_⟩)
 all_goals (as_aux_lemma => kernel_rfl)
end
section
open Go.RowKit Go.Lib
def BeR (ub lb : Nat) (u : Bs) (xs : List Ix) (W : World) (Z : List Nat) : Prop :=
 ∃ v, Blk W lb 36 #[v] ∧ W.ownsRow (lb + 1) 9 1 v (keysI u xs).length (rowV strC ((keysI u xs).map Ix.key)) ∧ Blk W ub 9 #[.string (S u)] ∧ ub < lb ∧ Z = lb :: ub :: v.ownBlock.toList
theorem keysI_le (u : Bs) (xs : List Ix) : (keysI u xs).length ≤ xs.length := List.length_filter_le _ _
set_option maxHeartbeats 8000000 in
theorem between1_any (ub lb : Nat) (u : Bs) (xs : List Ix) (x : Ix) (W : World) (Z : List Nat) (h : BeR ub lb u xs W Z) (hx : xs.length ≤ 1000) :
  Calls Tryz.prog 114 (#[.string (S x.key), .int .i64 x.n] ++ #[.pointer (some ⟨ub, 0, none⟩), .pointer (some ⟨lb, 0, none⟩)]) W fun e w' => ∃ Z', e = .returned (.bool (!decide (u < x.key))) ∧ BeR ub lb u (xs ++ [x]) w' Z' ∧ Kp Z W w' ∧ Gr Z W.heap.size Z' := by
 obtain ⟨v, hL, hO, hU, hul, rfl⟩ := h
 obtain ⟨k, hk⟩ : ∃ k, k = (keysI u xs).length := ⟨_, rfl⟩
 have hkl : k ≤ 1000 := by rw [hk]; exact Nat.le_trans (keysI_le u xs) hx
 rw [← hk] at hO
 obtain ⟨a1, c1, rfl⟩ := own_slice2 hO
 have l0 : W.cell? ⟨lb, 0, none⟩ = some (.slice a1 k c1) := hL.cell 0
 have lf := hL.frozen 0
 have hlt := hL.lt
 have u0 : W.cell? ⟨ub, 0, none⟩ = some (.string (S u)) := hU.cell 0
 have hut := hU.lt
 have HX := hid (⟨hL, hO, hU, hk, hkl, hul⟩ : _ ∧ _ ∧ _ ∧ _ ∧ _ ∧ _)
 by_cases hin : 0 < x.n ∧ ¬ u < x.key
 ·have hks : keysI u (xs ++ [x]) = keysI u xs ++ [x] := by rw [keysI_snoc, if_pos hin]
  have HKS := hid hks
  have hn := hin.1
  rw [show (!decide (u < x.key)) = true by rw [decide_eq_false hin.2]; rfl]
  have hcs : (Op.bytesLess x.key u = true) ∨ (Op.bytesLess x.key u = false ∧ (x.key == u) = true) := by
   rw [bl]
   rcases blt_tri x.key u with g | g | g
   ·exact .inl (decide_eq_true g)
   ·exact .inr ⟨decide_eq_false (by rw [g]; exact blt_irrefl _), by rw [g]; exact beq_self_eq_true _⟩
   ·exact absurd g hin.2
  clear hL hO hU hk hks hin hx hkl hul
  rcases hcs with hb1 | ⟨hb1, hb2⟩
  all_goals
   go_enter Tryz.func114, Tryz.ntmps114
   go_wp2_with (with_reducible refine stopAt .append rfl ?_)
   with_reducible refine goOn ?_
   obtain ⟨hL, hO, hU, hk, hkl, hul⟩ := HX.out
   refine app_one rfl _ _ 36 rfl strC infStr1 Tryz.underlying36 rfl (by decide) (by decide) strC_len strC_one x.key hO (by omega) (by omega) rfl rfl ?_
   intro v' W2 hO2 hk2 hg2
   obtain ⟨g2, c2, rfl, hg21, hg22, hg23⟩ := own_form hO2 (by omega)
   have hno : ∀ b, b ≤ lb → b ∉ (Value.slice a1 k c1).ownBlock.toList := fun b hb hm => by
    have := (hO.lt b (Option.mem_toList.1 hm)).1
    omega
   have hL2 : Blk W2 lb 36 #[.slice a1 k c1] := hL.kp hk2 (hno lb (Nat.le_refl _))
   have hU2 : Blk W2 ub 9 #[.string (S u)] := hU.kp hk2 (hno ub (by omega))
   have l2 : W2.cell? ⟨lb, 0, none⟩ = some (.slice a1 k c1) := hL2.cell 0
   have u2 : W2.cell? ⟨ub, 0, none⟩ = some (.string (S u)) := hU2.cell 0
   have lf2 := hL2.frozen 0
   have lt2 := hL2.lt
   have hne : ub ≠ lb := by omega
   have hU3 := hU2.far (p := ⟨lb, 0, none⟩) hne (.slice (some ⟨g2, 0, none⟩) (k + 1) c2)
   have u3 := hU3.cell 0
   have hres : ∀ e, BeR ub lb u (xs ++ [x]) (W2.setCell ⟨lb, 0, none⟩ (.slice (some ⟨g2, 0, none⟩) (k + 1) c2)) (lb :: ub :: [g2]) ∧ Kp (lb :: ub :: (Value.slice a1 k c1).ownBlock.toList) W (W2.setCell ⟨lb, 0, none⟩ (.slice (some ⟨g2, 0, none⟩) (k + 1) c2)) ∧ Gr (lb :: ub :: (Value.slice a1 k c1).ownBlock.toList) W.heap.size (lb :: ub :: [g2]) := fun (e : Unit) => by
    refine ⟨⟨_, by simpa using hL2.set_ 0 _, ?_, hU3, hul, rfl⟩, ?_, ?_⟩
    ·have hl : (keysI u (xs ++ [x])).length = k + 1 := by rw [HKS.out]; simp; omega
     rw [hl, HKS.out, List.map_append]
     exact row_of hO2 (fun b hb => by
      simp [Value.ownBlock] at hb
      subst hb
      exact Below.heap_setCell _ _ _ _ (by simp; omega))
    ·have hKA : Kp (lb :: ub :: (Value.slice a1 k c1).ownBlock.toList) W W2 := hk2.mono (fun y hy => .inl (List.mem_cons_of_mem _ (List.mem_cons_of_mem _ hy)))
     exact hKA.setCell (.inl (by simp)) _
    ·intro y hy
     simp only [List.mem_cons, List.not_mem_nil, or_false] at hy
     rcases hy with rfl | rfl | rfl
     ·exact .inl (by simp)
     ·exact .inl (by simp)
     ·rcases hg2 _ rfl with h | h
      ·exact .inl (by simp [h])
      ·exact .inr (Nat.le_trans (by omega) h)
   have HR := hid (hres ())
   clear hres hO hk hkl hul hL hU hno hL2 hU2 hU3 hO2 hk2 hg2 hg21 hg22 hg23 l0 lf u0 hne
   go_wp2
   go_ret
   first | exact ⟨_, rfl, HR.out⟩ | exact ⟨rfl, _, HR.out⟩
 ·have hks : keysI u (xs ++ [x]) = keysI u xs := by rw [keysI_snoc, if_neg hin]
  have hres : BeR ub lb u (xs ++ [x]) W (lb :: ub :: (Value.slice a1 k c1).ownBlock.toList) := ⟨_, hL, by rw [hks, ← hk]; exact hO, hU, hul, rfl⟩
  have HR := hid hres
  have hcs : (¬ 0 < x.n ∧ ((Op.bytesLess x.key u = true ∧ (!decide (u < x.key)) = true) ∨ (Op.bytesLess x.key u = false ∧ (x.key == u) = true ∧ (!decide (u < x.key)) = true) ∨ (Op.bytesLess x.key u = false ∧ (x.key == u) = false ∧ (!decide (u < x.key)) = false))) ∨ (0 < x.n ∧ Op.bytesLess x.key u = false ∧ (x.key == u) = false ∧ (!decide (u < x.key)) = false) := by
   have hc3 : (Op.bytesLess x.key u = true ∧ (!decide (u < x.key)) = true) ∨ (Op.bytesLess x.key u = false ∧ (x.key == u) = true ∧ (!decide (u < x.key)) = true) ∨ (Op.bytesLess x.key u = false ∧ (x.key == u) = false ∧ (!decide (u < x.key)) = false) := by
    rw [bl]
    rcases blt_tri x.key u with g | g | g
    ·exact .inl ⟨decide_eq_true g, by rw [decide_eq_false (blt_asymm g)]; rfl⟩
    ·exact .inr (.inl ⟨decide_eq_false (by rw [g]; exact blt_irrefl _), by rw [g]; exact beq_self_eq_true _, by rw [g, decide_eq_false (blt_irrefl _)]; rfl⟩)
    ·exact .inr (.inr ⟨decide_eq_false (blt_asymm g), by rw [beq_eq_false_iff_ne]; intro e; rw [e] at g; exact blt_irrefl _ g, by rw [decide_eq_true g]; rfl⟩)
   by_cases h1 : 0 < x.n
   ·have hu : u < x.key := Classical.byContradiction fun g => hin ⟨h1, g⟩
    rw [decide_eq_true hu] at hc3
    rcases hc3 with ⟨_, g⟩ | ⟨_, _, g⟩ | ⟨g1, g2, _⟩
    ·exact absurd g (by decide)
    ·exact absurd g (by decide)
    ·exact .inr ⟨h1, g1, g2, by rw [decide_eq_true hu]; rfl⟩
   ·exact .inl ⟨h1, hc3⟩
  clear hL hO hU hk hks hin hx hkl hul hres
  rcases hcs with ⟨hn, ⟨hb1, e⟩ | ⟨hb1, hb2, e⟩ | ⟨hb1, hb2, e⟩⟩ | ⟨hn, hb1, hb2, e⟩
  all_goals
   rw [e]
   clear e
   go_enter Tryz.func114, Tryz.ntmps114
   go_wp2
   go_ret
   first | exact ⟨_, rfl, HR.out, Kp.refl _ W, Gr.refl _ _⟩ | exact ⟨rfl, _, HR.out, Kp.refl _ W, Gr.refl _ _⟩
theorem between_do (ub lb : Nat) (u : Bs) : DoX (fun x => !decide (u < x.key)) 114 #[.pointer (some ⟨ub, 0, none⟩), .pointer (some ⟨lb, 0, none⟩)] (BeR ub lb u) where
 keep := fun xs W W' Z h e => by
  obtain ⟨v, h2, h4, h5, h6, rfl⟩ := h
  exact ⟨v, (e lb (by simp)).trans h2, row_of h4 (fun b hb => e b (by simp [hb])), (e ub (by simp)).trans h5, h6, rfl⟩
 lts := fun xs W Z h b hb => by
  obtain ⟨v, h2, h4, h5, h6, rfl⟩ := h
  simp only [List.mem_cons, Option.mem_toList] at hb
  rcases hb with rfl | rfl | hb
  ·exact h2.lt
  ·exact h5.lt
  ·exact (h4.lt b hb).2
 en := fun vs W => Tryz.call114 vs W
 go := fun xs x W Z h hx => between1_any ub lb u xs x W Z h hx
end
section
open Go.RowKit Go.Lib
theorem number02_any (t : Nat) (w : World) :
  Calls Tryz.prog 150 #[.float .f64 t] w fun e w' => e = .returned (.bool (!fnan t)) ∧ w = w' := by
 have hq := feq_self t
 go_enter Tryz.func150, Tryz.ntmps150
 go_wp2
 go_ret
 exact ⟨rfl, rfl⟩
theorem norm02_any (b : Nat) (h : fnan b = false) (hb : b < 18446744073709551616) (w : World) :
  Calls Tryz.prog 97 #[.float .f64 b] w fun e w' => e = .returned (.tuple #[.float .f64 (tn b), .int .i64 0]) ∧ w = w' := by
 have h0 := feq_zero h hb
 have HN := hid (fun W => number02_any b W)
 rw [h] at HN
 by_cases hz : b = 0 ∨ b = 9223372036854775808
 ·have hq : feq b 0 = true := by rw [h0, decide_eq_true hz]
  have ht : tn b = 0 := by unfold tn; split <;> omega
  rw [ht]
  clear h0 hz ht
  go_enter Tryz.func97, Tryz.ntmps97
  go_wp2_with (go_at_call 150; refine (HN.out _).mono ?_; rintro e w' ⟨rfl, rfl⟩)
  go_ret2
  exact ⟨rfl, rfl⟩
 ·have hq : feq b 0 = false := by rw [h0, decide_eq_false hz]
  have ht : tn b = b := by unfold tn; rw [if_neg (by omega)]
  rw [ht]
  clear h0 hz ht
  go_enter Tryz.func97, Tryz.ntmps97
  go_wp2_with (go_at_call 150; refine (HN.out _).mono ?_; rintro e w' ⟨rfl, rfl⟩)
  go_ret2
  exact ⟨rfl, rfl⟩
theorem right_cases (e : Ev) : e.right ∨ fnan e.t = true ∨ (fnan e.t = false ∧ ¬ -1 ≤ e.src) ∨ (fnan e.t = false ∧ -1 ≤ e.src ∧ ¬ e.src < 6) ∨ (fnan e.t = false ∧ -1 ≤ e.src ∧ e.src < 6 ∧ ¬ 0 ≤ e.n) ∨ (fnan e.t = false ∧ -1 ≤ e.src ∧ e.src < 6 ∧ 0 ≤ e.n ∧ ¬ e.n ≤ 1099511627776)
  ∨ (fnan e.t = false ∧ -1 ≤ e.src ∧ e.src < 6 ∧ 0 ≤ e.n ∧ e.n ≤ 1099511627776 ∧ ¬ 0 ≤ e.dst) ∨ (fnan e.t = false ∧ -1 ≤ e.src ∧ e.src < 6 ∧ 0 ≤ e.n ∧ e.n ≤ 1099511627776 ∧ 0 ≤ e.dst ∧ ¬ e.dst < 6) := by
 unfold Ev.right
 cases h0 : fnan e.t
 ·by_cases c0 : -1 ≤ e.src <;> by_cases c1 : e.src < 6 <;> by_cases c2 : 0 ≤ e.n <;> by_cases c3 : e.n ≤ 1099511627776 <;> by_cases c4 : 0 ≤ e.dst <;> by_cases c5 : e.dst < 6 <;> simp [c0, c1, c2, c3, c4, c5]
 ·simp
set_option maxHeartbeats 8000000 in
theorem right20_any (e : Ev) (w : World) :
  Calls Tryz.prog 68 #[evV e] w fun r w' => r = .returned (.bool (decide e.right)) ∧ Below w.heap.size w w' := by
 unfold evV
 have hb1 : Below w.heap.size w (w.alloc (.cells #[.float .f64 e.t, .int .i64 e.src, .int .i64 e.n, .int .i64 e.dst, .int .i64 e.pay] 67)) := (Below.refl _ w).alloc (Nat.le_refl _) _
 have HB := hid hb1
 clear hb1
 have hq := feq_self e.t
 rcases right_cases e with h | h
 ·rw [decide_eq_true h]
  obtain ⟨h0, c0, c1, c2, c3, c4, c5⟩ := h
  rw [h0] at hq
  have d1 : e.src ≤ 5 := by omega
  have d5 : e.dst ≤ 5 := by omega
  clear c1 c5
  go_enter Tryz.func68, Tryz.ntmps68
  go_wp2
  go_ret
  refine ⟨?_, HB.out⟩
  first | rfl | exact congrArg (fun b => Ending.returned (.bool b)) (decide_eq_true (by omega))
 ·have hn : ¬ e.right := by
   rintro ⟨h0, c0, c1, c2, c3, c4, c5⟩
   simp [h0, c0, c1, c2, c3, c4, c5] at h
  rw [decide_eq_false hn]
  clear hn
  rcases h with h0 | ⟨h0, c0⟩ | ⟨h0, c0, c1⟩ | ⟨h0, c0, c1, c2⟩ | ⟨h0, c0, c1, c2, c3⟩ | ⟨h0, c0, c1, c2, c3, c4⟩ | ⟨h0, c0, c1, c2, c3, c4, c5⟩
  all_goals
   rw [h0] at hq
   try have d1 : e.src ≤ 5 := by omega
   try have d1' : ¬ e.src ≤ 5 := by omega
   try have d5' : ¬ e.dst ≤ 5 := by omega
   go_enter Tryz.func68, Tryz.ntmps68
   go_wp2
   go_ret
   refine ⟨?_, HB.out⟩
   first | rfl | exact congrArg (fun b => Ending.returned (.bool b)) (decide_eq_false (by omega))
end
section
open Go.RowKit Go.Lib
set_option maxHeartbeats 8000000 in
theorem same02_any (t : Nat) (src n : Int) (w : World) :
  Calls Tryz.prog 101 #[.agg #[.float .f64 t, .int .i64 src, .int .i64 n], .agg #[.float .f64 t, .int .i64 src, .int .i64 n]] w fun r w' => r = .returned (.bool true) ∧ Below w.heap.size w w' := by
 obtain ⟨W2, hW2⟩ : ∃ W2, W2 = (w.alloc (.cells #[.float .f64 t, .int .i64 src, .int .i64 n] 65)).alloc (.cells #[.float .f64 t, .int .i64 src, .int .i64 n] 65) := ⟨_, rfl⟩
 have hb2 : Below w.heap.size w W2 := by rw [hW2]; exact ((Below.refl _ w).alloc (Nat.le_refl _) _).alloc (by simp) _
 have k1 : Blk W2 w.heap.size 65 #[.float .f64 t, .int .i64 src, .int .i64 n] := by rw [hW2]; exact (Blk.new w _ _).alloc _
 have k2 : Blk W2 (w.heap.size + 1) 65 #[.float .f64 t, .int .i64 src, .int .i64 n] := by
  rw [hW2]
  have := Blk.new (w.alloc (.cells #[.float .f64 t, .int .i64 src, .int .i64 n] 65)) 65 #[.float .f64 t, .int .i64 src, .int .i64 n]
  simpa using this
 have HC : Hid (∀ W, BelC W2 W → W.cell? ⟨w.heap.size, 0, none⟩ = some (.float .f64 t) ∧ W.cell? ⟨w.heap.size, 1, none⟩ = some (.int .i64 src) ∧ W.cell? ⟨w.heap.size, 2, none⟩ = some (.int .i64 n) ∧ W.cell? ⟨w.heap.size + 1, 0, none⟩ = some (.float .f64 t) ∧ W.cell? ⟨w.heap.size + 1, 1, none⟩ = some (.int .i64 src) ∧ W.cell? ⟨w.heap.size + 1, 2, none⟩ = some (.int .i64 n)) := hid fun W hW => by
  have q1 := hW.blk k1
  have q2 := hW.blk k2
  exact ⟨q1.cell 0, q1.cell 1, q1.cell 2, q2.cell 0, q2.cell 1, q2.cell 2⟩
 have HX := hid (⟨hW2, hb2⟩ : _ ∧ _)
 clear hW2 hb2 k1 k2
 go_enter Tryz.func101, Tryz.ntmps101
 go_wp2
 rw [← HX.out.1]
 refine qC_region (by kernel_rfl) (by kernel_rfl) (BelC W2) (BelC.drew W2) ?_
 repeat (first | (refine qC_none rfl (fun K hK => ?_); apply Exists.intro; refine ⟨fun w0 hw0 => ?_, ?_⟩; (focus (obtain ⟨q0, q1, q2, r0, r1, r2⟩ := HC.out w0 hw0; go_simp; first | exact rfl | exact ⟨rfl, rfl⟩ | (fail))); go_simp; refine hK _ ?_; clear hK K) | (refine qC_yes _ _ _ rfl rfl (by rfl) (fun K hK => ?_); apply Exists.intro; refine ⟨fun w0 hw0 => ?_, ?_⟩; (focus (obtain ⟨q0, q1, q2, r0, r1, r2⟩ := HC.out w0 hw0; go_simp; first | exact rfl | exact ⟨rfl, rfl⟩ | (fail))); go_simp; refine hK _ ?_; clear hK K) | (refine qC_no _ _ _ rfl rfl (by rfl) (fun K hK => ?_); go_simp; refine hK _ ?_; clear hK K) | (refine qC_undef _ _ _ rfl rfl (by rfl) (fun K hK => ?_); go_simp; refine hK _ ?_; clear hK K))
 refine qC_nil ?_
 intro w5 hw5
 have HF := hid (HX.out.2.trans (hw5.out.mono HX.out.2.size))
 clear hw5
 go_wp2
 go_ret
 exact ⟨by first | rfl | simp, HF.out⟩
set_option maxHeartbeats 4000000 in
theorem same20_any (e : Ev) (w : World) :
  Calls Tryz.prog 39 #[evV e, evV e] w fun r w' => r = .returned (.bool true) ∧ Below w.heap.size w w' := by
 unfold evV
 obtain ⟨W2, hW2⟩ : ∃ W2, W2 = (w.alloc (.cells #[.float .f64 e.t, .int .i64 e.src, .int .i64 e.n, .int .i64 e.dst, .int .i64 e.pay] 67)).alloc (.cells #[.float .f64 e.t, .int .i64 e.src, .int .i64 e.n, .int .i64 e.dst, .int .i64 e.pay] 67) := ⟨_, rfl⟩
 have hb2 : Below w.heap.size w W2 := by rw [hW2]; exact ((Below.refl _ w).alloc (Nat.le_refl _) _).alloc (by simp) _
 have k1 : Blk W2 w.heap.size 67 #[.float .f64 e.t, .int .i64 e.src, .int .i64 e.n, .int .i64 e.dst, .int .i64 e.pay] := by rw [hW2]; exact (Blk.new w _ _).alloc _
 have k2 : Blk W2 (w.heap.size + 1) 67 #[.float .f64 e.t, .int .i64 e.src, .int .i64 e.n, .int .i64 e.dst, .int .i64 e.pay] := by
  rw [hW2]
  have := Blk.new (w.alloc (.cells #[.float .f64 e.t, .int .i64 e.src, .int .i64 e.n, .int .i64 e.dst, .int .i64 e.pay] 67)) 67 #[.float .f64 e.t, .int .i64 e.src, .int .i64 e.n, .int .i64 e.dst, .int .i64 e.pay]
  simpa using this
 have HS := hid (same02_any e.t e.src e.n W2)
 rw [hW2] at HS
 have HX := hid (⟨hW2, hb2, k1, k2⟩ : _ ∧ _ ∧ _ ∧ _)
 clear hW2 hb2 k1 k2
 go_enter Tryz.func39, Tryz.ntmps39
 go_wp2_with fail
 (with_reducible refine HS.out.mono ?_)
 rintro r W3 ⟨rfl, hb3⟩
 rw [← HX.out.1] at hb3
 have q1 := HX.out.2.2.1.below hb3 HX.out.2.2.1.lt
 have q2 := HX.out.2.2.2.below hb3 HX.out.2.2.2.lt
 have m3 : W3.cell? ⟨w.heap.size, 3, none⟩ = some (.int .i64 e.dst) := q1.cell 3
 have m4 : W3.cell? ⟨w.heap.size, 4, none⟩ = some (.int .i64 e.pay) := q1.cell 4
 have n3 : W3.cell? ⟨w.heap.size + 1, 3, none⟩ = some (.int .i64 e.dst) := q2.cell 3
 have n4 : W3.cell? ⟨w.heap.size + 1, 4, none⟩ = some (.int .i64 e.pay) := q2.cell 4
 have HF := hid (HX.out.2.1.trans (hb3.mono HX.out.2.1.size))
 clear hb3 q1 q2
 go_wp2
 go_ret
 exact ⟨by first | rfl | simp, HF.out⟩
set_option maxHeartbeats 4000000 in
theorem less24_any (x y : It) (w : World) :
  Calls Tryz.prog 98 #[itV x, itV y] w fun r w' => r = .returned (.bool (decide (x.lt y))) ∧ Below w.heap.size w w' := by
 unfold itV
 have HB := hid (fun o1 o2 => ((Below.refl _ w).alloc (Nat.le_refl _) o1).alloc (by simp) o2)
 by_cases h1 : x.c < y.c
 ·have hb : Op.bytesLess x.c y.c = true := by rw [bl]; exact decide_eq_true h1
  rw [decide_eq_true (show x.lt y from .inl h1)]
  clear h1
  go_enter Tryz.func98, Tryz.ntmps98
  go_wp2
  go_ret
  exact ⟨rfl, HB.out _ _⟩
 ·have hb : Op.bytesLess x.c y.c = false := by rw [bl]; exact decide_eq_false h1
  by_cases h2 : x.c = y.c
  ·have he : (x.c == y.c) = true := beq_iff_eq.2 h2
   have e : decide (x.lt y) = decide (x.k < y.k) := decide_eq_decide.2 ⟨fun h => h.elim (fun h => absurd h h1) (fun h => h.2), fun h => .inr ⟨h2, h⟩⟩
   rw [e]
   clear h1 h2 e
   go_enter Tryz.func98, Tryz.ntmps98
   go_wp2
   go_ret
   exact ⟨by first | rfl | simp, HB.out _ _⟩
  ·have he : (x.c == y.c) = false := by simpa using h2
   rw [decide_eq_false (show ¬ x.lt y from fun h => h.elim h1 (fun h => h2 h.1))]
   clear h1 h2
   go_enter Tryz.func98, Tryz.ntmps98
   go_wp2
   go_ret
   exact ⟨by first | rfl | simp, HB.out _ _⟩
set_option maxHeartbeats 4000000 in
theorem right24_any (x : It) (w : World) :
  Calls Tryz.prog 102 #[itV x] w fun r w' => r = .returned (.bool (decide x.right)) ∧ Below w.heap.size w w' := by
 have HR := hid (fun W => right20_any x.e W)
 unfold evV at HR
 unfold itV
 have hb1 : Below w.heap.size w (w.alloc (.cells #[.string (S x.c), .int .i64 x.k, .float .f64 x.e.t, .int .i64 x.e.src, .int .i64 x.e.n, .int .i64 x.e.dst, .int .i64 x.e.pay] 72)) := (Below.refl _ w).alloc (Nat.le_refl _) _
 have HB := hid hb1
 clear hb1
 have hcs : (¬ x.c.length = 25) ∨ (x.c.length = 25 ∧ ¬ 0 ≤ x.k) ∨ (x.c.length = 25 ∧ 0 ≤ x.k ∧ ¬ x.k ≤ 255) ∨ (x.c.length = 25 ∧ 0 ≤ x.k ∧ x.k ≤ 255) := by omega
 rcases hcs with h | ⟨h, h1⟩ | ⟨h, h1, h2⟩ | ⟨h, h1, h2⟩
 ·rw [decide_eq_false (show ¬ x.right from fun hr => h hr.1.1)]
  have hi : ¬ ((x.c.length : Int) = 25) := by omega
  clear h
  go_enter Tryz.func102, Tryz.ntmps102
  go_wp2
  go_ret
  exact ⟨by first | rfl | simp [hi], HB.out⟩
 ·rw [decide_eq_false (show ¬ x.right from fun hr => h1 hr.1.2.1)]
  have hi : ((x.c.length : Int) = 25) := by omega
  clear h
  go_enter Tryz.func102, Tryz.ntmps102
  go_wp2
  go_ret
  exact ⟨by first | rfl | simp [hi, h1], HB.out⟩
 ·rw [decide_eq_false (show ¬ x.right from fun hr => h2 hr.1.2.2)]
  have hi : ((x.c.length : Int) = 25) := by omega
  clear h
  go_enter Tryz.func102, Tryz.ntmps102
  go_wp2
  go_ret
  exact ⟨by first | rfl | simp [hi, h1, h2], HB.out⟩
 ·rw [show decide x.right = decide x.e.right from decide_eq_decide.2 ⟨fun hr => hr.2, fun hr => ⟨⟨h, h1, h2⟩, hr⟩⟩]
  have hi : ((x.c.length : Int) = 25) := by omega
  clear h
  go_enter Tryz.func102, Tryz.ntmps102
  go_wp2_with fail
  (with_reducible refine (HR.out _).mono ?_)
  rintro r W2 ⟨rfl, hb2⟩
  have HF := hid (HB.out.trans (hb2.mono (by simp)))
  clear hb2
  go_wp2
  go_ret
  exact ⟨by first | rfl | simp, HF.out⟩
end
end Go.Proofs.YtnnghcooidjlhaaGreat
