/- Parts of the proof: Zye Ow Mf24d. -/
import Derived.Test.YtnnghcooidjlhaaGreatE27
import Derived.Test.YtnnghcooidjlhaaGreatE34
import Derived.Test.YtnnghcooidjlhaaGreatE41
set_option linter.all false
set_option maxRecDepth 100000
namespace Go.Proofs.YtnnghcooidjlhaaGreat
section
open Go.RowKit Go.Lib
structure A24 where
 kd : Int
 bb : Bool
 x : It
 fr : Bs
 to : Bs
def a24C (a : A24) : List Value := [.int .i64 a.kd, .bool a.bb] ++ itC a.x ++ [.string (S a.fr), .string (S a.to)]
theorem a24C_len (a : A24) : (a24C a).length = 11 := rfl
def Rd24 (w : World) (tb xb yb : Nat) (s : SL) (j : Nat) (W : World) : Prop :=
 ∃ (p q : Nat) (p1 : Option Addr) (n1 c1 : Nat) (p0 : Option Addr) (n0 c0 : Nat) (la lb : List It), p + q ≤ j ∧ n1 = la.length ∧ n0 = lb.length ∧ MvD w W tb xb yb s (p * (q + 1)) p (.slice p1 n1 c1) (.slice p0 n0 c0) [] [(.slice p1 n1 c1, la), (.slice p0 n0 c0, lb)] la lb
section
variable {w : World} {tb xb yb : Nat} {s : SL} {j : Nat} {W W' : World}
theorem Rd24.below (h : Rd24 w tb xb yb s j W) (hb : Below W.heap.size W W') : Rd24 w tb xb yb s j W' := by
 obtain ⟨p, q, p1, n1, c1, p0, n0, c0, la, lb, h1, h2, h3, h4⟩ := h
 exact ⟨p, q, p1, n1, c1, p0, n0, c0, la, lb, h1, h2, h3, h4.below hb⟩
theorem Rd24.fr (h : Rd24 w tb xb yb s j W) : Below w.heap.size w W := by
 obtain ⟨p, q, p1, n1, c1, p0, n0, c0, la, lb, h1, h2, h3, h4⟩ := h
 exact h4.fr
theorem Rd24.up {i : Nat} (h : Rd24 w tb xb yb s j W) (hi : j ≤ i) : Rd24 w tb xb yb s i W := by
 obtain ⟨p, q, p1, n1, c1, p0, n0, c0, la, lb, h1, h2, h3, h4⟩ := h
 exact ⟨p, q, p1, n1, c1, p0, n0, c0, la, lb, by omega, h2, h3, h4⟩
theorem rd24_do (h : Rd24 w tb xb yb s j W) (hj : j ≤ 29) (kd : Int) (bb : Bool) (x : It) (fr to : Bs) (hx : x.e.ok) (hc : x.c.length < 100) :
  Calls Tryz.prog 42 #[.pointer (some ⟨tb, 0, none⟩), ac24 kd bb x fr to] W fun r w' => r = .returned (.bool true) ∧ Rd24 w tb xb yb s (j + 1) w' := by
 obtain ⟨p, q, p1, n1, c1, p0, n0, c0, la, lb, h1, h2, h3, h4⟩ := h
 refine (do24_any h4 h2 h3 (by omega) kd bb x fr to hx hc).mono ?_
 rintro r w' ⟨p', q', hpq, rfl, q1, m1, d1, q2, m2, d2, la', lb', g1, g2, g3⟩
 exact ⟨rfl, p', q', q1, m1, d1, q2, m2, d2, la', lb', by omega, g1, g2, g3⟩
end
set_option maxHeartbeats 16000000 in
theorem odo24_any {w : World} {p : Option Addr} {n c : Nat} {l : List A24} (hv : Vw 11 a24C w (.slice p n c) l) (hn : n = l.length) (hok : ∀ a ∈ l, a.x.e.ok) :
  Calls Tryz.prog 9 #[.slice p n c] w fun r w' => r = .returned (.bool true) ∧ Below w.heap.size w w' := by
 have HB := hid (begun24_any w)
 have HA := hid (fun W => awake24_any W)
 have HX := hid (⟨hv, hn, hok⟩ : _ ∧ _ ∧ _)
 clear hv hn hok
 go_enter Tryz.func9, Tryz.ntmps9
 go_wp2_with fail
 (with_reducible refine HB.out.mono ?_)
 rintro r W1 ⟨tb, xb, yb, s, O, rfl, hT⟩
 have HM0 : Hid (Rd24 w tb xb yb s 0 W1) := hid ⟨0, 0, none, 0, 0, none, 0, 0, [], [], by omega, rfl, rfl, O, 0, 0, hT, by omega, by omega, fun z hz => by
  simp only [List.mem_cons, List.mem_nil_iff, or_false] at hz
  rcases hz with rfl | rfl <;> exact ⟨Vw.nil _ _ _ _ _, fun b e => by cases e⟩, by simp⟩
 clear hT
 go_wp2_with fail
 (with_reducible refine (HA.out W1).mono ?_)
 rintro r W2 ⟨rfl, hb2⟩
 have HI0 := hid (HM0.out.below hb2)
 clear hb2 HM0
 go_wp2
 go_loopg [4] 30 (fun gg s4 wr => ∃ (j : Nat), j ≤ 30 ∧ 30 - j ≤ gg ∧ s4 = .int .i64 j ∧ Hid (Rd24 w tb xb yb s j wr))
 case atStart => exact ⟨0, by omega, by omega, rfl, HI0⟩
 case round =>
  obtain ⟨j, hj, hgg, rfl, HI⟩ := hrel
  by_cases hjn : j < n
  ·by_cases hje : j < 30
   ·obtain ⟨a, ha⟩ : ∃ a, l[j]? = some a := ⟨_, List.getElem?_eq_getElem (by rw [← HX.out.2.1]; exact hjn)⟩
    obtain ⟨b, off, c', e, hc, hbl, hcx⟩ := HX.out.1.ex (by rintro rfl; simp at ha)
    injection e with e1 e2 e3
    subst e1
    clear e2 e3
    have HC : Hid (∀ W, Below w.heap.size w W → W.cell? ⟨b, off + j * 11, none⟩ = some (.int .i64 a.kd) ∧ W.cell? ⟨b, off + j * 11 + 1, none⟩ = some (.bool a.bb) ∧ W.cell? ⟨b, off + j * 11 + 2, none⟩ = some (.string (S a.x.c)) ∧ W.cell? ⟨b, off + j * 11 + 3, none⟩ = some (.int .i64 a.x.k) ∧ W.cell? ⟨b, off + j * 11 + 4, none⟩ = some (.float .f64 a.x.e.t) ∧ W.cell? ⟨b, off + j * 11 + 5, none⟩ = some (.int .i64 a.x.e.src) ∧ W.cell? ⟨b, off + j * 11 + 6, none⟩ = some (.int .i64 a.x.e.n) ∧ W.cell? ⟨b, off + j * 11 + 7, none⟩ = some (.int .i64 a.x.e.dst) ∧ W.cell? ⟨b, off + j * 11 + 8, none⟩ = some (.int .i64 a.x.e.pay) ∧ W.cell? ⟨b, off + j * 11 + 9, none⟩ = some (.string (S a.fr)) ∧ W.cell? ⟨b, off + j * 11 + 10, none⟩ = some (.string (S a.to))) := hid fun W hW => by
     have hcell : ∀ q u, (a24C a)[q]? = some u → W.cell? ⟨b, off + j * 11 + q, none⟩ = some u := fun q u hu => (World.cell?_of_block (hW.block b hbl)).trans (hcx j a ha q u hu)
     exact ⟨hcell 0 _ rfl, hcell 1 _ rfl, hcell 2 _ rfl, hcell 3 _ rfl, hcell 4 _ rfl, hcell 5 _ rfl, hcell 6 _ rfl, hcell 7 _ rfl, hcell 8 _ rfl, hcell 9 _ rfl, hcell 10 _ rfl⟩
    have HG := hid (HX.out.2.2 a (List.mem_of_getElem? ha))
    have HSH := hid (fun W => short24_any a.kd a.bb a.x a.fr a.to W)
    unfold ac24 at HSH
    have hji : (j : Int) < (n : Int) := by omega
    have hji2 : (j : Int) < 30 := by omega
    obtain ⟨m0, m1, m2, m3, m4, m5, m6, m7, m8, m9, m10⟩ := HC.out wr HI.out.fr
    clear ha hc hbl hcx
    go_wp2_with fail
    (with_reducible refine (HSH.out wr).mono ?_)
    rintro r W3 ⟨rfl, hb3⟩
    have HR3 := hid (HI.out.below hb3)
    clear hb3 m0 m1 m2 m3 m4 m5 m6 m7 m8 m9 m10
    cases hs : decide (a.x.c.length < 100 ∧ a.fr.length < 100 ∧ a.to.length < 100)
    case false =>
     go_wp2
     go_roundg (30 - (j + 1))
     case measure => omega
     case rel => exact ⟨j + 1, by omega, by omega, by go_num, hid (HR3.out.up (by omega))⟩
    case true =>
     obtain ⟨m0, m1, m2, m3, m4, m5, m6, m7, m8, m9, m10⟩ := HC.out W3 HR3.out.fr
     have HD := hid (rd24_do HR3.out (by omega) a.kd a.bb a.x a.fr a.to HG.out (of_decide_eq_true hs).1)
     unfold ac24 at HD
     clear hs
     go_wp2_with fail
     (with_reducible refine HD.out.mono ?_)
     rintro r W4 ⟨rfl, hR4⟩
     obtain ⟨p', q', p1, n1, c1, p0, n0, c0, la, lb, hpq, hn1, hn0, hM4⟩ := hR4
     have HN := hid (⟨hpq, hn1, hn0⟩ : _ ∧ _ ∧ _)
     have HOK := hid hM4.ok
     have hn1l : n1 ≤ 100 := by rw [hn1]; have := hM4.ok.2.2.1; omega
     have hn0l : n0 ≤ 100 := by rw [hn0]; have := hM4.ok.2.2.2.1; omega
     have HL := hid (mvD_list hM4 (by omega) [] [] (by simp) (by simp))
     rw [inside_all, ← hn1, show S [] = { data := #[] } from rfl] at HL
     have t0 : W4.cell? ⟨tb, 0, none⟩ = some (.pointer (some ⟨xb, 0, none⟩)) := hM4.t.cell 0
     clear hM4 hpq hn1 hn0 m0 m1 m2 m3 m4 m5 m6 m7 m8 m9 m10
     go_wp2_with fail
     (with_reducible refine HL.out.mono ?_)
     rintro r W5 ⟨p5, c5, rfl, hM5⟩
     have HL2 := hid (mvD_listb hM5 (by have := HN.out.1; omega) [] [] (by simp) (by simp))
     rw [inside_all, ← HN.out.2.2, show S [] = { data := #[] } from rfl] at HL2
     have t1 : W5.cell? ⟨tb, 1, none⟩ = some (.pointer (some ⟨yb, 0, none⟩)) := hM5.t.cell 1
     clear hM5 t0
     go_wp2_with fail
     (with_reducible refine HL2.out.mono ?_)
     rintro r W6 ⟨p6, c6, rfl, hM6⟩
     have t2 : W6.cell? ⟨tb, 2, none⟩ = some (.slice p1 n1 c1) := hM6.t.cell 2
     have t3 : W6.cell? ⟨tb, 3, none⟩ = some (.slice p0 n0 c0) := hM6.t.cell 3
     have HS1 := hid (same24_any (hM6.vw (z := (.slice p5 n1 c5, la)) (by simp)) (hM6.vw (z := (.slice p1 n1 c1, la)) (by simp)) HN.out.2.1 (by omega))
     have H6 := hid hM6
     clear hM6 t1
     go_wp2_with fail
     (with_reducible refine HS1.out.mono ?_)
     rintro r W7 ⟨rfl, hb7⟩
     have hM7 := H6.out.below hb7
     have t3 : W7.cell? ⟨tb, 3, none⟩ = some (.slice p0 n0 c0) := hM7.t.cell 3
     have HS2 := hid (same24_any (hM7.vw (z := (.slice p6 n0 c6, lb)) (by simp)) (hM7.vw (z := (.slice p0 n0 c0, lb)) (by simp)) HN.out.2.2 (by omega))
     have H7 := hid hM7
     clear hM7 hb7
     go_wp2_with fail
     (with_reducible refine HS2.out.mono ?_)
     rintro r W8 ⟨rfl, hb8⟩
     have HR8 : Hid (Rd24 w tb xb yb s (j + 1) W8) := hid ⟨p', q', p1, n1, c1, p0, n0, c0, la, lb, HN.out.1, HN.out.2.1, HN.out.2.2, (H7.out.below hb8).sub (fun z hz => by simp only [List.mem_cons, List.mem_nil_iff, or_false] at hz ⊢; rcases hz with rfl | rfl <;> simp)⟩
     clear hb8 t2 t3
     go_wp2
     go_roundg (30 - (j + 1))
     case measure => omega
     case rel => exact ⟨j + 1, by omega, by omega, by go_num, HR8⟩
   ·have hji : (j : Int) < (n : Int) := by omega
    have hji2 : ¬ (j : Int) < 30 := by omega
    go_wp2
    go_ret
    exact ⟨rfl, HI.out.fr⟩
  ·have hji : ¬ (j : Int) < (n : Int) := by omega
   go_wp2
   go_ret
   exact ⟨rfl, HI.out.fr⟩
end
section
open Go.ChangeShapes Go.WideShapes Go.ChangeAt Go.RowKit Go.Deep
section
variable {H : Type} {enc : TypeId × Value → H} {w : World} {spare : Nat → Bool} {held : Bool} {fuel : Nat}
theorem open_acts24 {v : Value} {x : DataW H × List MemPlace} (h : DataW.trod enc Tryz.prog w 0 spare held fuel 81 [v] = some x) :
  ∃ (p : Option Addr) (n c : Nat) (l : List A24), v = .slice p n c ∧ n = l.length ∧ Vw 11 a24C w (.slice p n c) l ∧ ∀ y ∈ l, y.x.e.ok :=
 open_rows (R := fun y : A24 => y.x.e.ok) ⟨0, false, ⟨[], 0, ⟨0, 0, 0, 0, 0⟩⟩, [], []⟩ Tryz.underlying81 cellsAct24 (by decide) a24C_len (fun _ _ _ h => by
  obtain ⟨kd, bb, y, fr, to, he, hok, _⟩ := open_act24 h
  exact ⟨⟨kd, bb, y, fr, to⟩, he, hok⟩) h
end
end
section
open Go.ChangeShapes Go.WideShapes Go.ChangeAt Go.RowKit Go.Deep
set_option maxHeartbeats 8000000 in
set_option maxRecDepth 100000 in
theorem outboxDoes_facts : joinedFacts Tryz.checked.prog 9 Tryz.f9 Rows.outboxDoesSpec Rows.outboxDoesRow = true := by
 unfold joinedFacts
 repeat' (rw [Bool.and_eq_true]; refine ⟨?_, ?_⟩)
 all_goals (as_aux_lemma => kernel_rfl)
end
end Go.Proofs.YtnnghcooidjlhaaGreat
