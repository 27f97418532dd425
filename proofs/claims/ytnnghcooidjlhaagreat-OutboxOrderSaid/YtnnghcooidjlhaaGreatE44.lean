/- Parts of the proof: Zd+ Ze+ Zo+ Zp+ Zs+. -/
import Derived.Test.YtnnghcooidjlhaaGreatE27
import Derived.Test.YtnnghcooidjlhaaGreatE28
import Derived.Test.YtnnghcooidjlhaaGreatE34
import Derived.Test.YtnnghcooidjlhaaGreatE35
import Derived.Test.YtnnghcooidjlhaaGreatE36
set_option linter.all false
set_option maxRecDepth 100000
namespace Go.Proofs.YtnnghcooidjlhaaGreat
section
theorem ascO_ext {M M' : List It} (h : AscO M) (h' : AscO M') (e : ∀ a, a ∈ M ↔ a ∈ M') : M = M' := by
 induction M generalizing M' with
 | nil =>
  cases M' with
  | nil => rfl
  | cons y t => exact absurd ((e y).2 (by simp)) (by simp)
 | cons x t ih =>
  cases M' with
  | nil => exact absurd ((e x).1 (by simp)) (by simp)
  | cons y t' =>
   have hx := List.pairwise_cons.1 h
   have hy := List.pairwise_cons.1 h'
   have hxy : x = y := by
    rcases List.mem_cons.1 ((e x).1 (by simp)) with h1 | h1
    ·exact h1
    ·rcases List.mem_cons.1 ((e y).2 (by simp)) with h2 | h2
     ·exact h2.symm
     ·exact absurd (hx.1 y h2) (blt_asymm (hy.1 x h1))
   subst hxy
   rw [ih hx.2 hy.2 (fun a => ?_)]
   constructor
   ·intro ha
    rcases List.mem_cons.1 ((e a).1 (by simp [ha])) with h1 | h1
    ·subst h1; exact absurd (hx.1 _ ha) (blt_irrefl _)
    ·exact h1
   ·intro ha
    rcases List.mem_cons.1 ((e a).2 (by simp [ha])) with h1 | h1
    ·subst h1; exact absurd (hy.1 _ ha) (blt_irrefl _)
    ·exact h1
theorem mem_setO_iff {l : List It} {x y : It} : y ∈ setO l x ↔ y = x ∨ (y ∈ l ∧ y.key ≠ x.key) := by
 unfold setO
 rw [List.mem_append, List.mem_cons, List.mem_filter, List.mem_filter]
 simp only [decide_eq_true_eq]
 constructor
 ·rintro (⟨h1, h2⟩ | h | ⟨h1, h2⟩)
  ·exact .inr ⟨h1, fun e => by rw [e] at h2; exact blt_irrefl _ h2⟩
  ·exact .inl h
  ·exact .inr ⟨h1, fun e => by rw [e] at h2; exact blt_irrefl _ h2⟩
 ·rintro (h | ⟨h1, h2⟩)
  ·exact .inr (.inl h)
  ·rcases blt_tri y.key x.key with h | h | h
   ·exact .inl ⟨h1, h⟩
   ·exact absurd h h2
   ·exact .inr (.inr ⟨h1, h⟩)
end
section
theorem setO_new {l : List It} {x : It} (h : ∀ y ∈ l, y.key ≠ x.key) : (setO l x).length = l.length + 1 := by
 unfold setO
 rw [List.length_append, List.length_cons]
 have : ∀ l : List It, (∀ y ∈ l, y.key ≠ x.key) → (l.filter (fun y => decide (y.key < x.key))).length + (l.filter (fun y => decide (x.key < y.key))).length = l.length := fun l => by
  induction l with
  | nil => simp
  | cons y t ih =>
   intro h
   have ih := ih fun z hz => h z (by simp [hz])
   rw [List.filter_cons, List.filter_cons]
   rcases blt_tri y.key x.key with h1 | h1 | h1
   ·have h2 : ¬ x.key < y.key := blt_asymm h1
    simp only [h1, h2, decide_true, decide_false, if_true, List.length_cons, Bool.false_eq_true, if_false]
    omega
   ·exact absurd h1 (h y (by simp))
   ·have h2 : ¬ y.key < x.key := blt_asymm h1
    simp only [h1, h2, decide_true, decide_false, if_true, List.length_cons, Bool.false_eq_true, if_false]
    omega
 have := this l h
 omega
theorem foldO : ∀ {xs l : List It}, AscO l → (xs.Pairwise fun a b => a.key ≠ b.key) → (∀ x ∈ xs, ∀ y ∈ l, x.key ≠ y.key) → AscO (xs.foldl setO l) ∧ (∀ y, y ∈ xs.foldl setO l ↔ y ∈ xs ∨ y ∈ l) ∧ (xs.foldl setO l).length = l.length + xs.length
 | [], l, h, _, _ => ⟨h, by simp, by simp⟩
 | x :: t, l, h, hp, hn => by
  have hp' := List.pairwise_cons.1 hp
  obtain ⟨h1, h2, h3⟩ := foldO (xs := t) (l := setO l x) (setO_asc h x) hp'.2 (fun z hz y hy => by
   rcases mem_setO hy with rfl | hy
   ·exact fun e => hp'.1 z hz e.symm
   ·exact hn z (by simp [hz]) y hy)
  refine ⟨h1, fun y => ?_, ?_⟩
  ·rw [List.foldl_cons, h2, mem_setO_iff, List.mem_cons]
   constructor
   ·rintro (h | h | ⟨h, _⟩)
    ·exact .inl (.inr h)
    ·exact .inl (.inl h)
    ·exact .inr h
   ·rintro ((h | h) | h)
    ·exact .inr (.inl h)
    ·exact .inl h
    ·exact .inr (.inr ⟨h, fun e => hn x (by simp) y h e.symm⟩)
  ·rw [List.foldl_cons, h3, setO_new (fun y hy e => hn x (by simp) y hy e.symm), List.length_cons]
   omega
structure PartsO (all l m : List It) : Prop where
 aa : AscO all
 al : AscO l
 am : AscO m
 mem : ∀ x, x ∈ all ↔ x ∈ l ∨ x ∈ m
 ne : ∀ x ∈ l, ∀ y ∈ m, x.key ≠ y.key
 len : all.length = l.length + m.length
theorem filter_len (p : It → Bool) : ∀ l : List It, (l.filter p).length + (l.filter fun y => !p y).length = l.length
 | [] => rfl
 | y :: t => by
  have := filter_len p t
  rw [List.filter_cons, List.filter_cons]
  cases p y <;> simp <;> omega
theorem PartsO.swap {all l m : List It} (h : PartsO all l m) : PartsO all m l :=
 ⟨h.aa, h.am, h.al, fun x => by rw [h.mem, Or.comm], fun x hx y hy e => h.ne y hy x hx e.symm, by rw [h.len, Nat.add_comm]⟩
theorem PartsO.move {all l m : List It} (h : PartsO all l m) (fr to : Bs) : PartsO all (outO l fr to) ((insideO l fr to).foldl setO m) := by
 have hi : ∀ x ∈ insideO l fr to, x ∈ l := fun x hx => (List.mem_filter.1 hx).1
 have ho : ∀ x ∈ outO l fr to, x ∈ l := fun x hx => (List.mem_filter.1 hx).1
 obtain ⟨h1, h2, h3⟩ := foldO (xs := insideO l fr to) h.am (AscO.ne (h.al.filter _)) (fun x hx y hy => h.ne x (hi x hx) y hy)
 refine ⟨h.aa, h.al.filter _, h1, fun x => ?_, fun x hx y hy e => ?_, ?_⟩
 ·rw [h.mem, h2]
  unfold outO insideO
  rw [List.mem_filter, List.mem_filter]
  constructor
  ·rintro (h | h)
   ·cases e : inR fr to x.key
    ·exact .inl ⟨h, by simp [e]⟩
    ·exact .inr (.inl ⟨h, rfl⟩)
   ·exact .inr (.inr h)
  ·rintro (h | h | h)
   ·exact .inl h.1
   ·exact .inl h.1
   ·exact .inr h
 ·rcases (h2 y).1 hy with hy | hy
  ·have e2 := h.al.inj (ho x hx) (hi y hy) e
   subst e2
   have q1 := (List.mem_filter.1 hx).2
   have q2 := (List.mem_filter.1 hy).2
   rw [q2] at q1
   exact absurd q1 (by simp)
  ·exact h.ne x (ho x hx) y hy e
 ·rw [h3, h.len]
  have := filter_len (fun y => inR fr to y.key) l
  unfold insideO outO
  omega
theorem PartsO.again {all l m : List It} (h : PartsO all l m) : m.foldl setO (l.foldl setO []) = all := by
 obtain ⟨h1, h2, h3⟩ := foldO (xs := l) (l := []) List.Pairwise.nil h.al.ne (by simp)
 obtain ⟨g1, g2, g3⟩ := foldO (xs := m) h1 h.am.ne (fun x hx y hy e => by
  rcases (h2 y).1 hy with hy | hy
  ·exact h.ne y hy x hx e.symm
  ·simp at hy)
 refine ascO_ext g1 h.aa fun x => ?_
 rw [g2, h2, h.mem]
 simp [Or.comm]
end
section
open Go.RowKit Go.Lib
theorem t00_lt {t : Nat} (h : t < 18446744073709551616) : t00 t < 18446744073709551616 := by
 unfold t00
 split
 ·omega
 ·exact tn_lt h
end
section
open Go.RowKit Go.Lib
def MvA (w W : World) (tb xb yb : Nat) (s : SL) (n k : Nat) (ex : List (Value × List It)) (la lb : List It) : Prop :=
 ∃ O N L, Tb w W tb xb yb s O N L la lb (.slice none 0 0) (.slice none 0 0) ∧ N ≤ n ∧ L ≤ k ∧ ∀ z ∈ ex, Vw 7 itC W z.1 z.2 ∧ ∀ b, z.1.ownBlock = some b → b ∉ O ∧ b < W.heap.size
section
variable {w W W' : World} {tb xb yb : Nat} {s : SL} {n k : Nat} {ex : List (Value × List It)} {all la lb : List It} {v : Value}
theorem MvA.below (h : MvA w W tb xb yb s n k ex la lb) (hb : Below W.heap.size W W') : MvA w W' tb xb yb s n k ex la lb := by
 obtain ⟨O, N, L, h1, h2, h3, h4⟩ := h
 exact ⟨O, N, L, h1.below hb, h2, h3, fun z hz => ⟨(h4 z hz).1.below hb, fun b e => ⟨((h4 z hz).2 b e).1, Nat.lt_of_lt_of_le ((h4 z hz).2 b e).2 hb.size⟩⟩⟩
theorem MvA.fr (h : MvA w W tb xb yb s n k ex la lb) : Below w.heap.size w W := by
 obtain ⟨O, N, L, h1, _⟩ := h
 exact h1.b
theorem MvA.c (h : MvA w W tb xb yb s n k ex la lb) : W.cell? ⟨tb, 0, none⟩ = some (.pointer (some ⟨xb, 0, none⟩)) ∧ W.cell? ⟨tb, 1, none⟩ = some (.pointer (some ⟨yb, 0, none⟩)) := by
 obtain ⟨O, N, L, h1, _⟩ := h
 exact ⟨h1.c.1, h1.c.2.1⟩
theorem MvA.up (h : MvA w W tb xb yb s n k ex la lb) {n' k' : Nat} (hn : n ≤ n') (hk : k ≤ k') : MvA w W tb xb yb s n' k' ex la lb := by
 obtain ⟨O, N, L, h1, h2, h3, h4⟩ := h
 exact ⟨O, N, L, h1, by omega, by omega, h4⟩
theorem MvA.sub (h : MvA w W tb xb yb s n k ex la lb) {ex' : List (Value × List It)} (hs : ∀ z ∈ ex', z ∈ ex) : MvA w W tb xb yb s n k ex' la lb := by
 obtain ⟨O, N, L, h1, h2, h3, h4⟩ := h
 exact ⟨O, N, L, h1, h2, h3, fun z hz => h4 z (hs z hz)⟩
theorem MvA.vw (h : MvA w W tb xb yb s n k ex la lb) {z : Value × List It} (hz : z ∈ ex) : Vw 7 itC W z.1 z.2 := by
 obtain ⟨O, N, L, h1, h2, h3, h4⟩ := h
 exact (h4 z hz).1
theorem MvA.ok (h : MvA w W tb xb yb s n k ex la lb) : (∀ x ∈ la, x.right ∧ x.e.ok ∧ x.e.nrm = x.e) ∧ (∀ x ∈ lb, x.right ∧ x.e.ok ∧ x.e.nrm = x.e) ∧ la.length ≤ k ∧ lb.length ≤ k := by
 obtain ⟨O, N, L, h1, h2, h3, h4⟩ := h
 exact ⟨h1.i.ok, h1.i.swap.ok, Nat.le_trans h1.i.len h3, Nat.le_trans h1.i.swap.len h3⟩
theorem MvA.turn {O O' : List Nat} {N L N' L' n' k' : Nat} {la' lb' : List It} (h1 : Tb w W tb xb yb s O N L la lb (.slice none 0 0) (.slice none 0 0)) (h4 : ∀ z ∈ ex, Vw 7 itC W z.1 z.2 ∧ ∀ b, z.1.ownBlock = some b → b ∉ O ∧ b < W.heap.size) (hk : Kp O W W') (hg : Gr O W.heap.size O') (hi : OxI W' xb yb s 1 2 2 O' N' L' la' lb') (hn : N' ≤ n') (hl : L' ≤ k') : MvA w W' tb xb yb s n' k' ex la' lb' :=
 ⟨O', N', L', h1.turn hk hg hi, hn, hl, fun z hz => ⟨(h4 z hz).1.kp4 hk fun b e => ((h4 z hz).2 b e).1, fun b e => ⟨hg.out ((h4 z hz).2 b e).2 ((h4 z hz).2 b e).1, Nat.lt_of_lt_of_le ((h4 z hz).2 b e).2 hk.size⟩⟩⟩
theorem MvA.add (h : MvA w W tb xb yb s n k ex la lb) (hb : Below W.heap.size W W') {T : TypeId} {v : Value} {m : List It} (ho : W'.ownsRow W.heap.size T 7 v m.length (rowV itC m)) : MvA w W' tb xb yb s n k ((v, m) :: ex) la lb := by
 obtain ⟨O, N, L, h1, h2, h3, h4⟩ := h
 refine ⟨O, N, L, h1.below hb, h2, h3, fun z hz => ?_⟩
 rcases List.mem_cons.1 hz with rfl | hz
 ·refine ⟨Vw.of_own itC_len ho rfl, fun b e => ⟨fun hm => ?_, (ho.lt b e).2⟩⟩
  have g1 := (ho.lt b e).1
  have g2 := h1.i.lts b (by simp [hm])
  omega
 ·exact ⟨(h4 z hz).1.below hb, fun b e => ⟨((h4 z hz).2 b e).1, Nat.lt_of_lt_of_le ((h4 z hz).2 b e).2 hb.size⟩⟩
theorem mvA_put (h : MvA w W tb xb yb s n k ex la lb) (hn : n ≤ 100) (a : It) (hr : a.right) (ho : a.e.ok) :
  Calls Tryz.prog 34 #[.pointer (some ⟨xb, 0, none⟩), itV a] W fun e w' => e = .returned (.int .i64 0) ∧ MvA w w' tb xb yb s (n + 1) (k + 1) ex (setO la a.nrm) lb := by
 obtain ⟨O, N, L, h1, h2, h3, h4⟩ := h
 refine (oput_any h1.i a hr ho (.inl (by omega))).mono ?_
 rintro e w' ⟨O', rfl, g1, g2, g3⟩
 exact ⟨rfl, MvA.turn h1 h4 g2 g3 g1 (by omega) (by omega)⟩
theorem mvA_ref (h : MvA w W tb xb yb s n k ex la lb) {p : Option Addr} {m c : Nat} (hz : (Value.slice p m c, all) ∈ ex) (hm : m = all.length) (hl : m ≤ 1000) (a : It) (ho : a.e.ok) :
  Calls Tryz.prog 36 #[.slice p m c, itV a] W fun r w' => ∃ p' m' c', r = .returned (.slice p' m' c') ∧ m' = (put24 all a.n0).length ∧ MvA w w' tb xb yb s n k ((.slice p' m' c', put24 all a.n0) :: ex) la lb := by
 refine (put24_any (h.vw hz) hm hl a ho).mono ?_
 rintro r w' ⟨v', rfl, g1, g2⟩
 obtain ⟨p', c', rfl⟩ := own_slice2 g1
 exact ⟨_, _, _, rfl, rfl, h.add g2 g1⟩
theorem mvA_lista (h : MvA w W tb xb yb s n k ex la lb) (hk : k ≤ 1000) :
  Calls Tryz.prog 38 #[.pointer (some ⟨xb, 0, none⟩), .string ⟨#[]⟩, .string ⟨#[]⟩] W fun r w' => ∃ p c, r = .returned (.tuple #[.slice p la.length c, .int .i64 0]) ∧ MvA w w' tb xb yb s n k ((.slice p la.length c, la) :: ex) la lb := by
 obtain ⟨O, N, L, h1, h2, h3, h4⟩ := h
 have hL := olist_any h1.i (by have := h1.i.len; omega) [] [] (by simp) (by simp)
 rw [inside_all] at hL
 refine hL.mono ?_
 rintro r w' ⟨v, rfl, g1, g2, g3⟩
 obtain ⟨p, c, rfl⟩ := own_slice2 g3
 obtain ⟨O', N', L', f1, f2, f3, f4⟩ := MvA.turn h1 h4 g2 (Gr.refl _ _) g1 h2 h3
 refine ⟨p, c, rfl, O, N, L, h1.turn g2 (Gr.refl _ _) g1, h2, h3, fun z hz => ?_⟩
 rcases List.mem_cons.1 hz with rfl | hz
 ·refine ⟨Vw.of_own itC_len g3 rfl, fun b e => ⟨fun hm => ?_, (g3.lt b e).2⟩⟩
  have q1 := (g3.lt b e).1
  have q2 := h1.i.lts b (by simp [hm])
  omega
 ·exact ⟨(h4 z hz).1.kp4 g2 fun b e => ((h4 z hz).2 b e).1, fun b e => ⟨((h4 z hz).2 b e).1, Nat.lt_of_lt_of_le ((h4 z hz).2 b e).2 g2.size⟩⟩
theorem mvA_listb (h : MvA w W tb xb yb s n k ex la lb) (hk : k ≤ 1000) :
  Calls Tryz.prog 38 #[.pointer (some ⟨yb, 0, none⟩), .string ⟨#[]⟩, .string ⟨#[]⟩] W fun r w' => ∃ p c, r = .returned (.tuple #[.slice p lb.length c, .int .i64 0]) ∧ MvA w w' tb xb yb s n k ((.slice p lb.length c, lb) :: ex) la lb := by
 obtain ⟨O, N, L, h1, h2, h3, h4⟩ := h
 have hL := olist_any h1.i.swap (by have := h1.i.swap.len; omega) [] [] (by simp) (by simp)
 rw [inside_all] at hL
 refine hL.mono ?_
 rintro r w' ⟨v, rfl, g1, g2, g3⟩
 obtain ⟨p, c, rfl⟩ := own_slice2 g3
 refine ⟨p, c, rfl, O, N, L, h1.turn g2 (Gr.refl _ _) g1.swap, h2, h3, fun z hz => ?_⟩
 rcases List.mem_cons.1 hz with rfl | hz
 ·refine ⟨Vw.of_own itC_len g3 rfl, fun b e => ⟨fun hm => ?_, (g3.lt b e).2⟩⟩
  have q1 := (g3.lt b e).1
  have q2 := h1.i.lts b (by simp [hm])
  omega
 ·exact ⟨(h4 z hz).1.kp4 g2 fun b e => ((h4 z hz).2 b e).1, fun b e => ⟨((h4 z hz).2 b e).1, Nat.lt_of_lt_of_le ((h4 z hz).2 b e).2 g2.size⟩⟩
theorem mvA_moveab (h : MvA w W tb xb yb s n k ex la lb) (hP : PartsO all la lb) (hk : k ≤ 15) (hn : n ≤ 200) (fr : Bs) :
  Calls Tryz.prog 37 #[.pointer (some ⟨xb, 0, none⟩), .pointer (some ⟨yb, 0, none⟩), .string (S fr)] W fun r w' => ∃ (a b : Int) (la' lb' : List It), r = .returned (.tuple #[.int .i64 a, .int .i64 b]) ∧ MvA w w' tb xb yb s (n + 15) k ex la' lb' ∧ PartsO all la' lb' := by
 by_cases hf : fr.length ≤ 30
 ·obtain ⟨O, N, L, h1, h2, h3, h4⟩ := h
  have hll : (insideO la fr []).length ≤ 15 := Nat.le_trans (List.length_filter_le _ _) (Nat.le_trans h1.i.len (by omega))
  refine (omove_any h1.i (by have := h1.i.len; omega) fr hf (fun j hj => .inr ⟨by omega, by omega⟩)).mono ?_
  rintro r w' ⟨O', rfl, g1, g2, g3⟩
  exact ⟨_, _, _, _, rfl, MvA.turn h1 h4 g2 g3 g1 (by omega) (by omega), hP.move fr []⟩
 ·have h' := h
  obtain ⟨O, N, L, h1, h2, h3, h4⟩ := h
  refine (omove_no h1.i fr hf).mono ?_
  rintro r w' ⟨rfl, hb⟩
  exact ⟨_, _, la, lb, rfl, (h'.below hb).up (by omega) (by omega), hP⟩
theorem mvA_moveba (h : MvA w W tb xb yb s n k ex la lb) (hP : PartsO all la lb) (hk : k ≤ 15) (hn : n ≤ 200) (fr : Bs) :
  Calls Tryz.prog 37 #[.pointer (some ⟨yb, 0, none⟩), .pointer (some ⟨xb, 0, none⟩), .string (S fr)] W fun r w' => ∃ (a b : Int) (la' lb' : List It), r = .returned (.tuple #[.int .i64 a, .int .i64 b]) ∧ MvA w w' tb xb yb s (n + 15) k ex la' lb' ∧ PartsO all la' lb' := by
 by_cases hf : fr.length ≤ 30
 ·obtain ⟨O, N, L, h1, h2, h3, h4⟩ := h
  have hll : (insideO lb fr []).length ≤ 15 := Nat.le_trans (List.length_filter_le _ _) (Nat.le_trans h1.i.swap.len (by omega))
  refine (omove_any h1.i.swap (by have := h1.i.swap.len; omega) fr hf (fun j hj => .inr ⟨by omega, by omega⟩)).mono ?_
  rintro r w' ⟨O', rfl, g1, g2, g3⟩
  exact ⟨_, _, _, _, rfl, MvA.turn h1 h4 g2 g3 g1.swap (by omega) (by omega), (hP.swap.move fr []).swap⟩
 ·have h' := h
  obtain ⟨O, N, L, h1, h2, h3, h4⟩ := h
  refine (omove_no h1.i.swap fr hf).mono ?_
  rintro r w' ⟨rfl, hb⟩
  exact ⟨_, _, la, lb, rfl, (h'.below hb).up (by omega) (by omega), hP⟩
end
end
section
open Go.RowKit Go.Lib
theorem fold_ok {t l : List It} (hl : ∀ y ∈ l, y.fit) (ht : ∀ y ∈ t, y.fit) : ∀ y ∈ t.foldl setO l, y.fit := by
 induction t generalizing l with
 | nil => exact hl
 | cons y t ih =>
  refine ih (fun z hz => ?_) (fun z hz => ht z (by simp [hz]))
  rcases mem_setO hz with rfl | hz
  ·exact ht _ (by simp)
  ·exact hl z hz
theorem fold_asc {t l : List It} (hl : AscO l) : AscO (t.foldl setO l) := by
 induction t generalizing l with
 | nil => exact hl
 | cons y t ih => exact ih (setO_asc hl y)
end
end Go.Proofs.YtnnghcooidjlhaaGreat
