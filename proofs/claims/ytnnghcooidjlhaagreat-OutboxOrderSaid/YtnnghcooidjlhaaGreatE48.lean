/- Parts of the proof: Zt Zua. -/
import Derived.Test.YtnnghcooidjlhaaGreatE28
import Derived.Test.YtnnghcooidjlhaaGreatE36
import Derived.Test.YtnnghcooidjlhaaGreatE37
import Derived.Test.YtnnghcooidjlhaaGreatE44
set_option linter.all false
set_option maxRecDepth 100000
namespace Go.Proofs.YtnnghcooidjlhaaGreat
section
def ApartO (l : List It) : Prop := l.Pairwise fun a b => ¬ (a.c = b.c ∧ a.k = b.k)
def placeO (m : List It) (x : It) : List It := put24 (del24 m x) x.n0
def placesO (l : List It) : List It := l.foldl placeO []
def stepO (l : List It) (x : It) : List It := if x.right then setO l x.nrm else l
theorem mem_del24 {l : List It} {x y : It} : y ∈ del24 l x ↔ y ∈ l ∧ ¬ (y.c = x.c ∧ y.k = x.k) := by
 unfold del24 dif
 rw [List.mem_filter]
 refine and_congr_right fun _ => ?_
 simp only [Bool.or_eq_true, decide_eq_true_eq, ne_eq]
 try
  constructor
  ·rintro (h | h) e
   ·exact h e.1
   ·exact h e.2
  ·intro h
   by_cases e : y.c = x.c
   ·exact .inr fun k => h ⟨e, k⟩
   ·exact .inl e
theorem put24_mem {l : List It} {x y : It} (h : y ∈ put24 l x) : y = x ∨ y ∈ del24 l x := by
 unfold put24 at h
 rcases List.mem_append.1 h with h | h
 ·exact .inr (List.mem_of_mem_take h)
 ·rcases List.mem_cons.1 h with h | h
  ·exact .inl h
  ·exact .inr (List.mem_of_mem_drop h)
theorem put24_apart {l : List It} (h : ApartO l) (x : It) : ApartO (put24 l x) := by
 have hd : ApartO (del24 l x) := h.filter _
 unfold ApartO put24
 have h2 : ((del24 l x).take (cut24 (del24 l x) x) ++ (del24 l x).drop (cut24 (del24 l x) x)).Pairwise fun a b => ¬ (a.c = b.c ∧ a.k = b.k) := by rw [List.take_append_drop]; exact hd
 rw [List.pairwise_append] at h2 ⊢
 rw [List.pairwise_cons]
 refine ⟨h2.1, ⟨fun y hy e => ?_, h2.2.1⟩, fun y hy z hz => ?_⟩
 ·exact (mem_del24.1 (List.mem_of_mem_drop hy)).2 ⟨e.1.symm, e.2.symm⟩
 ·rcases List.mem_cons.1 hz with rfl | hz
  ·exact (mem_del24.1 (List.mem_of_mem_take hy)).2
  ·exact h2.2.2 y hy z hz
theorem placeO_apart {m : List It} (h : ApartO m) (x : It) : ApartO (placeO m x) := put24_apart (h.filter _) _
theorem del24_length (l : List It) (x : It) : (del24 l x).length ≤ l.length := List.length_filter_le _ _
theorem put24_length (l : List It) (x : It) : (put24 l x).length ≤ l.length + 1 := by
 unfold put24
 rw [List.length_append, List.length_cons, List.length_take, List.length_drop]
 have := del24_length l x
 omega
theorem placeO_length (m : List It) (x : It) : (placeO m x).length ≤ m.length + 1 := Nat.le_trans (put24_length _ _) (Nat.succ_le_succ (del24_length _ _))
theorem stepO_fold : ∀ (xs l : List It), xs.foldl stepO l = ((xs.filter fun x => decide x.right).map It.nrm).foldl setO l
 | [], l => rfl
 | x :: t, l => by
  rw [List.foldl_cons, stepO_fold t]
  unfold stepO
  by_cases h : x.right
  ·rw [if_pos h, List.filter_cons_of_pos (by simpa using h), List.map_cons, List.foldl_cons]
  ·rw [if_neg h, List.filter_cons_of_neg (by simpa using h)]
theorem stepO_all {xs : List It} (h : ApartO xs) : AscO (xs.foldl stepO []) ∧ ∀ y, y ∈ xs.foldl stepO [] ↔ ∃ x ∈ xs, x.right ∧ x.nrm = y := by
 rw [stepO_fold]
 obtain ⟨h1, h2, _⟩ := foldO (xs := (xs.filter fun x : It => decide x.right).map It.nrm) (l := []) List.Pairwise.nil (by
  rw [List.pairwise_map]
  have h' := h.filter (fun x : It => decide x.right)
  refine (List.Pairwise.and_mem.1 h').imp fun {a b} hab e => ?_
  have ha : a.right := by simpa using (List.mem_filter.1 hab.1).2
  have hb : b.right := by simpa using (List.mem_filter.1 hab.2.1).2
  exact hab.2.2 ((It.key_eq (x := a.nrm) (y := b.nrm) ha.1 hb.1).1 e)) (by simp)
 refine ⟨h1, fun y => ?_⟩
 rw [h2]
 simp [List.mem_map, List.mem_filter, and_assoc]
def rotO (t : Nat) (m : List It) : List It := m.drop (t % m.length) ++ m.take (t % m.length)
theorem rotO_perm (t : Nat) (m : List It) : (rotO t m).Perm m := by
 unfold rotO
 exact List.perm_append_comm.trans (by rw [List.take_append_drop])
theorem rotO_length (t : Nat) (m : List It) : (rotO t m).length = m.length := (rotO_perm t m).length_eq
theorem rotO_get {t : Nat} {m : List It} {i : Nat} (hi : i < m.length) : (rotO t m)[i]? = m[(i + t) % m.length]? := by
 unfold rotO
 have hr : t % m.length < m.length := Nat.mod_lt _ (by omega)
 have e : (i + t) % m.length = (i + t % m.length) % m.length := by rw [Nat.add_mod_mod]
 rw [e]
 generalize t % m.length = r at hr
 by_cases h : i + r < m.length
 ·rw [List.getElem?_append_left (by rw [List.length_drop]; omega), List.getElem?_drop, Nat.mod_eq_of_lt h, Nat.add_comm]
 ·rw [List.getElem?_append_right (by rw [List.length_drop]; omega), List.length_drop, List.getElem?_take_of_lt (by omega)]
  congr 1
  rw [Nat.mod_eq_sub_mod (by omega), Nat.mod_eq_of_lt (by omega)]
  omega
theorem rotO_same {m : List It} (h : ApartO m) (t : Nat) : (rotO t m).foldl stepO [] = m.foldl stepO [] := by
 have hr : ApartO (rotO t m) := ((rotO_perm t m).pairwise_iff (fun {a b} hab e => hab ⟨e.1.symm, e.2.symm⟩)).2 h
 obtain ⟨a1, a2⟩ := stepO_all hr
 obtain ⟨b1, b2⟩ := stepO_all h
 refine ascO_ext a1 b1 fun y => ?_
 rw [a2, b2]
 constructor
 ·rintro ⟨x, hx, e⟩
  exact ⟨x, (rotO_perm t m).mem_iff.1 hx, e⟩
 ·rintro ⟨x, hx, e⟩
  exact ⟨x, (rotO_perm t m).mem_iff.2 hx, e⟩
theorem foldl_take_next {α β : Type} {f : β → α → β} {b : β} {l : List α} {i : Nat} {x : α} (h : l[i]? = some x) : (l.take (i + 1)).foldl f b = f ((l.take i).foldl f b) x := by
 rw [List.take_add_one, h, Option.toList_some, List.foldl_append]
 rfl
end
section
open Go.RowKit Go.Lib
def fpO (t x y : Nat) (s : SL) (O : List Nat) : List Nat := t :: x :: y :: s.sb :: s.tb :: O
def Od (w W : World) (t1 x1 y1 : Nat) (s1 : SL) (t2 x2 y2 : Nat) (s2 : SL) (j : Nat) (ex : List (Value × List It)) (l1 l2 : List It) : Prop :=
 ∃ O1 N1 L1 O2 N2 L2, (OxI W x1 y1 s1 1 2 2 O1 N1 L1 l1 [] ∧ Blk W t1 61 #[.pointer (some ⟨x1, 0, none⟩), .pointer (some ⟨y1, 0, none⟩), .slice none 0 0, .slice none 0 0] ∧ t1 ∉ x1 :: y1 :: s1.sb :: s1.tb :: O1) ∧ (OxI W x2 y2 s2 1 2 2 O2 N2 L2 l2 [] ∧ Blk W t2 61 #[.pointer (some ⟨x2, 0, none⟩), .pointer (some ⟨y2, 0, none⟩), .slice none 0 0, .slice none 0 0] ∧ t2 ∉ x2 :: y2 :: s2.sb :: s2.tb :: O2) ∧ (N1 ≤ j ∧ L1 ≤ j) ∧ (N2 ≤ j ∧ L2 ≤ j) ∧ (∀ b ∈ fpO t1 x1 y1 s1 O1, b ∉ fpO t2 x2 y2 s2 O2) ∧ Below w.heap.size w W ∧ (∀ b, b ∈ fpO t1 x1 y1 s1 O1 ∨ b ∈ fpO t2 x2 y2 s2 O2 → w.heap.size ≤ b) ∧ ∀ z ∈ ex, Vw 7 itC W z.1 z.2 ∧ ∀ b, z.1.ownBlock = some b → b ∉ fpO t1 x1 y1 s1 O1 ∧ b ∉ fpO t2 x2 y2 s2 O2 ∧ b < W.heap.size
section
variable {w W W' : World} {t1 x1 y1 : Nat} {s1 : SL} {t2 x2 y2 : Nat} {s2 : SL} {j : Nat} {ex : List (Value × List It)} {l1 l2 : List It}
theorem Od.swap (h : Od w W t1 x1 y1 s1 t2 x2 y2 s2 j ex l1 l2) : Od w W t2 x2 y2 s2 t1 x1 y1 s1 j ex l2 l1 := by
 obtain ⟨O1, N1, L1, O2, N2, L2, h1, h2, h3, h4, h5, h6, h7, h9⟩ := h
 exact ⟨O2, N2, L2, O1, N1, L1, h2, h1, h4, h3, fun b hb hm => h5 b hm hb, h6, fun b hb => h7 b hb.symm, fun z hz => ⟨(h9 z hz).1, fun b e => ⟨((h9 z hz).2 b e).2.1, ((h9 z hz).2 b e).1, ((h9 z hz).2 b e).2.2⟩⟩⟩
theorem Od.below (h : Od w W t1 x1 y1 s1 t2 x2 y2 s2 j ex l1 l2) (hb : Below W.heap.size W W') : Od w W' t1 x1 y1 s1 t2 x2 y2 s2 j ex l1 l2 := by
 obtain ⟨O1, N1, L1, O2, N2, L2, h1, h2, h3, h4, h5, h6, h7, h9⟩ := h
 exact ⟨O1, N1, L1, O2, N2, L2, ⟨h1.1.below hb, h1.2.1.below hb h1.2.1.lt, h1.2.2⟩, ⟨h2.1.below hb, h2.2.1.below hb h2.2.1.lt, h2.2.2⟩, h3, h4, h5, h6.trans (hb.mono h6.size), h7, fun z hz => ⟨(h9 z hz).1.below hb, fun b e => ⟨((h9 z hz).2 b e).1, ((h9 z hz).2 b e).2.1, Nat.lt_of_lt_of_le ((h9 z hz).2 b e).2.2 hb.size⟩⟩⟩
theorem Od.fr (h : Od w W t1 x1 y1 s1 t2 x2 y2 s2 j ex l1 l2) : Below w.heap.size w W := by
 obtain ⟨O1, N1, L1, O2, N2, L2, h1, h2, h3, h4, h5, h6, h7, h9⟩ := h
 exact h6
theorem Od.up (h : Od w W t1 x1 y1 s1 t2 x2 y2 s2 j ex l1 l2) {i : Nat} (hi : j ≤ i) : Od w W t1 x1 y1 s1 t2 x2 y2 s2 i ex l1 l2 := by
 obtain ⟨O1, N1, L1, O2, N2, L2, h1, h2, h3, h4, h5⟩ := h
 exact ⟨O1, N1, L1, O2, N2, L2, h1, h2, by omega, by omega, h5⟩
theorem Od.sub (h : Od w W t1 x1 y1 s1 t2 x2 y2 s2 j ex l1 l2) {ex' : List (Value × List It)} (he : ∀ z ∈ ex', z ∈ ex) : Od w W t1 x1 y1 s1 t2 x2 y2 s2 j ex' l1 l2 := by
 obtain ⟨O1, N1, L1, O2, N2, L2, h1, h2, h3, h4, h5, h6, h7, h9⟩ := h
 exact ⟨O1, N1, L1, O2, N2, L2, h1, h2, h3, h4, h5, h6, h7, fun z hz => h9 z (he z hz)⟩
theorem Od.vw (h : Od w W t1 x1 y1 s1 t2 x2 y2 s2 j ex l1 l2) {z : Value × List It} (hz : z ∈ ex) : Vw 7 itC W z.1 z.2 := by
 obtain ⟨O1, N1, L1, O2, N2, L2, h1, h2, h3, h4, h5, h6, h7, h9⟩ := h
 exact (h9 z hz).1
theorem Od.c (h : Od w W t1 x1 y1 s1 t2 x2 y2 s2 j ex l1 l2) : W.cell? ⟨t1, 0, none⟩ = some (.pointer (some ⟨x1, 0, none⟩)) ∧ W.cell? ⟨t2, 0, none⟩ = some (.pointer (some ⟨x2, 0, none⟩)) := by
 obtain ⟨O1, N1, L1, O2, N2, L2, h1, h2, _⟩ := h
 exact ⟨h1.2.1.cell 0, h2.2.1.cell 0⟩
theorem Od.ok (h : Od w W t1 x1 y1 s1 t2 x2 y2 s2 j ex l1 l2) : (∀ x ∈ l1, x.right ∧ x.e.ok ∧ x.e.nrm = x.e) ∧ AscO l1 ∧ l1.length ≤ j := by
 obtain ⟨O1, N1, L1, O2, N2, L2, h1, h2, h3, _⟩ := h
 exact ⟨h1.1.ok, h1.1.asc, Nat.le_trans h1.1.len h3.2⟩
theorem Od.add (h : Od w W t1 x1 y1 s1 t2 x2 y2 s2 j ex l1 l2) (hb : Below W.heap.size W W') {T : TypeId} {v : Value} {m : List It} (ho : W'.ownsRow W.heap.size T 7 v m.length (rowV itC m)) : Od w W' t1 x1 y1 s1 t2 x2 y2 s2 j ((v, m) :: ex) l1 l2 := by
 have h' := h.below hb
 obtain ⟨O1, N1, L1, O2, N2, L2, h1, h2, h3, h4, h5, h6, h7, h9⟩ := h
 have lts1 : ∀ b ∈ fpO t1 x1 y1 s1 O1, b < W.heap.size := fun b hb => by
  rcases List.mem_cons.1 hb with rfl | hb
  ·exact h1.2.1.lt
  ·exact h1.1.lts b hb
 have lts2 : ∀ b ∈ fpO t2 x2 y2 s2 O2, b < W.heap.size := fun b hb => by
  rcases List.mem_cons.1 hb with rfl | hb
  ·exact h2.2.1.lt
  ·exact h2.1.lts b hb
 refine ⟨O1, N1, L1, O2, N2, L2, ⟨h1.1.below hb, h1.2.1.below hb h1.2.1.lt, h1.2.2⟩, ⟨h2.1.below hb, h2.2.1.below hb h2.2.1.lt, h2.2.2⟩, h3, h4, h5, h6.trans (hb.mono h6.size), h7, fun z hz => ?_⟩
 rcases List.mem_cons.1 hz with rfl | hz
 ·refine ⟨Vw.of_own itC_len ho rfl, fun b e => ⟨fun hm => ?_, fun hm => ?_, (ho.lt b e).2⟩⟩
  ·have q1 := (ho.lt b e).1
   have q2 := lts1 b hm
   omega
  ·have q1 := (ho.lt b e).1
   have q2 := lts2 b hm
   omega
 ·exact ⟨(h9 z hz).1.below hb, fun b e => ⟨((h9 z hz).2 b e).1, ((h9 z hz).2 b e).2.1, Nat.lt_of_lt_of_le ((h9 z hz).2 b e).2.2 hb.size⟩⟩
theorem fpO_grow {t x y : Nat} {s : SL} {O O' : List Nat} {n b : Nat} (hg : Gr O n O') (h : b ∈ fpO t x y s O') : b ∈ fpO t x y s O ∨ n ≤ b := by
 unfold fpO at h ⊢
 rcases List.mem_cons.1 h with e | h
 ·exact .inl (by simp [e])
 rcases List.mem_cons.1 h with e | h
 ·exact .inl (by simp [e])
 rcases List.mem_cons.1 h with e | h
 ·exact .inl (by simp [e])
 rcases List.mem_cons.1 h with e | h
 ·exact .inl (by simp [e])
 rcases List.mem_cons.1 h with e | h
 ·exact .inl (by simp [e])
 exact (hg b h).imp (fun h => by simp [h]) id
theorem Od.turn {O1 O1' O2 : List Nat} {N1 L1 N1' L1' N2 L2 i : Nat} {l1' : List It} (h1 : OxI W x1 y1 s1 1 2 2 O1 N1 L1 l1 [] ∧ Blk W t1 61 #[.pointer (some ⟨x1, 0, none⟩), .pointer (some ⟨y1, 0, none⟩), .slice none 0 0, .slice none 0 0] ∧ t1 ∉ x1 :: y1 :: s1.sb :: s1.tb :: O1) (h2 : OxI W x2 y2 s2 1 2 2 O2 N2 L2 l2 [] ∧ Blk W t2 61 #[.pointer (some ⟨x2, 0, none⟩), .pointer (some ⟨y2, 0, none⟩), .slice none 0 0, .slice none 0 0] ∧ t2 ∉ x2 :: y2 :: s2.sb :: s2.tb :: O2) (h4 : N2 ≤ j ∧ L2 ≤ j) (h5 : ∀ b ∈ fpO t1 x1 y1 s1 O1, b ∉ fpO t2 x2 y2 s2 O2) (h6 : Below w.heap.size w W) (h7 : ∀ b, b ∈ fpO t1 x1 y1 s1 O1 ∨ b ∈ fpO t2 x2 y2 s2 O2 → w.heap.size ≤ b) (h9 : ∀ z ∈ ex, Vw 7 itC W z.1 z.2 ∧ ∀ b, z.1.ownBlock = some b → b ∉ fpO t1 x1 y1 s1 O1 ∧ b ∉ fpO t2 x2 y2 s2 O2 ∧ b < W.heap.size) (g1 : OxI W' x1 y1 s1 1 2 2 O1' N1' L1' l1' []) (g2 : N1' ≤ i ∧ L1' ≤ i) (hi : j ≤ i) (hK : Kp O1 W W') (hG : Gr O1 W.heap.size O1') : Od w W' t1 x1 y1 s1 t2 x2 y2 s2 i ex l1' l2 := by
 have sub : ∀ b, b ∈ O1 → b ∈ fpO t1 x1 y1 s1 O1 := fun b hb => by unfold fpO; simp [hb]
 have out : ∀ b, b < W.heap.size → b ∉ fpO t1 x1 y1 s1 O1 → b ∉ fpO t1 x1 y1 s1 O1' := fun b hb hn hm => by
  rcases fpO_grow hG hm with h | h
  ·exact hn h
  ·omega
 have lts2 : ∀ b ∈ fpO t2 x2 y2 s2 O2, b < W.heap.size := fun b hb => by
  rcases List.mem_cons.1 hb with rfl | hb
  ·exact h2.2.1.lt
  ·exact h2.1.lts b hb
 have no2 : ∀ b ∈ fpO t2 x2 y2 s2 O2, b ∉ O1 := fun b hb hm => h5 b (sub b hm) hb
 have h2' : OxI W' x2 y2 s2 1 2 2 O2 N2 L2 l2 [] := h2.1.of_blocks (fun b hb => hK.block b (lts2 b (List.mem_cons_of_mem _ hb)) (no2 b (List.mem_cons_of_mem _ hb)))
 have ht1 := h1.2.2
 simp only [List.mem_cons, not_or] at ht1
 refine ⟨O1', N1', L1', O2, N2, L2, ⟨g1, h1.2.1.kp hK ht1.2.2.2.2, ?_⟩, ⟨h2', h2.2.1.kp hK (no2 t2 (by unfold fpO; simp)), h2.2.2⟩, g2, by omega, fun b hb hm => ?_, h6.trans (hK.to_below h6.size (fun x hx => h7 x (.inl (sub x hx)))), fun b hb => ?_, fun z hz => ⟨(h9 z hz).1.kp4 hK fun b e hm => ((h9 z hz).2 b e).1 (sub b hm), fun b e => ⟨out b ((h9 z hz).2 b e).2.2 ((h9 z hz).2 b e).1, ((h9 z hz).2 b e).2.1, Nat.lt_of_lt_of_le ((h9 z hz).2 b e).2.2 hK.size⟩⟩⟩
 ·simp only [List.mem_cons, not_or]
  exact ⟨ht1.1, ht1.2.1, ht1.2.2.1, ht1.2.2.2.1, hG.out h1.2.1.lt ht1.2.2.2.2⟩
 ·rcases fpO_grow hG hb with h | h
  ·exact h5 b h hm
  ·have := lts2 b hm; omega
 ·rcases hb with hb | hb
  ·rcases fpO_grow hG hb with h | h
   ·exact h7 b (.inl h)
   ·exact Nat.le_trans h6.size h
  ·exact h7 b (.inr hb)
theorem od_put (h : Od w W t1 x1 y1 s1 t2 x2 y2 s2 j ex l1 l2) (hj : j ≤ 100) (a : It) (hl : a.c.length < 9223372036854775807) (ho : a.e.ok) :
  Calls Tryz.prog 34 #[.pointer (some ⟨x1, 0, none⟩), itV a] W fun e w' => ∃ er, e = .returned (.int .i64 er) ∧ Od w w' t1 x1 y1 s1 t2 x2 y2 s2 (j + 1) ex (stepO l1 a) l2 := by
 have h0 := h
 obtain ⟨O1, N1, L1, O2, N2, L2, h1, h2, h3, h4, h5, h6, h7, h9⟩ := h
 by_cases hr : a.right
 ·refine (oput_any h1.1 a hr ho (.inl (by omega))).mono ?_
  rintro e w' ⟨O', rfl, g1, g2, g3⟩
  refine ⟨_, rfl, ?_⟩
  unfold stepO
  rw [if_pos hr]
  exact Od.turn h1 h2 h4 h5 h6 h7 h9 g1 ⟨by omega, by omega⟩ (Nat.le_succ j) g2 g3
 ·refine (oput_no ⟨x1, 0, none⟩ a hl ho hr W).mono ?_
  rintro e w' ⟨rfl, hb⟩
  refine ⟨_, rfl, ?_⟩
  unfold stepO
  rw [if_neg hr]
  exact (h0.below hb).up (Nat.le_succ j)
theorem od_list (h : Od w W t1 x1 y1 s1 t2 x2 y2 s2 j ex l1 l2) (hj : j ≤ 1000) :
  Calls Tryz.prog 38 #[.pointer (some ⟨x1, 0, none⟩), .string ⟨#[]⟩, .string ⟨#[]⟩] W fun r w' => ∃ p c, r = .returned (.tuple #[.slice p l1.length c, .int .i64 0]) ∧ Od w w' t1 x1 y1 s1 t2 x2 y2 s2 j ((.slice p l1.length c, l1) :: ex) l1 l2 := by
 obtain ⟨O1, N1, L1, O2, N2, L2, h1, h2, h3, h4, h5, h6, h7, h9⟩ := h
 have hL := olist_any h1.1 (by have := h1.1.len; omega) [] [] (by simp) (by simp)
 rw [inside_all, show S [] = { data := #[] } from rfl] at hL
 refine hL.mono ?_
 rintro r w' ⟨v, rfl, g1, g2, g3⟩
 obtain ⟨p, c, rfl⟩ := own_slice2 g3
 have hO := Od.turn (ex := ex) h1 h2 h4 h5 h6 h7 h9 g1 h3 (Nat.le_refl _) g2 (Gr.refl _ _)
 have lts1 : ∀ b ∈ fpO t1 x1 y1 s1 O1, b < W.heap.size := fun b hb => by
  rcases List.mem_cons.1 hb with rfl | hb
  ·exact h1.2.1.lt
  ·exact h1.1.lts b hb
 have lts2 : ∀ b ∈ fpO t2 x2 y2 s2 O2, b < W.heap.size := fun b hb => by
  rcases List.mem_cons.1 hb with rfl | hb
  ·exact h2.2.1.lt
  ·exact h2.1.lts b hb
 have sub : ∀ b, b ∈ O1 → b ∈ fpO t1 x1 y1 s1 O1 := fun b hb => by unfold fpO; simp [hb]
 have no2 : ∀ b ∈ fpO t2 x2 y2 s2 O2, b ∉ O1 := fun b hb hm => h5 b (sub b hm) hb
 have ht1 := h1.2.2
 simp only [List.mem_cons, not_or] at ht1
 refine ⟨p, c, rfl, O1, N1, L1, O2, N2, L2, ⟨g1, h1.2.1.kp g2 ht1.2.2.2.2, h1.2.2⟩, ⟨h2.1.of_blocks (fun b hb => g2.block b (lts2 b (List.mem_cons_of_mem _ hb)) (no2 b (List.mem_cons_of_mem _ hb))), h2.2.1.kp g2 (no2 t2 (by unfold fpO; simp)), h2.2.2⟩, h3, h4, h5, h6.trans (g2.to_below h6.size (fun x hx => h7 x (.inl (sub x hx)))), h7, fun z hz => ?_⟩
 rcases List.mem_cons.1 hz with rfl | hz
 ·refine ⟨Vw.of_own itC_len g3 rfl, fun b e => ⟨fun hm => ?_, fun hm => ?_, (g3.lt b e).2⟩⟩
  ·have q1 := (g3.lt b e).1
   have q2 := lts1 b hm
   omega
  ·have q1 := (g3.lt b e).1
   have q2 := lts2 b hm
   omega
 ·exact ⟨(h9 z hz).1.kp4 g2 fun b e hm => ((h9 z hz).2 b e).1 (sub b hm), fun b e => ⟨((h9 z hz).2 b e).1, ((h9 z hz).2 b e).2.1, Nat.lt_of_lt_of_le ((h9 z hz).2 b e).2.2 g2.size⟩⟩
end
theorem Od.of {w W1 W2 : World} {t1 x1 y1 : Nat} {s1 : SL} {t2 x2 y2 : Nat} {s2 : SL} {O1 O2 : List Nat} (h1 : Tb w W1 t1 x1 y1 s1 O1 0 0 [] [] (.slice none 0 0) (.slice none 0 0)) (h2 : Tb W1 W2 t2 x2 y2 s2 O2 0 0 [] [] (.slice none 0 0) (.slice none 0 0)) : Od w W2 t1 x1 y1 s1 t2 x2 y2 s2 0 [] [] [] := by
 have lts1 : ∀ b ∈ fpO t1 x1 y1 s1 O1, b < W1.heap.size := fun b hb => by
  rcases List.mem_cons.1 hb with rfl | hb
  ·exact h1.t.lt
  ·exact h1.i.lts b hb
 refine ⟨O1, 0, 0, O2, 0, 0, ⟨h1.i.below h2.b, h1.t.below h2.b h1.t.lt, h1.nt⟩, ⟨h2.i, h2.t, h2.nt⟩, ⟨by omega, by omega⟩, ⟨by omega, by omega⟩, fun b hb hm => ?_, h1.b.trans (h2.b.mono h1.b.size), fun b hb => ?_, by simp⟩
 ·have q1 := lts1 b hb
  have q2 := h2.o b hm
  omega
 ·rcases hb with hb | hb
  ·exact h1.o b hb
  ·exact Nat.le_trans h1.b.size (h2.o b hb)
end
end Go.Proofs.YtnnghcooidjlhaaGreat
