/- Parts of the proof: Xza Xw Xy. -/
import Derived.Test.YtnnghcooidjlhaaGreatD35
import Derived.Test.YtnnghcooidjlhaaGreatD38
set_option linter.all false
set_option maxRecDepth 100000
namespace Go.Proofs.YtnnghcooidjlhaaGreat
section
open Go.RowKit Go.Lib
section
variable {w W W' : World} {ib : Nat} {s : SL} {lp : Int} {j : Nat} {kb : List (Nat × TypeId × Array Value)} {ex : List (Value × List Ix)} {l : List Ix}
theorem ib_forget (h : Ib w W ib s lp j kb ex l) (u : Bs) (hu : u.length ≤ 29) :
  Calls Tryz.prog 77 #[.pointer (some ⟨ib, 0, none⟩), .string (S u)] W fun r w' => r = .returned (.int .i64 0) ∧ Ib w w' ib s lp j kb ex (forgI l u) := by
 obtain ⟨O, N, c, h1, h2, h3, h4, h5, h6, h7, h8⟩ := h
 refine (iforget_any h1 u hu).mono ?_
 rintro r w' ⟨rfl, g1, g2⟩
 exact ⟨rfl, Ib.turn g1 h5 h6 h7 h8 h2 h3 (Nat.le_trans (List.length_filter_le _ _) h4) g2 (Gr.refl _ _)⟩
theorem ib_ahead (h : Ib w W ib s lp j kb ex l) (hj : j ≤ 1000) (o : Bs) (ho : o.length ≤ 29) :
  Calls Tryz.prog 72 #[.pointer (some ⟨ib, 0, none⟩), .string (S o)] W fun r w' => r = .returned (aheadV (aheadK l o)) ∧ Ib w w' ib s lp j kb ex l := by
 obtain ⟨O, N, c, h1, h2, h3, h4, h5, h6, h7, h8⟩ := h
 refine (iahead_any h1 (by omega) (by omega) o ho).mono ?_
 rintro r w' ⟨rfl, g1, g2⟩
 exact ⟨rfl, Ib.turn g1 h5 h6 h7 h8 h2 h3 h4 g2 (Gr.refl _ _)⟩
theorem ib_between (h : Ib w W ib s lp j kb ex l) (hj : j ≤ 1000) (a u : Bs) (ha : a.length ≤ 29) (hu : u.length ≤ 29) :
  Calls Tryz.prog 52 #[.pointer (some ⟨ib, 0, none⟩), .string (S a), .string (S u)] W fun r w' => ∃ p c kb', r = .returned (.tuple #[.slice p (betI l a u).length c, .int .i64 0]) ∧ Ib w w' ib s lp j (kb ++ kb') ex l ∧ (∀ z ∈ kb', W.heap.size ≤ z.1) ∧ ∀ V, (∀ z ∈ kb', Blk V z.1 z.2.1 z.2.2) → Vw 5 evC V (.slice p (betI l a u).length c) (betI l a u) := by
 obtain ⟨O, N, c, h1, h2, h3, h4, h5, h6, h7, h8⟩ := h
 refine (ibetween_any h1 (by omega) (by omega) a u ha hu).mono ?_
 rintro r w' ⟨v, rfl, g1, g2, g3⟩
 obtain ⟨O', N', c', k1, k2, k3, k4, k5, k6, k7, k8⟩ := Ib.turn g1 h5 h6 h7 h8 h2 h3 h4 g2 (Gr.refl _ _)
 obtain ⟨q1, q2⟩ := g3
 rcases q2 with ⟨rfl, hn⟩ | ⟨g, cap, cur, rfl, hb, hg, hr⟩
 ·refine ⟨none, 0, [], by rw [hn], ?_, by simp, fun V _ => ?_⟩
  ·rw [List.append_nil]
   exact Ib.turn g1 h5 h6 h7 h8 h2 h3 h4 g2 (Gr.refl _ _)
  ·rw [List.length_eq_zero_iff.1 hn]
   exact Vw.nil _ _ _ _ _
 ·have hi := Ib.turn g1 h5 h6 h7 h8 h2 h3 h4 g2 (Gr.refl _ _)
  refine ⟨_, cap, [(g, 67, cur)], rfl, ?_, by simpa using hb, fun V hV => ?_⟩
  ·refine ⟨O, N, c, g1, h2, h3, h4, k5, h6, fun z hz => ?_, ?_⟩
   ·rcases List.mem_append.1 hz with hz | hz
    ·exact ⟨(h7 z hz).1.kp g2 (fun hm => (h7 z hz).2.1 (by simp [hm])), (h7 z hz).2⟩
    ·rw [List.mem_singleton.1 hz]
     exact ⟨hg, fun hm => by have := h1.lts _ hm; have hb : W.heap.size ≤ g := hb; have : g < W.heap.size := this; omega, Nat.le_trans h5.size hb⟩
   ·intro z hz
    exact ⟨(h8 z hz).1.kpI g2 fun b e hm => ((h8 z hz).2 b e).1 (by simp [hm]), fun b e => ⟨((h8 z hz).2 b e).1, Nat.lt_of_lt_of_le ((h8 z hz).2 b e).2 g2.size⟩⟩
  ·exact Vw.of_own (fun _ => rfl) (B := W.heap.size) (T := 67) ⟨q1, .inr ⟨g, cap, cur, rfl, hb, hV (g, 67, cur) (by simp), hr⟩⟩ rfl
theorem Ib.turnR {W6 : World} {rb : Nat} {T T' : TypeId} {cs : Array Value} {v : Value} {l' : List Ix} (h : Ib w W ib s lp j ((rb, T, cs) :: kb) ex l) (hk : ∀ z ∈ kb, z.1 ≠ rb) (hb : Below W.heap.size W W6) (ho : W6.ownsRow W.heap.size T' 7 v l'.length (rowV rC l')) : Ib w (W6.setCell ⟨rb, 1, none⟩ v) ib s lp j ((rb, T, cs.setIfInBounds 1 v) :: kb) [(v, l')] l := by
 obtain ⟨O, N, c, h1, h2, h3, h4, h5, h6, h7, h8⟩ := h
 obtain ⟨k1, k2, k3⟩ := h7 (rb, T, cs) (by simp)
 have k1 : Blk W rb T cs := k1
 have k2 : rb ∉ ib :: s.sb :: s.tb :: O := k2
 have k3 : w.heap.size ≤ rb := k3
 have hne : ∀ b, v.ownBlock = some b → b ≠ rb := fun b e g => by
  have h9 := (ho.lt b e).1
  have h10 := k1.lt
  omega
 refine ⟨O, N, c, (h1.below hb).of_blocks (fun b hm => Below.heap_setCell _ _ _ _ (fun e => k2 (by rw [show rb = b from e.symm]; exact hm))), h2, h3, h4, (h5.trans (hb.mono h5.size)).setCell k3 _, h6, fun z hz => ?_, fun z hz => ?_⟩
 ·rcases List.mem_cons.1 hz with rfl | hz
  ·exact ⟨(k1.below hb k1.lt).set_ 1 v, k2, k3⟩
  ·obtain ⟨q1, q2, q3⟩ := h7 z (by simp [hz])
   exact ⟨(q1.below hb q1.lt).far (hk z hz) v, q2, q3⟩
 ·rw [List.mem_singleton.1 hz]
  refine ⟨(Vw.of_own rC_len ho rfl).of_block (fun b hlt e => Below.heap_setCell _ _ _ _ (hne b e)) (by simp [World.setCell]), fun b e => ⟨fun hm => ?_, by simpa [World.setCell] using (ho.lt b e).2⟩⟩
  have h9 := (ho.lt b e).1
  have h10 := h1.lts b hm
  omega
end
def NilOr (p : Option Addr) (n c : Nat) : Prop := (p = none ∧ n = 0 ∧ c = 0) ∨ ∃ b o, p = some ⟨b, o, none⟩
theorem NilOr.of_own {w : World} {B : Nat} {T : TypeId} {s n c : Nat} {p : Option Addr} {xs : List Value} (h : w.ownsRow B T s (.slice p n c) n xs) : NilOr p n c := by
 rcases h.2 with ⟨e, h0⟩ | ⟨g, cap, cur, e, _⟩
 ·injection e with e1 e2 e3
  exact .inl ⟨e1, h0, e3⟩
 ·injection e with e1 e2 e3
  exact .inr ⟨_, _, e1⟩
def Bo (w W : World) (ib : Nat) (s : SL) (rb j : Nat) (kb : List (Nat × TypeId × Array Value)) (l l' : List Ix) : Prop :=
 ∃ p n c, n = l'.length ∧ NilOr p n c ∧ Ib w W ib s 1 j ((rb, 144, #[.int .i64 1, .slice p n c]) :: kb) [(.slice p n c, l')] l ∧ ∀ z ∈ kb, z.1 ≠ rb
section
variable {w W W' : World} {ib : Nat} {s : SL} {rb j : Nat} {kb : List (Nat × TypeId × Array Value)} {l l' : List Ix}
theorem Bo.below (h : Bo w W ib s rb j kb l l') (hb : Below W.heap.size W W') : Bo w W' ib s rb j kb l l' := by
 obtain ⟨p, n, c, h1, h2, h3, h4⟩ := h
 exact ⟨p, n, c, h1, h2, h3.below hb, h4⟩
theorem Bo.fr (h : Bo w W ib s rb j kb l l') : Below w.heap.size w W := by
 obtain ⟨p, n, c, h1, h2, h3, h4⟩ := h
 exact h3.fr
theorem Bo.up (h : Bo w W ib s rb j kb l l') {i : Nat} (hi : j ≤ i) : Bo w W ib s rb i kb l l' := by
 obtain ⟨p, n, c, h1, h2, h3, h4⟩ := h
 exact ⟨p, n, c, h1, h2, h3.up hi, h4⟩
theorem Bo.drop (h : Bo w W ib s rb j kb l l') : Bo w W ib s rb j [] l l' := by
 obtain ⟨p, n, c, h1, h2, h3, h4⟩ := h
 exact ⟨p, n, c, h1, h2, h3.sub (fun z hz => by rw [List.mem_singleton.1 hz]; simp) (fun z hz => hz), by simp⟩
theorem Bo.box (h : Bo w W ib s rb j kb l l') (T : TypeId) (cs : Array Value) : Bo w (W.alloc (.cells cs T)) ib s rb j (kb ++ [(W.heap.size, T, cs)]) l l' := by
 obtain ⟨p, n, c, h1, h2, h3, h4⟩ := h
 have hlt := (h3.blk (z := (rb, 144, #[.int .i64 1, .slice p n c])) (by simp)).lt
 refine ⟨p, n, c, h1, h2, (h3.box T cs).sub (fun z hz => by
  simp only [List.mem_cons, List.mem_append, List.not_mem_nil, or_false] at hz ⊢
  rcases hz with h | h | h
  ·exact .inr (.inl h)
  ·exact .inr (.inr h)
  ·exact .inl h) (fun z hz => hz), fun z hz => ?_⟩
 rcases List.mem_append.1 hz with hz | hz
 ·exact h4 z hz
 ·rw [List.mem_singleton.1 hz]
  exact fun e => by rw [show (W.heap.size, T, cs).1 = W.heap.size from rfl] at e; rw [← e] at hlt; exact Nat.lt_irrefl _ hlt
theorem Bo.blk (h : Bo w W ib s rb j kb l l') {z : Nat × TypeId × Array Value} (hz : z ∈ kb) : Blk W z.1 z.2.1 z.2.2 := by
 obtain ⟨p, n, c, h1, h2, h3, h4⟩ := h
 exact h3.blk (by simp [hz])
theorem Bo.lp (h : Bo w W ib s rb j kb l l') : W.cell? ⟨rb, 0, none⟩ = some (.int .i64 1) := by
 obtain ⟨p, n, c, h1, h2, h3, h4⟩ := h
 exact (h3.blk (z := (rb, 144, #[.int .i64 1, .slice p n c])) (by simp)).cell 0
theorem Bo.rf (h : Bo w W ib s rb j kb l l') : ∃ p n c, RfB W rb 1 p n c l' ∧ NilOr p n c ∧ n = l'.length := by
 obtain ⟨p, n, c, h1, h2, h3, h4⟩ := h
 exact ⟨p, n, c, ⟨h3.blk (z := (rb, 144, #[.int .i64 1, .slice p n c])) (by simp), h3.vw (z := (.slice p n c, l')) (by simp), h1⟩, h2, h1⟩
theorem Bo.ok (h : Bo w W ib s rb j kb l l') : (∀ x ∈ l, x.fit 1) ∧ AscI l ∧ l.length ≤ j ∧ ∀ x ∈ l, x.n.natAbs ≤ j := by
 obtain ⟨p, n, c, h1, h2, h3, h4⟩ := h
 exact h3.ok
theorem Bo.begin (h : Ib w W ib s 1 0 [] [] []) : Bo w (W.alloc (.cells #[.int .i64 1, .slice none 0 0] 144)) ib s W.heap.size 0 [] [] [] := by
 have h1 := h.box 144 #[.int .i64 1, .slice none 0 0]
 obtain ⟨O, N, c, h1, h2, h3, h4, h5, h6, h7, h8⟩ := h1
 exact ⟨none, 0, 0, rfl, .inl ⟨rfl, rfl, rfl⟩, ⟨O, N, c, h1, h2, h3, h4, h5, h6, h7, fun z hz => by
  rw [List.mem_singleton.1 hz]
  exact ⟨Vw.nil _ _ _ _ _, fun b e => by simp [Value.ownBlock] at e⟩⟩, by simp⟩
theorem Bo.turnR {W6 : World} {T' : TypeId} {v : Value} {l2 : List Ix} (h : Bo w W ib s rb j kb l l') (hb : Below W.heap.size W W6) (ho : W6.ownsRow W.heap.size T' 7 v l2.length (rowV rC l2)) : Bo w (W6.setCell ⟨rb, 1, none⟩ v) ib s rb j kb l l2 := by
 obtain ⟨p, n, c, h1, h2, h3, h4⟩ := h
 obtain ⟨p2, c2, rfl⟩ := own_slice2 ho
 exact ⟨p2, _, c2, rfl, NilOr.of_own ho, h3.turnR h4 hb ho, h4⟩
theorem bo_add (h : Bo w W ib s rb j kb l l') (hj : j ≤ 100) (e : Ev) (a : Bool) (hr : e.right) (ho : e.ok) (hd : e.dst = 1) :
  Calls Tryz.prog 49 #[.pointer (some ⟨ib, 0, none⟩), msgV e a] W fun r w' => r = .returned (.tuple #[.int .i64 (cntI l (keyB e)), .int .i64 (cntI l (keyB e) + sgI a), .int .i64 0]) ∧ Bo w w' ib s rb (j + 1) kb (addI l e (sgI a)) l' := by
 obtain ⟨p, n, c, h1, h2, h3, h4⟩ := h
 exact (ib_add h3 hj e a hr ho hd).mono fun r w' ⟨g1, g2⟩ => ⟨g1, p, n, c, h1, h2, g2, h4⟩
theorem bo_add_no (h : Bo w W ib s rb j kb l l') (e : Ev) (a : Bool) (ho : e.ok) (hn : ¬ (e.right ∧ e.dst = 1)) :
  Calls Tryz.prog 49 #[.pointer (some ⟨ib, 0, none⟩), msgV e a] W fun r w' => r = .returned (.tuple #[.int .i64 0, .int .i64 0, .int .i64 2]) ∧ Bo w w' ib s rb j kb l l' := by
 obtain ⟨p, n, c, h1, h2, h3, h4⟩ := h
 exact (ib_add_no h3 e a ho hn).mono fun r w' ⟨g1, g2⟩ => ⟨g1, p, n, c, h1, h2, g2, h4⟩
theorem bo_forget (h : Bo w W ib s rb j kb l l') (u : Bs) (hu : u.length ≤ 29) :
  Calls Tryz.prog 77 #[.pointer (some ⟨ib, 0, none⟩), .string (S u)] W fun r w' => r = .returned (.int .i64 0) ∧ Bo w w' ib s rb j kb (forgI l u) l' := by
 obtain ⟨p, n, c, h1, h2, h3, h4⟩ := h
 exact (ib_forget h3 u hu).mono fun r w' ⟨g1, g2⟩ => ⟨g1, p, n, c, h1, h2, g2, h4⟩
theorem bo_next (h : Bo w W ib s rb j kb l l') (hj : j ≤ 1000) (a : Bs) (ha : a.length ≤ 29) :
  Calls Tryz.prog 51 #[.pointer (some ⟨ib, 0, none⟩), .string (S a)] W fun r w' => r = .returned (nextV (nextI l a)) ∧ Bo w w' ib s rb j kb l l' := by
 obtain ⟨p, n, c, h1, h2, h3, h4⟩ := h
 exact (ib_next h3 hj a ha).mono fun r w' ⟨g1, g2⟩ => ⟨g1, p, n, c, h1, h2, g2, h4⟩
theorem bo_ahead (h : Bo w W ib s rb j kb l l') (hj : j ≤ 1000) (a : Bs) (ha : a.length ≤ 29) :
  Calls Tryz.prog 72 #[.pointer (some ⟨ib, 0, none⟩), .string (S a)] W fun r w' => r = .returned (aheadV (aheadK l a)) ∧ Bo w w' ib s rb j kb l l' := by
 obtain ⟨p, n, c, h1, h2, h3, h4⟩ := h
 exact (ib_ahead h3 hj a ha).mono fun r w' ⟨g1, g2⟩ => ⟨g1, p, n, c, h1, h2, g2, h4⟩
theorem bo_between (h : Bo w W ib s rb j kb l l') (hj : j ≤ 1000) (a u : Bs) (ha : a.length ≤ 29) (hu : u.length ≤ 29) :
  Calls Tryz.prog 52 #[.pointer (some ⟨ib, 0, none⟩), .string (S a), .string (S u)] W fun r w' => ∃ p c kb', r = .returned (.tuple #[.slice p (betI l a u).length c, .int .i64 0]) ∧ Bo w w' ib s rb j (kb ++ kb') l l' ∧ ∀ V, (∀ z ∈ kb', Blk V z.1 z.2.1 z.2.2) → Vw 5 evC V (.slice p (betI l a u).length c) (betI l a u) := by
 obtain ⟨p, n, c, h1, h2, h3, h4⟩ := h
 have hlt := (h3.blk (z := (rb, 144, #[.int .i64 1, .slice p n c])) (by simp)).lt
 refine (ib_between h3 hj a u ha hu).mono fun r w' ⟨p', c', kb', g1, g2, g3, g4⟩ => ⟨p', c', kb', g1, ⟨p, n, c, h1, h2, g2, fun z hz => ?_⟩, g4⟩
 rcases List.mem_append.1 hz with hz | hz
 ·exact h4 z hz
 ·have := g3 z hz
  have hlt : rb < W.heap.size := hlt
  omega
theorem bo_counts (h : Bo w W ib s rb j kb l l') (hj : j ≤ 1000) :
  Calls Tryz.prog 50 #[.pointer (some ⟨ib, 0, none⟩)] W fun r w' => r = .returned (.tuple #[.int .i64 (moreI l), .int .i64 (l.length - moreI l : Nat), .int .i64 0]) ∧ Bo w w' ib s rb j kb l l' := by
 obtain ⟨p, n, c, h1, h2, h3, h4⟩ := h
 exact (ib_counts h3 hj).mono fun r w' ⟨g1, g2⟩ => ⟨g1, p, n, c, h1, h2, g2, h4⟩
end
end
section
open Go.RowKit Go.Lib
def byC (b : UInt8) : List Value := [.int .u8 (b.toNat : Int)]
theorem byC_len (b : UInt8) : (byC b).length = 1 := rfl
theorem byC_one (b : UInt8) : ∀ u ∈ byC b, u.oneCell' = true := by
 intro u hu
 simp [byC] at hu
 rw [hu]; rfl
theorem rowV_byC (l : Bs) : rowV byC l = cB l := by
 unfold rowV byC cB
 induction l with
 | nil => rfl
 | cons b l ih => rw [List.flatMap_cons, ih]; rfl
theorem own_by1 (w : World) {B : Nat} (hB : B ≤ w.heap.size) (b : UInt8) : (w.alloc (.cells #[.int .u8 (b.toNat : Int)] 5)).ownsRow B 5 1 (.slice (some ⟨w.heap.size, 0, none⟩) 1 1) 1 (rowV byC [b]) :=
 ⟨by simp [rowV, byC], .inr ⟨w.heap.size, 1, #[.int .u8 (b.toNat : Int)], rfl, hB, heap_alloc_new w _, Nat.le_refl _, by unfold maxLen; omega, by simp, by simp [rowV, byC]⟩⟩
set_option maxHeartbeats 4000000 in
theorem u01_any (n : Nat) (hn : n < 18446744073709551616) (w : World) :
  Calls Tryz.prog 164 #[.int .u64 n] w fun r w' => r = .returned (.string (S (be 8 n))) ∧ Below w.heap.size w w' := by
 have HN := hid hn
 clear hn
 go_enter Tryz.func164, Tryz.ntmps164
 go_wp2
 go_loopg [0, 3, 4] 8 (fun gg s0 s3 s4 wr => ∃ (j k d : Nat) (q : Option Addr), j ≤ 8 ∧ 8 - j ≤ gg ∧ k < 18446744073709551616 ∧ s0 = .int .u64 (k : Int) ∧ s3 = .slice q j d ∧ s4 = .int .i64 j ∧ Hid (k = n / 256 ^ j ∧ wr.ownsRow w.heap.size 5 1 (.slice q j d) j (rowV byC (be j n)) ∧ Below w.heap.size w wr))
 case atStart => exact ⟨0, n, _, _, by omega, by omega, HN.out, rfl, rfl, rfl, hid ⟨by simp, World.ownsRow_nil _ _ _ _, Below.refl _ _⟩⟩
 case round =>
  obtain ⟨j, k, d, q, hj, hgg, hk, rfl, rfl, rfl, HI⟩ := hrel
  by_cases hje : j < 8
  ·have hji : (j : Int) < 8 := by omega
   obtain ⟨b, hb⟩ : ∃ b, b = UInt8.ofNat k := ⟨_, rfl⟩
   have hbi : Int.tmod (k : Int) 256 = (b.toNat : Int) := by rw [hb, show ((256 : Int)) = ((256 : Nat) : Int) from rfl, ← Int.ofNat_tmod]; simp
   have hbl : (b.toNat : Int) < 256 := by have := b.toNat_lt; omega
   have hb0 : (0 : Int) ≤ (b.toNat : Int) := by omega
   have hw1 : IntKind.u64.wrap (b.toNat : Int) = (b.toNat : Int) := by rw [IntKind.wrap_u64]; omega
   have hw2 : IntKind.u8.wrap (b.toNat : Int) = (b.toNat : Int) := by rw [IntKind.wrap_u8]; omega
   have hq : Int.tdiv (k : Int) 256 = ((k / 256 : Nat) : Int) := by rw [show ((256 : Int)) = ((256 : Nat) : Int) from rfl, ← Int.ofNat_tdiv]
   have hw3 : IntKind.u64.wrap ((k / 256 : Nat) : Int) = ((k / 256 : Nat) : Int) := by rw [IntKind.wrap_u64]; omega
   have HB := hid hb
   have hkk : k / 256 < 18446744073709551616 := by omega
   clear hb
   go_wp2_with (with_reducible refine stopAt .append rfl ?_)
   with_reducible refine goOn ?_
   refine app_all rfl _ _ 129 rfl byC infU8 Tryz.underlying129 rfl (by decide) (by decide) byC_len byC_one (l := [b]) (l2 := be j n) (own_by1 wr HI.out.2.2.size b) ((Vw.of_own byC_len HI.out.2.1 (by simp)).below ((Below.refl _ wr).alloc (Nat.le_refl _) _)) (by rw [be_length]; omega) (Nat.le_trans HI.out.2.2.size (by simp)) rfl rfl ?_
   intro v' W6 hO6 hk6
   rw [be_length, show 1 + j = j + 1 by omega] at hO6
   obtain ⟨q6, d6, rfl⟩ := own_slice2 hO6
   have HI6 : Hid (k / 256 = n / 256 ^ (j + 1) ∧ W6.ownsRow w.heap.size 5 1 (.slice q6 (j + 1) d6) (j + 1) (rowV byC (be (j + 1) n)) ∧ Below w.heap.size w W6) := hid (by
    refine ⟨?_, ?_, ?_⟩
    ·rw [HI.out.1, Nat.div_div_eq_div_mul, Nat.pow_succ]
    ·rw [show be (j + 1) n = [b] ++ be j n by rw [HB.out, HI.out.1]; rfl]
     exact hO6
    ·exact (HI.out.2.2.alloc HI.out.2.2.size _).trans (hk6.to_below (HI.out.2.2.alloc HI.out.2.2.size _).size (fun g hm => ((own_by1 wr HI.out.2.2.size b).lt g (Option.mem_toList.1 hm)).1)))
   clear hO6 hk6 hbi hbl hb0 hw1 hw2
   go_wp2
   go_roundg (8 - (j + 1))
   case measure => omega
   case rel => exact ⟨j + 1, k / 256, _, _, by omega, by omega, hkk, rfl, rfl, by go_num, HI6⟩
  ·have hji : ¬ ((j : Int) < 8) := by omega
   have hj8 : j = 8 := by omega
   subst hj8
   have HC := own_string (b := be 8 n) (by have h1 := HI.out.2.1; rw [rowV_byC] at h1; rw [be_length]; exact h1)
   go_wp2
   go_ret
   exact ⟨rfl, HI.out.2.2⟩
theorem i01_any (x : Int) (w : World) :
  Calls Tryz.prog 123 #[.int .i64 x] w fun r w' => r = .returned (.string (S (be 8 ((x + 9223372036854775808) % 18446744073709551616).toNat))) ∧ Below w.heap.size w w' := by
 have h1 := wrap_u64_i x
 have HU := hid (u01_any ((x + 9223372036854775808) % 18446744073709551616).toNat (by omega))
 obtain ⟨m, hm⟩ : ∃ m, m = ((x + 9223372036854775808) % 18446744073709551616).toNat := ⟨_, rfl⟩
 rw [← hm] at h1 HU ⊢
 clear hm
 go_enter Tryz.func123, Tryz.ntmps123
 go_wp2_with (go_at_call 164; refine (HU.out _).mono ?_; rintro r W1 ⟨rfl, hb1⟩)
 go_ret
 exact ⟨rfl, hb1⟩
theorem i01_ok (x : Int) (h0 : -9223372036854775808 ≤ x) (h1 : x < 9223372036854775808) (w : World) :
  Calls Tryz.prog 123 #[.int .i64 x] w fun r w' => r = .returned (.string (S (encI x))) ∧ Below w.heap.size w w' := by
 have h := i01_any x w
 rw [show ((x + 9223372036854775808) % 18446744073709551616).toNat = (x + 9223372036854775808).toNat by omega] at h
 exact h
end
section
open Go.RowKit Go.Lib
theorem flt0_tn {t : Nat} (h : fnan t = false) (ht : t < 18446744073709551616) : flt (tn t) 0 = decide (9223372036854775808 ≤ tn t) := by
 have hn : fnan (tn t) = false := by rw [fnan_tn]; exact h
 have hl := tn_lt ht
 have hne := tn_ne t
 rw [flt_key hn (by decide), show fkey 0 = 0 from rfl, decide_eq_decide]
 generalize tn t = x at *
 unfold fkey
 split <;> rename_i h1 <;> (try rw [beq_iff_eq] at h1) <;> omega
set_option maxHeartbeats 4000000 in
theorem key02_any (t : Nat) (src n : Int) (h : fnan t = false) (ht : t < 18446744073709551616) (hs : -9223372036854775808 ≤ src ∧ src < 9223372036854775808) (hn : -9223372036854775808 ≤ n ∧ n < 9223372036854775808) (w : World) :
  Calls Tryz.prog 122 #[.agg #[.float .f64 t, .int .i64 src, .int .i64 n]] w fun e w' => e = .returned (.tuple #[.string (S (timeB t ++ encI src ++ encI n)), .int .i64 0]) ∧ Below w.heap.size w w' := by
 have HN := hid (fun W => norm02_any t h ht W)
 have hlt := tn_lt ht
 have htk := tkey_lt ht
 have hf := flt0_tn h ht
 obtain ⟨x, hx⟩ : ∃ x, x = tn t := ⟨_, rfl⟩
 rw [← hx] at HN hlt hf
 have HTK : tkey t = if x < 9223372036854775808 then x + 9223372036854775808 else 18446744073709551615 - x := by rw [hx]; rfl
 obtain ⟨y, hy⟩ : ∃ y, y = tkey t := ⟨_, rfl⟩
 rw [← hy] at HTK htk
 have hyB : timeB t = be 8 y := by rw [hy]; rfl
 rw [hyB]
 obtain ⟨W1, hW1⟩ : ∃ W1, W1 = w.alloc (.cells #[.float .f64 t, .int .i64 src, .int .i64 n] 65) := ⟨_, rfl⟩
 have hb1 : Below w.heap.size w W1 := by rw [hW1]; exact (Below.refl _ w).alloc (Nat.le_refl _) _
 have hB1 : Blk W1 w.heap.size 65 #[.float .f64 t, .int .i64 src, .int .i64 n] := by rw [hW1]; exact Blk.new w _ _
 have HCL : Hid (∀ W, BelC W1 W → W.cell? ⟨w.heap.size, 0, none⟩ = some (.float .f64 t) ∧ W.cell? ⟨w.heap.size, 1, none⟩ = some (.int .i64 src) ∧ W.cell? ⟨w.heap.size, 2, none⟩ = some (.int .i64 n)) := hid fun W hW => by
  have h1 := hW.blk hB1
  exact ⟨h1.cell 0, h1.cell 1, h1.cell 2⟩
 have H1 := hid (BelC.call (W1 := W1) (u01_any y htk))
 have H2 := hid (BelC.call (W1 := W1) (i01_ok src hs.1 hs.2))
 have H3 := hid (BelC.call (W1 := W1) (i01_ok n hn.1 hn.2))
 have HC0 := hid (BelC.drew W1)
 have HF := hid hb1
 clear h ht hs hn htk hx hy hyB hb1 hB1
 by_cases hc : x < 9223372036854775808
 ·rw [if_pos hc] at HTK
  rw [decide_eq_false (show ¬ 9223372036854775808 ≤ x by omega)] at hf
  have hor : IntKind.u64.wrap ((x : Int) + 9223372036854775808) = (y : Int) := by rw [IntKind.wrap_u64]; omega
  clear hc HTK hlt
  go_enter Tryz.func122, Tryz.ntmps122
  go_wp2_with (go_at_call 97; refine (HN.out _).mono ?_; rintro e w' ⟨rfl, rfl⟩)
  rw [← hW1]
  clear hW1
  refine qC_region (by kernel_rfl) (by kernel_rfl) (BelC W1) HC0.out ?_
  repeat (first | (refine qC_none rfl (fun K hK => ?_); apply Exists.intro; refine ⟨fun w0 hw0 => ?_, ?_⟩; (focus (obtain ⟨q0, q1, q2⟩ := HCL.out w0 hw0; go_simp; first | exact rfl | exact ⟨rfl, rfl⟩ | (first | exact H1.out w0 hw0 | exact H2.out w0 hw0 | exact H3.out w0 hw0))); go_simp; refine hK _ ?_; clear hK K) | (refine qC_yes _ _ _ rfl rfl (by rfl) (fun K hK => ?_); apply Exists.intro; refine ⟨fun w0 hw0 => ?_, ?_⟩; (focus (obtain ⟨q0, q1, q2⟩ := HCL.out w0 hw0; go_simp; first | exact rfl | exact ⟨rfl, rfl⟩ | (first | exact H1.out w0 hw0 | exact H2.out w0 hw0 | exact H3.out w0 hw0))); go_simp; refine hK _ ?_; clear hK K) | (refine qC_no _ _ _ rfl rfl (by rfl) (fun K hK => ?_); go_simp; refine hK _ ?_; clear hK K) | (refine qC_undef _ _ _ rfl rfl (by rfl) (fun K hK => ?_); go_simp; refine hK _ ?_; clear hK K))
  refine qC_nil ?_
  intro w5 hw5
  have H5 := hid (HF.out.trans (hw5.out.mono HF.out.size))
  clear hw5
  go_wp2
  go_ret2
  exact ⟨rfl, H5.out⟩
 ·rw [if_neg hc] at HTK
  rw [decide_eq_true (show 9223372036854775808 ≤ x by omega)] at hf
  have hor : IntKind.u64.wrap (18446744073709551615 - (x : Int)) = (y : Int) := by rw [IntKind.wrap_u64]; omega
  clear hc HTK hlt
  go_enter Tryz.func122, Tryz.ntmps122
  go_wp2_with (go_at_call 97; refine (HN.out _).mono ?_; rintro e w' ⟨rfl, rfl⟩)
  rw [← hW1]
  clear hW1
  refine qC_region (by kernel_rfl) (by kernel_rfl) (BelC W1) HC0.out ?_
  repeat (first | (refine qC_none rfl (fun K hK => ?_); apply Exists.intro; refine ⟨fun w0 hw0 => ?_, ?_⟩; (focus (obtain ⟨q0, q1, q2⟩ := HCL.out w0 hw0; go_simp; first | exact rfl | exact ⟨rfl, rfl⟩ | (first | exact H1.out w0 hw0 | exact H2.out w0 hw0 | exact H3.out w0 hw0))); go_simp; refine hK _ ?_; clear hK K) | (refine qC_yes _ _ _ rfl rfl (by rfl) (fun K hK => ?_); apply Exists.intro; refine ⟨fun w0 hw0 => ?_, ?_⟩; (focus (obtain ⟨q0, q1, q2⟩ := HCL.out w0 hw0; go_simp; first | exact rfl | exact ⟨rfl, rfl⟩ | (first | exact H1.out w0 hw0 | exact H2.out w0 hw0 | exact H3.out w0 hw0))); go_simp; refine hK _ ?_; clear hK K) | (refine qC_no _ _ _ rfl rfl (by rfl) (fun K hK => ?_); go_simp; refine hK _ ?_; clear hK K) | (refine qC_undef _ _ _ rfl rfl (by rfl) (fun K hK => ?_); go_simp; refine hK _ ?_; clear hK K))
  refine qC_nil ?_
  intro w5 hw5
  have H5 := hid (HF.out.trans (hw5.out.mono HF.out.size))
  clear hw5
  go_wp2
  go_ret2
  exact ⟨rfl, H5.out⟩
end
end Go.Proofs.YtnnghcooidjlhaaGreat
