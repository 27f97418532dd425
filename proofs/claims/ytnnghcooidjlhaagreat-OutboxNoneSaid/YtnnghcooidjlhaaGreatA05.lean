/- Parts of the proof: Rw Po Pp Pr Pq. -/
import Derived.Laws.Cells
import Derived.Lib.SliceRun
import Derived.Deep.MidRow
import Derived.Deep.OwnRows
import Derived.Deep.LoopGhost
import Derived.Lib.Hide
import Derived.Shelf.Abstract
import Derived.Test.YtnnghcooidjlhaaGreatA01
import Derived.Test.YtnnghcooidjlhaaGreatA04
set_option linter.all false
section
set_option linter.unusedSimpArgs false
namespace Go.Proofs.YtnnghcooidjlhaaGreat
open Go.RowKit Go.Lib
section
variable {α : Type} {enc : α → List Value} {k : Nat}
def rowV (enc : α → List Value) (l : List α) : List Value := l.flatMap enc
@[simp] theorem rowV_nil : rowV enc [] = [] := rfl
@[simp] theorem rowV_cons (x : α) (l : List α) : rowV enc (x :: l) = enc x ++ rowV enc l := rfl
@[simp] theorem rowV_append (a b : List α) : rowV enc (a ++ b) = rowV enc a ++ rowV enc b := by simp [rowV]
theorem rowV_length (hk : ∀ x, (enc x).length = k) (l : List α) : (rowV enc l).length = l.length * k := by
  induction l with
  | nil => simp
  | cons x l ih => rw [rowV_cons, List.length_append, hk, ih, List.length_cons, Nat.succ_mul, Nat.add_comm]
theorem rowV_get (hk : ∀ x, (enc x).length = k) : ∀ (l : List α) (i : Nat) (x : α), l[i]? = some x → ∀ j, j < k → (rowV enc l)[i * k + j]? = (enc x)[j]?
  | [], i, x, h, j, hj => by simp at h
  | y :: l, 0, x, h, j, hj => by
    simp at h; subst h
    rw [rowV_cons, Nat.zero_mul, Nat.zero_add, List.getElem?_append_left (by rw [hk]; exact hj)]
  | y :: l, i + 1, x, h, j, hj => by
    rw [rowV_cons, List.getElem?_append_right (by rw [hk, Nat.succ_mul]; omega), hk, show (i + 1) * k + j - k = i * k + j by rw [Nat.succ_mul]; omega]
    exact rowV_get hk l i x (by simpa using h) j hj
theorem rowV_set (hk : ∀ x, (enc x).length = k) : ∀ (l : List α) (i : Nat) (x y : α) (j : Nat) (v : Value), l[i]? = some x → j < k → enc y = (enc x).set j v → (rowV enc l).set (i * k + j) v = rowV enc (l.set i y)
  | [], i, x, y, j, v, h, hj, e => by simp at h
  | z :: l, 0, x, y, j, v, h, hj, e => by
    simp at h; subst h
    rw [rowV_cons, Nat.zero_mul, Nat.zero_add, List.set_append_left _ _ (by rw [hk]; exact hj), List.set_cons_zero, rowV_cons, e]
  | z :: l, i + 1, x, y, j, v, h, hj, e => by
    rw [rowV_cons, List.set_append_right _ _ (by rw [hk, Nat.succ_mul]; omega), hk, show (i + 1) * k + j - k = i * k + j by rw [Nat.succ_mul]; omega, List.set_cons_succ, rowV_cons]
    rw [rowV_set hk l i x y j v (by simpa using h) hj e]
theorem rowV_take (hk : ∀ x, (enc x).length = k) : ∀ (l : List α) (i : Nat), (rowV enc l).take (i * k) = rowV enc (l.take i)
  | [], i => by simp
  | y :: l, 0 => by simp
  | y :: l, i + 1 => by
    rw [rowV_cons, List.take_append, List.take_succ_cons, rowV_cons, hk, List.take_of_length_le (by rw [hk, Nat.succ_mul]; omega), show (i + 1) * k - k = i * k by rw [Nat.succ_mul]; omega, rowV_take hk l i]
theorem rowV_drop (hk : ∀ x, (enc x).length = k) : ∀ (l : List α) (i : Nat), (rowV enc l).drop (i * k) = rowV enc (l.drop i)
  | [], i => by simp
  | y :: l, 0 => by simp
  | y :: l, i + 1 => by
    rw [rowV_cons, List.drop_append, List.drop_succ_cons, hk, List.drop_eq_nil_of_le (by rw [hk, Nat.succ_mul]; omega), show (i + 1) * k - k = i * k by rw [Nat.succ_mul]; omega, rowV_drop hk l i, List.nil_append]
theorem rowV_one (h1 : ∀ x, ∀ u ∈ enc x, u.oneCell' = true) (l : List α) : ∀ u ∈ rowV enc l, u.oneCell' = true := by
  intro u hu
  obtain ⟨x, _, hx⟩ := List.mem_flatMap.1 hu
  exact h1 x u hx
end
theorem run_cells (P : Program) (W : World) (a : Addr) (cs : List Value) (k : Nat) (hk : cs.length = k) (h : ∀ j v, cs[j]? = some v → W.cell? (a.add j) = some v) :
    Sem.run P (loadCellsFrom a 0 k #[]) W = .ok cs.toArray W := by
  have := run_loadCells_list (P := P) (w := W) a cs h
  rw [hk] at this
  simpa [loadCells] using this
theorem news_of {W : World} {g : Nat} {T : TypeId} {cs : List Value} (h : Blk W g T cs.toArray) : ∀ j u, cs[j]? = some u → W.cell? ((⟨g, 0, none⟩ : Addr).add j) = some u := by
  intro j u hj
  rw [Addr.add_mid, Nat.zero_add, h.cell]
  simpa using hj
theorem own_at {w : World} {B : Nat} {T : TypeId} {s n : Nat} {v : Value} {xs : List Value} {g : Nat} {c : Nat} (h : w.ownsRow B T s v n xs) (hv : v = .slice (some ⟨g, 0, none⟩) n c) {j : Nat} {u : Value} (hj : xs[j]? = some u) : w.cell? ⟨g, j, none⟩ = some u := by
  have := h.cells (g := g) (by rw [hv]; rfl) j u hj
  rwa [Addr.add_mid, Nat.zero_add] at this
theorem own_form {w : World} {B : Nat} {T : TypeId} {s n : Nat} {v : Value} {xs : List Value} (h : w.ownsRow B T s v n xs) (hn : 0 < n) : ∃ g c, v = .slice (some ⟨g, 0, none⟩) n c ∧ B ≤ g ∧ g < w.heap.size ∧ n ≤ c := by
  rcases h.2 with ⟨_, h0⟩ | ⟨g, cap, cur, hv, hb, hg, hn2, _⟩
  · omega
  · exact ⟨g, cap, hv, hb, (Array.getElem?_eq_some_iff.1 hg).1, hn2⟩
end Go.Proofs.YtnnghcooidjlhaaGreat
end
section
set_option linter.unusedSimpArgs false
set_option maxRecDepth 100000
namespace Go.Proofs.YtnnghcooidjlhaaGreat
open Go.RowKit Go.Lib
structure Fr where
  page : Int
  pay : Bs
  held : Int
  dirty : Bool
  used : Bool
def frC (x : Fr) : List Value := [.int .i64 x.page, .string (S x.pay), .int .i64 x.held, .bool x.dirty, .bool x.used]
theorem frC_len (x : Fr) : (frC x).length = 5 := rfl
structure PL where
  S : ShL
  p : Nat
  f : Nat
  cap : Nat
structure FrI (w : World) (P : PL) (l : List Fr) (hand : Nat) : Prop where
  c : Blk w P.p 267 #[.pointer (some ⟨P.S.s, 0, none⟩), .slice (some ⟨P.f, 0, none⟩) 5 P.cap, .int .i64 hand]
  r : w.ownsRow 0 269 5 (.slice (some ⟨P.f, 0, none⟩) 5 P.cap) 5 (rowV frC l)
  n : l.length = 5
  h : hand < 5
  ne : P.p ≠ P.f
section
variable {w w' : World} {P : PL} {l : List Fr} {hand : Nat}
theorem FrI.of_blocks (h : FrI w P l hand) (e1 : w'.heap[P.p]? = w.heap[P.p]?) (e2 : w'.heap[P.f]? = w.heap[P.f]?) : FrI w' P l hand :=
  ⟨e1.trans h.c, row_of h.r (fun b hb => by
    have : P.f = b := by simpa [Value.ownBlock] using hb
    subst this
    exact e2), h.n, h.h, h.ne⟩
theorem FrI.f_lt (h : FrI w P l hand) : P.f < w.heap.size := (h.r.lt P.f rfl).2
theorem FrI.cell (h : FrI w P l hand) {i j : Nat} {x : Fr} {v : Value} (hi : l[i]? = some x) (hj : j < 5) (hv : (frC x)[j]? = some v) : w.cell? ⟨P.f, i * 5 + j, none⟩ = some v := by
  have := h.r.cells (g := P.f) rfl (i * 5 + j) v (by rw [rowV_get frC_len l i x hi j hj]; exact hv)
  rwa [Addr.add_mid, Nat.zero_add] at this
theorem FrI.frozen (h : FrI w P l hand) (j : Nat) : w.frozen? ⟨P.f, j, none⟩ = false := h.r.frozenAt _
theorem FrI.c0 (h : FrI w P l hand) : w.cell? ⟨P.p, 0, none⟩ = some (.pointer (some ⟨P.S.s, 0, none⟩)) := by rw [h.c.cell]; rfl
theorem FrI.c1 (h : FrI w P l hand) : w.cell? ⟨P.p, 1, none⟩ = some (.slice (some ⟨P.f, 0, none⟩) 5 P.cap) := by rw [h.c.cell]; rfl
theorem FrI.c2 (h : FrI w P l hand) : w.cell? ⟨P.p, 2, none⟩ = some (.int .i64 hand) := by rw [h.c.cell]; rfl
theorem FrI.below (h : FrI w P l hand) (hb : Below w.heap.size w w') : FrI w' P l hand := h.of_blocks (hb.block _ h.c.lt) (hb.block _ h.f_lt)
theorem FrI.kp {O : List Nat} (h : FrI w P l hand) (hk : Kp O w w') (h1 : P.p ∉ O) (h2 : P.f ∉ O) : FrI w' P l hand := h.of_blocks (hk.block _ h.c.lt h1) (hk.block _ h.f_lt h2)
theorem FrI.set_ (h : FrI w P l hand) {i j : Nat} {x y : Fr} {v : Value} (hi : l[i]? = some x) (hj : j < 5) (hy : frC y = (frC x).set j v) : FrI (w.setCell ⟨P.f, i * 5 + j, none⟩ v) P (l.set i y) hand := by
  refine ⟨h.c.far (p := ⟨P.f, i * 5 + j, none⟩) h.ne v, ?_, by simpa using h.n, h.h, h.ne⟩
  have := (h.r.stored (i * 5 + j) v).1
  refine own_eq this rfl ?_
  exact rowV_set frC_len l i x y j v hi hj hy
theorem FrI.hand_ (h : FrI w P l hand) {m : Nat} (hm : m < 5) : FrI (w.setCell ⟨P.p, 2, none⟩ (.int .i64 m)) P l m :=
  ⟨by simpa using h.c.set_ 2 (.int .i64 m), row_of h.r (fun b hb => by
    have : P.f = b := by simpa [Value.ownBlock] using hb
    subst this
    exact Below.heap_setCell _ ⟨P.p, 2, none⟩ _ _ (Ne.symm h.ne)), h.n, hm, h.ne⟩
theorem FrI.get (h : FrI w P l hand) {i : Nat} (hi : i < 5) : ∃ x, l[i]? = some x := ⟨l[i]'(by rw [h.n]; exact hi), List.getElem?_eq_getElem _⟩
end
set_option maxHeartbeats 1000000 in
theorem frames_index (g : Nat) (lb : Array Value) (p : Fr → Bool) (eg : ∀ args w, (callFunc g args).run Tryz.prog w = .ok (.enter g args) w) (b c : Nat) (zs : List Fr) (w : World) (hb : b < w.heap.size) (hn : zs.length = 5)
    (hp : ∀ (W : World) (x : Fr), Below w.heap.size w W → Calls Tryz.prog g (#[.agg (frC x).toArray] ++ lb) W fun e w' => e = .returned (.bool (p x)) ∧ Below w.heap.size w w')
    (hc : ∀ (j : Nat) u, (rowV frC zs)[j]? = some u → w.cell? ⟨b, j, none⟩ = some u) :
    Calls Tryz.prog 270 #[.slice (some ⟨b, 0, none⟩) 5 c, .func (.func g) #[] lb] w fun e w' => Below w.heap.size w w' ∧
      ((e = .returned (.int .i64 (-1)) ∧ ∀ (j : Nat) x, zs[j]? = some x → p x = false) ∨ ∃ (k : Nat) (x : Fr), k < 5 ∧ e = .returned (.int .i64 k) ∧ zs[k]? = some x ∧ p x = true) := by
  have hrow : ∀ (W : World), Below w.heap.size w W → ∀ (j : Nat) x, zs[j]? = some x → ∀ (i : Nat) v, (frC x)[i]? = some v → W.cell? ⟨b, j * 5 + i, none⟩ = some v := fun W hW j x hj i v hi => by
    have hi5 : i < 5 := by have := (List.getElem?_eq_some_iff.1 hi).1; rwa [frC_len] at this
    rw [hW.cell (p := ⟨b, j * 5 + i, none⟩) hb]
    exact hc _ v (by rw [rowV_get frC_len zs j x hj i hi5]; exact hi)
  clear hc
  have HP := hid hp
  have HR := hid hrow
  clear hp hrow
  go_enter Tryz.func270, Tryz.ntmps270
  go_wp2
  go_loopg [5, 8] 5 (fun gg _ s8 wr => ∃ kk : Nat, kk ≤ 5 ∧ 5 - kk ≤ gg ∧ s8 = .int .i64 kk ∧ Hid (Below w.heap.size w wr) ∧ Hid (∀ (j : Nat) x, j < kk → zs[j]? = some x → p x = false))
  case atStart => exact ⟨0, Nat.zero_le _, by omega, rfl, Below.refl _ w, fun j x hj => absurd hj (Nat.not_lt_zero _)⟩
  case round =>
    obtain ⟨kk, hkk, hg, rfl, BW, A⟩ := hrel
    by_cases hlt : kk < 5
    · have hltz : (kk : Int) < 5 := by omega
      obtain ⟨x, hx⟩ : ∃ x, zs[kk]? = some x := ⟨zs[kk]'(by omega), List.getElem?_eq_getElem _⟩
      have l0 : wr.cell? ⟨b, kk * 5, none⟩ = some (.int .i64 x.page) := HR.out wr BW.out kk x hx 0 _ rfl
      have l1 : wr.cell? ⟨b, kk * 5 + 1, none⟩ = some (.string (S x.pay)) := HR.out wr BW.out kk x hx 1 _ rfl
      have l2 : wr.cell? ⟨b, kk * 5 + 2, none⟩ = some (.int .i64 x.held) := HR.out wr BW.out kk x hx 2 _ rfl
      have l3 : wr.cell? ⟨b, kk * 5 + 3, none⟩ = some (.bool x.dirty) := HR.out wr BW.out kk x hx 3 _ rfl
      have l4 : wr.cell? ⟨b, kk * 5 + 4, none⟩ = some (.bool x.used) := HR.out wr BW.out kk x hx 4 _ rfl
      have hcall := HP.out wr x BW.out
      have hcall : Calls Tryz.prog g (#[.agg #[.int .i64 x.page, .string (S x.pay), .int .i64 x.held, .bool x.dirty, .bool x.used]] ++ lb) wr fun e w' => e = .returned (.bool (p x)) ∧ Below w.heap.size w w' := hcall
      have HX := hid hx
      clear hx
      cases hq : p x with
      | true =>
        rw [hq] at hcall
        go_wp2_with (go_at_fn g; refine hcall.mono ?_; rintro e w' ⟨rfl, hb'⟩)
        go_ret
        exact ⟨hb', .inr ⟨kk, x, hlt, rfl, HX.out, hq⟩⟩
      | false =>
        rw [hq] at hcall
        go_wp2_with (go_at_fn g; refine hcall.mono ?_; rintro e w' ⟨rfl, hb'⟩)
        go_roundg (5 - (kk + 1))
        case measure => omega
        case rel =>
          refine ⟨kk + 1, by omega, by omega, by go_num, hid hb', hid (fun j y hj hy => ?_)⟩
          by_cases e : j = kk
          · subst e
            rw [HX.out] at hy
            injection hy with hy
            rw [← hy]; exact hq
          · exact A.out j y (by omega) hy
    · have hltz : ¬ (kk : Int) < 5 := by omega
      go_wp2
      go_ret
      exact ⟨BW.out, .inl ⟨rfl, fun j x hj => A.out j x (by
        have := (List.getElem?_eq_some_iff.1 hj).1
        omega) hj⟩⟩
theorem find1 (l : Int) (B : Nat) (w0 : World) (hB : B < w0.heap.size) (hcell : w0.cell? ⟨B, 0, none⟩ = some (.int .i64 l)) (W : World) (x : Fr) (hb : Below w0.heap.size w0 W) :
    Calls Tryz.prog 271 (#[.agg (frC x).toArray] ++ #[.pointer (some ⟨B, 0, none⟩)]) W fun e w' => e = .returned (.bool (decide (x.page = l))) ∧ Below w0.heap.size w0 w' := by
  have hc : W.cell? ⟨B, 0, none⟩ = some (.int .i64 l) := (hb.cell (p := ⟨B, 0, none⟩) hB).trans hcell
  have hBW : B < W.heap.size := Nat.lt_of_lt_of_le hB hb.size
  have hne : B ≠ W.heap.size := by omega
  have HB := hid hb
  clear hb hcell
  show Calls Tryz.prog 271 #[.agg #[.int .i64 x.page, .string (S x.pay), .int .i64 x.held, .bool x.dirty, .bool x.used], .pointer (some ⟨B, 0, none⟩)] W _
  go_enter Tryz.func271, Tryz.ntmps271
  go_wp2
  go_ret
  exact ⟨rfl, HB.out.alloc HB.out.size _⟩
theorem victim1 (w0 : World) (W : World) (x : Fr) (hb : Below w0.heap.size w0 W) :
    Calls Tryz.prog 285 (#[.agg (frC x).toArray] ++ #[]) W fun e w' => e = .returned (.bool (decide (x.page < 0))) ∧ Below w0.heap.size w0 w' := by
  have HB := hid hb
  clear hb
  show Calls Tryz.prog 285 #[.agg #[.int .i64 x.page, .string (S x.pay), .int .i64 x.held, .bool x.dirty, .bool x.used]] W _
  go_enter Tryz.func285, Tryz.ntmps285
  go_wp2
  go_ret
  exact ⟨rfl, HB.out.alloc HB.out.size _⟩
section
variable {w : World} {P : PL} {l : List Fr} {hand : Nat}
theorem FrI.row (h : FrI w P l hand) : ∀ (j : Nat) u, (rowV frC l)[j]? = some u → w.cell? ⟨P.f, j, none⟩ = some u := fun j u hu => by
  have := h.r.cells (g := P.f) rfl j u hu
  rwa [Addr.add_mid, Nat.zero_add] at this
theorem po_find (h : FrI w P l hand) (q : Nat) :
    Calls Tryz.prog 247 #[.pointer (some ⟨P.p, 0, none⟩), .int .i64 q] w fun e w' => Below w.heap.size w w' ∧
      ((e = .returned (.int .i64 (-1)) ∧ ∀ (j : Nat) x, l[j]? = some x → x.page ≠ q) ∨ ∃ (k : Nat) (x : Fr), k < 5 ∧ e = .returned (.int .i64 k) ∧ l[k]? = some x ∧ x.page = q) := by
  have c1 := h.c1
  have hpl := h.c.lt
  have eg : ∀ args w, (callFunc 271 args).run Tryz.prog w = .ok (.enter 271 args) w := enters_of Tryz.func271 (by kernel_rfl) rfl
  have hB : Below w.heap.size w (w.alloc (.cells #[.int .i64 q] 3)) := (Below.refl _ w).alloc (Nat.le_refl _) _
  have hq : (w.alloc (.cells #[.int .i64 q] 3)).cell? ⟨w.heap.size, 0, none⟩ = some (.int .i64 q) := by simp [go_sem]
  have hcon := frames_index 271 #[.pointer (some ⟨w.heap.size, 0, none⟩)] (fun x => decide (x.page = q)) eg P.f P.cap l (w.alloc (.cells #[.int .i64 q] 3)) (by have := h.f_lt; simp; omega) h.n
    (fun W x hb => find1 q w.heap.size _ (by simp) hq W x hb) (h.below hB).row
  have HC := hid hcon
  have HB := hid hB
  clear hcon hB eg hq h
  have hq0 : ¬ (q : Int) < 0 := by omega
  go_enter Tryz.func247, Tryz.ntmps247
  go_wp2_with fail
  refine HC.out.mono ?_
  rintro e w' ⟨hb, hx⟩
  have hb2 : Below w.heap.size w w' := HB.out.trans (hb.mono (by simp))
  rcases hx with ⟨rfl, hx⟩ | ⟨k, x, hk, rfl, hx, hx2⟩
  · go_wp2
    go_ret
    exact ⟨hb2, .inl ⟨rfl, fun j x hj => by simpa using hx j x hj⟩⟩
  · go_wp2
    go_ret
    exact ⟨hb2, .inr ⟨k, x, hk, rfl, hx, by simpa using hx2⟩⟩
end
end Go.Proofs.YtnnghcooidjlhaaGreat
end
section
set_option linter.unusedSimpArgs false
set_option maxRecDepth 100000
namespace Go.Proofs.YtnnghcooidjlhaaGreat
open Go.RowKit Go.Lib
section
variable {w : World} {P : PL} {l : List Fr} {hand : Nat}
theorem victim2 (h : FrI w P l hand) (B : Nat) (hB : w.cell? ⟨B, 0, none⟩ = some (.pointer (some ⟨P.p, 0, none⟩))) :
    Calls Tryz.prog 286 #[.pointer (some ⟨B, 0, none⟩)] w fun e w' => e = .returned (.pointer (some ⟨P.f, hand * 5, none⟩)) ∧ FrI w' P l ((hand + 1) % 5) ∧ Kp [P.p] w w' := by
  have c1 := h.c1
  have c2 := h.c2
  have f2 := h.c.frozen 2
  have hlt := h.h
  have hm : (hand + 1) % 5 < 5 := by omega
  have hN := hid (fun n => (h.of_blocks (w' := w.drewN n) rfl rfl).hand_ hm)
  have hk := hid (fun n => ((Kp.refl [P.p] w).drewN n).setCell (p := ⟨P.p, 2, none⟩) (.inl (by simp)) (.int .i64 ((hand + 1) % 5 : Nat)))
  clear h
  have hl2 : hand = 0 ∨ hand = 1 ∨ hand = 2 ∨ hand = 3 ∨ hand = 4 := by omega
  rcases hl2 with rfl | rfl | rfl | rfl | rfl <;>
  · go_enter Tryz.func286, Tryz.ntmps286
    go_wp2
    go_quiet (fail)
    go_wp2
    go_region
    all_goals
      go_wp2
      go_ret
      exact ⟨rfl, hN.out (nq + 1), hk.out (nq + 1)⟩
def clr (x : Fr) : Fr := { x with used := false }
theorem clr_get {l l' : List Fr} (h : l'.map clr = l.map clr) {i : Nat} {x' : Fr} (hi : l'[i]? = some x') : ∃ x, l[i]? = some x ∧ clr x = clr x' := by
  have h1 : (l'.map clr)[i]? = some (clr x') := by simp [hi]
  rw [h] at h1
  simpa using h1
theorem clr_set {l : List Fr} {i : Nat} {x : Fr} (hi : l[i]? = some x) (u : Bool) : (l.set i { x with used := u }).map clr = l.map clr := by
  rw [List.map_set]
  apply List.ext_getElem?
  intro j
  rw [List.getElem?_set]
  by_cases hj : i = j
  · subst hj
    obtain ⟨h1, h2⟩ := List.getElem?_eq_some_iff.1 hi
    subst h2
    simp [h1, clr]
  · rw [if_neg hj]
set_option maxHeartbeats 1000000 in
theorem po_victim (h : FrI w P l hand) (h0 : ∀ (i : Nat) x, l[i]? = some x → x.held = 0) :
    Calls Tryz.prog 279 #[.pointer (some ⟨P.p, 0, none⟩)] w fun e w' => ∃ (i : Nat) (l' : List Fr) (hand' : Nat), i < 5 ∧ e = .returned (.int .i64 i) ∧ FrI w' P l' hand' ∧ l'.map clr = l.map clr ∧ Kp [P.p, P.f] w w' := by
  have c1 := h.c1
  have hpl := h.c.lt
  have hfl := h.f_lt
  have eg : ∀ args w, (callFunc 285 args).run Tryz.prog w = .ok (.enter 285 args) w := enters_of Tryz.func285 (by kernel_rfl) rfl
  have hB : Below w.heap.size w (w.alloc (.cells #[.pointer (some ⟨P.p, 0, none⟩)] 189)) := (Below.refl _ w).alloc (Nat.le_refl _) _
  have hq : (w.alloc (.cells #[.pointer (some ⟨P.p, 0, none⟩)] 189)).cell? ⟨w.heap.size, 0, none⟩ = some (.pointer (some ⟨P.p, 0, none⟩)) := by simp [go_sem]
  have hcon := frames_index 285 #[] (fun x => decide (x.page < 0)) eg P.f P.cap l (w.alloc (.cells #[.pointer (some ⟨P.p, 0, none⟩)] 189)) (by simp; omega) h.n
    (fun W x hb => victim1 _ W x hb) (h.below hB).row
  have HC := hid hcon
  have HB := hid hB
  have HQ := hid hq
  have H := hid h
  have H0 := hid h0
  clear hcon hB eg hq h h0
  go_enter Tryz.func279, Tryz.ntmps279
  go_wp2
  go_step3
  go_wp2_with fail
  refine HC.out.mono ?_
  rintro e W1 ⟨hb, hx⟩
  have hb2 : Below w.heap.size w W1 := HB.out.trans (hb.mono (by simp))
  have HW := hid (H.out.below hb2)
  have HB1 := hid hb2
  have q0 : W1.cell? ⟨w.heap.size, 0, none⟩ = some (.pointer (some ⟨P.p, 0, none⟩)) := (hb.cell (p := ⟨w.heap.size, 0, none⟩) (by simp)).trans HQ.out
  have hsz : w.heap.size < W1.heap.size := Nat.lt_of_lt_of_le (by simp) hb.size
  rcases hx with ⟨rfl, hx⟩ | ⟨k, x, hk, rfl, hx, hx2⟩
  · clear hx hb hb2
    have c1' := HW.out.c1
    go_wp2
    go_step3
    go_wp2
    have Q0 := hid q0
    clear q0 c1'
    go_loopg [5, 24] 6 (fun gg s5 s24 wr => ∃ kk : Nat, kk ≤ 5 ∧ 6 - kk ≤ gg ∧ s24 = .int .i64 kk ∧ s5 = .int .i64 (-1) ∧ ∃ l', Hid (FrI wr P l' ((hand + kk) % 5)) ∧ Hid (l'.map clr = l.map clr) ∧ Hid (∀ (j : Nat) x, j < kk → l'[(hand + j) % 5]? = some x → x.used = false) ∧ Hid (Kp [P.p, P.f] W1 wr))
    case atStart => exact ⟨0, by omega, by omega, rfl, rfl, l, by rw [Nat.add_zero, Nat.mod_eq_of_lt HW.out.h]; exact HW, rfl, hid (fun j x hj => absurd hj (Nat.not_lt_zero _)), Kp.refl _ _⟩
    case round =>
      obtain ⟨kk, hkk, hg, rfl, rfl, l', HF, HL, HU, HK⟩ := hrel
      obtain ⟨x, hx⟩ := HF.out.get (i := (hand + kk) % 5) (by omega)
      have q0 : wr.cell? ⟨w.heap.size, 0, none⟩ = some (.pointer (some ⟨P.p, 0, none⟩)) := (HK.out.cell (p := ⟨w.heap.size, 0, none⟩) hsz (by simp; omega)).trans Q0.out
      have d2 := HF.out.c2
      have hlt : (kk : Int) < 11 := by omega
      have HV := hid (victim2 HF.out w.heap.size q0)
      have HX := hid hx
      obtain ⟨x0, hx0, hc0⟩ := clr_get HL.out hx
      have hh : x.held = 0 := by rw [← show (clr x).held = x.held from rfl, ← hc0]; exact H0.out _ x0 hx0
      clear hx hx0 hc0
      cases hu : x.used with
      | true =>
        have hk5 : kk < 5 := by
          rcases Nat.lt_or_ge kk 5 with h5 | h5
          · exact h5
          · have : kk = 5 := by omega
            subst this
            have := HU.out 0 x (by omega) (by rw [Nat.add_zero]; rw [Nat.add_mod_right] at HX; exact HX.out)
            rw [hu] at this; cases this
        go_wp2_with fail
        refine HV.out.mono ?_
        rintro e W2 ⟨rfl, hf2, hk2⟩
        have g2 : W2.cell? ⟨P.f, (hand + kk) % 5 * 5 + 2, none⟩ = some (.int .i64 x.held) := hf2.cell HX.out (j := 2) (by omega) rfl
        have g4 : W2.cell? ⟨P.f, (hand + kk) % 5 * 5 + 4, none⟩ = some (.bool x.used) := hf2.cell HX.out (j := 4) (by omega) rfl
        have z4 := hf2.frozen ((hand + kk) % 5 * 5 + 4)
        rw [hh] at g2
        rw [hu] at g4
        have HF2 := hid hf2
        have HK2 := hid hk2
        clear hf2 hk2
        generalize hm : (hand + kk) % 5 = m at g2 g4 z4
        have HM := hid hm
        clear hm
        go_wp2
        go_roundg (6 - (kk + 1))
        case measure => omega
        case rel =>
          have e1 : (hand + (kk + 1)) % 5 = ((hand + kk) % 5 + 1) % 5 := by omega
          refine ⟨kk + 1, by omega, by omega, by go_num, rfl, l'.set m { x with used := false }, hid ?_, hid ?_, hid (fun j y hj hy => ?_), hid ?_⟩
          · rw [e1, ← HM.out]
            exact HF2.out.set_ HX.out (j := 4) (by omega) rfl
          · rw [← HM.out]
            exact (clr_set HX.out false).trans HL.out
          · rw [← HM.out] at hy
            rw [List.getElem?_set] at hy
            split at hy
            · split at hy
              · injection hy with hy; rw [← hy]
              · cases hy
            · rename_i hne
              refine HU.out j y ?_ hy
              have : j ≠ kk := fun e => hne (by rw [e])
              omega
          · exact (HK.out.trans (HK2.out.mono (by simp))).setCell (.inl (by simp)) _
      | false =>
        go_wp2_with fail
        refine HV.out.mono ?_
        rintro e W2 ⟨rfl, hf2, hk2⟩
        have g2 : W2.cell? ⟨P.f, (hand + kk) % 5 * 5 + 2, none⟩ = some (.int .i64 x.held) := hf2.cell HX.out (j := 2) (by omega) rfl
        have g4 : W2.cell? ⟨P.f, (hand + kk) % 5 * 5 + 4, none⟩ = some (.bool x.used) := hf2.cell HX.out (j := 4) (by omega) rfl
        rw [hh] at g2
        rw [hu] at g4
        have HF2 := hid hf2
        have HK2 := hid hk2
        clear hf2 hk2
        go_wp2
        rw [Exit.noGoto_ret]
        go_ret
        exact ⟨(hand + kk) % 5, l', _, by omega, rfl, HF2.out, HL.out, (Kp.of_below HB1.out).trans (HK.out.trans (HK2.out.mono (by simp)))⟩
  · clear hx hx2 hb hb2
    go_wp2
    rw [Exit.noGoto_ret]
    go_ret
    exact ⟨k, l, hand, hk, rfl, HW.out, rfl, Kp.of_below HB1.out⟩
end
end Go.Proofs.YtnnghcooidjlhaaGreat
end
section
set_option linter.unusedSimpArgs false
set_option maxRecDepth 100000
namespace Go.Proofs.YtnnghcooidjlhaaGreat
open Go.RowKit Go.Lib
structure Rel (l : List Fr) (p0 pgs : List (Option Bs)) : Prop where
  none_ : ∀ q : Nat, (pgs[q]?).map Option.isSome = (p0[q]?).map Option.isSome
  dif : ∀ q : Nat, pgs[q]? = p0[q]? ∨ ∃ (i : Nat) (x : Fr), l[i]? = some x ∧ x.page = q ∧ x.dirty = true
  pay : ∀ (i : Nat) (x : Fr) (q : Nat), l[i]? = some x → x.page = q → pgs[q]? = some (some x.pay) ∧ x.pay.length = 232
  one : ∀ (i j : Nat) (x y : Fr) (q : Nat), l[i]? = some x → l[j]? = some y → x.page = q → y.page = q → i = j
  neg : ∀ (i : Nat) (x : Fr), l[i]? = some x → x.page < 0 → x.dirty = false
def core (x : Fr) : Int × Bs × Bool := (x.page, x.pay, x.dirty)
section
variable {l l' : List Fr} {p0 pgs : List (Option Bs)}
theorem core_get (h : l'.map core = l.map core) {i : Nat} {x' : Fr} (hi : l'[i]? = some x') : ∃ x, l[i]? = some x ∧ x.page = x'.page ∧ x.pay = x'.pay ∧ x.dirty = x'.dirty := by
  have h1 : (l'.map core)[i]? = some (core x') := by simp [hi]
  rw [h] at h1
  simpa [core] using h1
theorem core_clr (h : l'.map clr = l.map clr) : l'.map core = l.map core := by
  have e : core = core ∘ clr := rfl
  rw [e, ← List.map_map, ← List.map_map, h]
theorem core_set {i : Nat} {x y : Fr} (hi : l[i]? = some x) (h : core y = core x) : (l.set i y).map core = l.map core := by
  rw [List.map_set, h]
  obtain ⟨h1, h2⟩ := List.getElem?_eq_some_iff.1 hi
  apply List.ext_getElem?
  intro j
  rw [List.getElem?_set]
  by_cases hj : i = j
  · subst hj; simp [h1, h2]
  · rw [if_neg hj]
theorem Rel.same (h : Rel l p0 pgs) (e : l'.map core = l.map core) : Rel l' p0 pgs := by
  refine ⟨h.none_, fun q => ?_, fun i x q hi hq => ?_, fun i j x y q hi hj hx hy => ?_, fun i x hi hx => ?_⟩
  · rcases h.dif q with h1 | ⟨i, x, h1, h2, h3⟩
    · exact .inl h1
    · obtain ⟨y, g1, g2, _, g3⟩ := core_get e.symm h1
      exact .inr ⟨i, y, g1, by rw [g2, h2], by rw [g3, h3]⟩
  · obtain ⟨y, g1, g2, g3, _⟩ := core_get e hi
    have := h.pay i y q g1 (by rw [g2, hq])
    rwa [g3] at this
  · obtain ⟨x', g1, g2, _⟩ := core_get e hi
    obtain ⟨y', k1, k2, _⟩ := core_get e hj
    exact h.one i j x' y' q g1 k1 (by rw [g2, hx]) (by rw [k2, hy])
  · obtain ⟨y, g1, g2, _, g3⟩ := core_get e hi
    rw [← g3]
    exact h.neg i y g1 (by rw [g2]; exact hx)
theorem get_lt {α : Type} (l : List α) (r : Nat) : (l[r]?).isSome = true ↔ r < l.length := by
  rw [Option.isSome_iff_exists]
  constructor
  · rintro ⟨a, ha⟩; exact (List.getElem?_eq_some_iff.1 ha).1
  · intro h; exact ⟨l[r], List.getElem?_eq_getElem h⟩
theorem Rel.lt_iff (h : Rel l p0 pgs) (r : Nat) : r < pgs.length ↔ r < p0.length := by
  have h1 := h.none_ r
  have e1 : (pgs[r]?).isSome = ((pgs[r]?).map Option.isSome).isSome := by simp
  have e2 : (p0[r]?).isSome = ((p0[r]?).map Option.isSome).isSome := by simp
  rw [← get_lt, ← get_lt, e1, e2, h1]
theorem set_get {i j : Nat} {y z : Fr} (h : (l.set i y)[j]? = some z) : (j = i ∧ z = y) ∨ (j ≠ i ∧ l[j]? = some z) := by
  rw [List.getElem?_set] at h
  split at h
  · split at h
    · injection h with h; exact .inl ⟨by omega, h.symm⟩
    · cases h
  · exact .inr ⟨by omega, h⟩
theorem set_at {i : Nat} {x y : Fr} (hi : l[i]? = some x) : (l.set i y)[i]? = some y := by
  have := (List.getElem?_eq_some_iff.1 hi).1
  simp [this]
theorem set_ne {i j : Nat} {y z : Fr} (hj : j ≠ i) (h : l[j]? = some z) : (l.set i y)[j]? = some z := by
  rw [List.getElem?_set, if_neg (Ne.symm hj)]; exact h
theorem Rel.below_some (h : Rel l p0 pgs) {q : Nat} {b : Bs} (hq : pgs[q]? = some (some b)) : ∃ b0, p0[q]? = some (some b0) := by
  have := h.none_ q
  rw [hq] at this
  cases h1 : p0[q]? with
  | none => rw [h1] at this; simp at this
  | some o =>
    cases o with
    | none => rw [h1] at this; simp at this
    | some b0 => exact ⟨b0, rfl⟩
theorem Rel.back (h : Rel l p0 pgs) {i : Nat} {x : Fr} {q : Nat} (hi : l[i]? = some x) (hq : x.page = q) : Rel (l.set i { x with dirty := false }) (p0.set q (some x.pay)) pgs := by
  obtain ⟨hp, hl⟩ := h.pay i x q hi hq
  obtain ⟨b0, hb0⟩ := h.below_some hp
  have hlt := (List.getElem?_eq_some_iff.1 hb0).1
  refine ⟨fun r => ?_, fun r => ?_, fun j y r hj hr => ?_, fun j k y z r hj hk hy hz => ?_, fun j y hj hy => ?_⟩
  · rw [List.getElem?_set]
    by_cases hr : q = r
    · subst hr; simp [hp, hlt]
    · rw [if_neg hr]; exact h.none_ r
  · rw [List.getElem?_set]
    by_cases hr : q = r
    · subst hr; simp [hp, hlt]
    · rw [if_neg hr]
      rcases h.dif r with h1 | ⟨j, y, h1, h2, h3⟩
      · exact .inl h1
      · refine .inr ⟨j, y, set_ne (fun e => ?_) h1, h2, h3⟩
        subst e; rw [hi] at h1; injection h1 with h1; subst h1; rw [hq] at h2; omega
  · rcases set_get hj with ⟨rfl, rfl⟩ | ⟨hne, h1⟩
    · exact h.pay j x r hi hr
    · exact h.pay j y r h1 hr
  · rcases set_get hj with ⟨rfl, rfl⟩ | ⟨hne, h1⟩
    · rcases set_get hk with ⟨rfl, rfl⟩ | ⟨hne2, h2⟩
      · rfl
      · exact h.one _ _ x z r hi h2 hy hz
    · rcases set_get hk with ⟨rfl, rfl⟩ | ⟨hne2, h2⟩
      · exact h.one _ _ y x r h1 hi hy hz
      · exact h.one _ _ y z r h1 h2 hy hz
  · rcases set_get hj with ⟨rfl, rfl⟩ | ⟨hne, h1⟩
    · rfl
    · exact h.neg j y h1 hy
theorem Rel.load (h : Rel l p0 pgs) {i : Nat} {x y : Fr} {q : Nat} {b : Bs} (hi : l[i]? = some x) (hd : x.dirty = false) (hn : ∀ (j : Nat) z, l[j]? = some z → z.page ≠ q) (hb : pgs[q]? = some (some b)) (hbl : b.length = 232)
    (hy : y.page = q) (hy2 : y.pay = b) (hy3 : y.dirty = false) : Rel (l.set i y) p0 pgs := by
  refine ⟨h.none_, fun r => ?_, fun j z r hj hr => ?_, fun j k z u r hj hk hz hu => ?_, fun j z hj hz => ?_⟩
  · rcases h.dif r with h1 | ⟨j, z, h1, h2, h3⟩
    · exact .inl h1
    · refine .inr ⟨j, z, set_ne (fun e => ?_) h1, h2, h3⟩
      subst e; rw [hi] at h1; injection h1 with h1; subst h1; rw [hd] at h3; cases h3
  · rcases set_get hj with ⟨rfl, rfl⟩ | ⟨hne, h1⟩
    · have : q = r := by omega
      subst this; rw [hy2]; exact ⟨hb, hbl⟩
    · exact h.pay j z r h1 hr
  · rcases set_get hj with ⟨rfl, rfl⟩ | ⟨hne, h1⟩
    · rcases set_get hk with ⟨rfl, rfl⟩ | ⟨hne2, h2⟩
      · rfl
      · exact absurd (show u.page = q by omega) (hn k u h2)
    · rcases set_get hk with ⟨rfl, rfl⟩ | ⟨hne2, h2⟩
      · exact absurd (show z.page = q by omega) (hn j z h1)
      · exact h.one _ _ z u r h1 h2 hz hu
  · rcases set_get hj with ⟨rfl, rfl⟩ | ⟨hne, h1⟩
    · exact hy3
    · exact h.neg j z h1 hz
theorem Rel.put (h : Rel l p0 pgs) {i : Nat} {x y : Fr} {q : Nat} (hi : l[i]? = some x) (hq : x.page = q) (hy : y.page = q) (hl : y.pay.length = 232) (hd : y.dirty = true) : Rel (l.set i y) p0 (pgs.set q (some y.pay)) := by
  obtain ⟨hp, _⟩ := h.pay i x q hi hq
  have hlt := (List.getElem?_eq_some_iff.1 hp).1
  have hoth : ∀ (j : Nat) z, l[j]? = some z → j ≠ i → z.page ≠ q := fun j z hj hne e => hne (h.one j i z x q hj hi e hq)
  refine ⟨fun r => ?_, fun r => ?_, fun j z r hj hr => ?_, fun j k z u r hj hk hz hu => ?_, fun j z hj hz => ?_⟩
  · rw [List.getElem?_set]
    by_cases hr : q = r
    · subst hr
      have := h.none_ q
      rw [hp] at this
      simp [hlt]; rw [← this]; rfl
    · rw [if_neg hr]; exact h.none_ r
  · rw [List.getElem?_set]
    by_cases hr : q = r
    · subst hr; exact .inr ⟨i, y, set_at hi, hy, hd⟩
    · rw [if_neg hr]
      rcases h.dif r with h1 | ⟨j, z, h1, h2, h3⟩
      · exact .inl h1
      · refine .inr ⟨j, z, set_ne (fun e => ?_) h1, h2, h3⟩
        subst e; rw [hi] at h1; injection h1 with h1; subst h1; rw [hq] at h2; omega
  · rcases set_get hj with ⟨rfl, rfl⟩ | ⟨hne, h1⟩
    · have : q = r := by omega
      subst this; simp [hlt, hl]
    · have h2 := h.pay j z r h1 hr
      have : q ≠ r := fun e => hoth j z h1 hne (by rw [e]; exact hr)
      rw [List.getElem?_set, if_neg this]
      exact h2
  · rcases set_get hj with ⟨rfl, rfl⟩ | ⟨hne, h1⟩
    · rcases set_get hk with ⟨rfl, rfl⟩ | ⟨hne2, h2⟩
      · rfl
      · exact absurd (show u.page = q by omega) (hoth k u h2 hne2)
    · rcases set_get hk with ⟨rfl, rfl⟩ | ⟨hne2, h2⟩
      · exact absurd (show z.page = q by omega) (hoth j z h1 hne)
      · exact h.one _ _ z u r h1 h2 hz hu
  · rcases set_get hj with ⟨rfl, rfl⟩ | ⟨hne, h1⟩
    · omega
    · exact h.neg j z h1 hz
theorem Rel.drop_ (h : Rel l p0 pgs) {q : Nat} (hn : ∀ (j : Nat) z, l[j]? = some z → z.page ≠ q) : Rel l (p0.set q none) (pgs.set q none) := by
  have hlen := h.lt_iff
  refine ⟨fun r => ?_, fun r => ?_, fun j z r hj hr => ?_, h.one, h.neg⟩
  · rw [List.getElem?_set, List.getElem?_set]
    by_cases hr : q = r
    · subst hr
      have := hlen q
      by_cases h1 : q < p0.length
      · simp [h1, this.2 h1]
      · simp [h1, (not_congr this).2 h1]
    · rw [if_neg hr, if_neg hr]; exact h.none_ r
  · rw [List.getElem?_set, List.getElem?_set]
    by_cases hr : q = r
    · subst hr
      have := hlen q
      by_cases h1 : q < p0.length
      · simp [h1, this.2 h1]
      · simp [h1, (not_congr this).2 h1]
    · rw [if_neg hr, if_neg hr]; exact h.dif r
  · have h2 := h.pay j z r hj hr
    have : q ≠ r := fun e => hn j z hj (by rw [e]; exact hr)
    rw [List.getElem?_set, if_neg this]
    exact h2
theorem Rel.drop2 (h : Rel l p0 pgs) {i : Nat} {x y : Fr} {q : Nat} (hi : l[i]? = some x) (hq : x.page = q) (hy : y.page < 0) (hd : y.dirty = false) : Rel (l.set i y) (p0.set q none) (pgs.set q none) := by
  have hoth : ∀ (j : Nat) z, l[j]? = some z → j ≠ i → z.page ≠ q := fun j z hj hne e => hne (h.one j i z x q hj hi e hq)
  have hlen := h.lt_iff
  refine ⟨fun r => ?_, fun r => ?_, fun j z r hj hr => ?_, fun j k z u r hj hk hz hu => ?_, fun j z hj hz => ?_⟩
  · rw [List.getElem?_set, List.getElem?_set]
    by_cases hr : q = r
    · subst hr
      have := hlen q
      by_cases h1 : q < p0.length
      · simp [h1, this.2 h1]
      · simp [h1, (not_congr this).2 h1]
    · rw [if_neg hr, if_neg hr]; exact h.none_ r
  · rw [List.getElem?_set, List.getElem?_set]
    by_cases hr : q = r
    · subst hr
      have := hlen q
      by_cases h1 : q < p0.length
      · simp [h1, this.2 h1]
      · simp [h1, (not_congr this).2 h1]
    · rw [if_neg hr, if_neg hr]
      rcases h.dif r with h1 | ⟨j, z, h1, h2, h3⟩
      · exact .inl h1
      · refine .inr ⟨j, z, set_ne (fun e => ?_) h1, h2, h3⟩
        subst e; rw [hi] at h1; injection h1 with h1; subst h1; rw [hq] at h2; omega
  · rcases set_get hj with ⟨rfl, rfl⟩ | ⟨hne, h1⟩
    · omega
    · have h2 := h.pay j z r h1 hr
      have : q ≠ r := fun e => hoth j z h1 hne (by rw [e]; exact hr)
      rw [List.getElem?_set, if_neg this]
      exact h2
  · rcases set_get hj with ⟨rfl, rfl⟩ | ⟨hne, h1⟩
    · omega
    · rcases set_get hk with ⟨rfl, rfl⟩ | ⟨hne2, h2⟩
      · omega
      · exact h.one _ _ z u r h1 h2 hz hu
  · rcases set_get hj with ⟨rfl, rfl⟩ | ⟨hne, h1⟩
    · exact hd
    · exact h.neg j z h1 hz
theorem Rel.len (h : Rel l p0 pgs) : pgs.length = p0.length := by
  have hlen := h.lt_iff
  have h1 := hlen pgs.length
  have h2 := hlen p0.length
  omega
theorem Rel.maps (h : Rel l p0 pgs) : pgs.map Option.isSome = p0.map Option.isSome := by
  apply List.ext_getElem?
  intro q
  rw [List.getElem?_map, List.getElem?_map]
  exact h.none_ q
theorem Rel.somes (h : Rel l p0 pgs) : somes pgs = somes p0 := by
  have e : ∀ x : List (Option Bs), Go.Proofs.YtnnghcooidjlhaaGreat.somes x = (x.map Option.isSome).countP id := fun x => by
    unfold Go.Proofs.YtnnghcooidjlhaaGreat.somes
    rw [List.countP_map]; rfl
  rw [e, e, h.maps]
theorem Rel.none_iff (h : Rel l p0 pgs) (q : Nat) : pgs[q]? = some none ↔ p0[q]? = some none := by
  have := h.none_ q
  rcases h1 : pgs[q]? with _ | _ | b <;> rcases h2 : p0[q]? with _ | _ | c <;> simp_all
theorem Rel.new_ (h : Rel l p0 pgs) {q : Nat} {b : Bs} (hq : p0[q]? = some none ∨ q = p0.length) : Rel l (newAt p0 q b) (newAt pgs q b) := by
  have hle : q ≤ p0.length := by
    rcases hq with h1 | h1
    · exact Nat.le_of_lt (List.getElem?_eq_some_iff.1 h1).1
    · omega
  have hle2 : q ≤ pgs.length := by rw [h.len]; exact hle
  have hno : ∀ c, pgs[q]? ≠ some (some c) := fun c hc => by
    obtain ⟨b0, hb0⟩ := h.below_some hc
    rcases hq with h1 | h1
    · rw [h1] at hb0; cases hb0
    · rw [h1] at hb0; simp at hb0
  refine ⟨fun r => ?_, fun r => ?_, fun j z r hj hr => ?_, h.one, h.neg⟩
  · rw [newAt_get hle, newAt_get hle2]
    by_cases hr : r = q
    · rw [if_pos hr, if_pos hr]
    · rw [if_neg hr, if_neg hr]; exact h.none_ r
  · rw [newAt_get hle, newAt_get hle2]
    by_cases hr : r = q
    · rw [if_pos hr, if_pos hr]; exact .inl rfl
    · rw [if_neg hr, if_neg hr]; exact h.dif r
  · have h2 := h.pay j z r hj hr
    have : r ≠ q := fun e => hno z.pay (by rw [← e]; exact h2.1)
    rw [newAt_get hle2, if_neg this]
    exact h2
end
end Go.Proofs.YtnnghcooidjlhaaGreat
end
section
set_option linter.unusedSimpArgs false
set_option maxRecDepth 100000
namespace Go.Proofs.YtnnghcooidjlhaaGreat
open Go.RowKit Go.Lib
structure PoX (w : World) (P : PL) (G : ShG) (l : List Fr) (hand : Nat) (p0 pgs : List (Option Bs)) : Prop where
  fr : FrI w P l hand
  sh : ShI w P.S G p0
  np : P.p ∉ shOwn P.S G
  nf : P.f ∉ shOwn P.S G
  rl : Rel l p0 pgs
def poOwn (P : PL) (G : ShG) : List Nat := P.p :: P.f :: shOwn P.S G
section
variable {w w' : World} {P : PL} {G : ShG} {l : List Fr} {hand : Nat} {p0 pgs : List (Option Bs)}
theorem PoX.of_blocks (h : PoX w P G l hand p0 pgs) (e : ∀ b ∈ poOwn P G, w'.heap[b]? = w.heap[b]?) : PoX w' P G l hand p0 pgs :=
  ⟨h.fr.of_blocks (e _ (by simp [poOwn])) (e _ (by simp [poOwn])), h.sh.of_blocks (fun b hb => e b (by simp [poOwn, hb])), h.np, h.nf, h.rl⟩
theorem PoX.lts (h : PoX w P G l hand p0 pgs) : ∀ b ∈ poOwn P G, b < w.heap.size := by
  intro b hb
  simp [poOwn] at hb
  rcases hb with rfl | rfl | hb
  · exact h.fr.c.lt
  · exact h.fr.f_lt
  · exact h.sh.lts b hb
theorem PoX.below (h : PoX w P G l hand p0 pgs) (hb : Below w.heap.size w w') : PoX w' P G l hand p0 pgs := h.of_blocks fun b hx => hb.block b (h.lts b hx)
set_option maxHeartbeats 400000 in
theorem po_back (h : PoX w P G l hand p0 pgs) {i : Nat} {x : Fr} (hi : l[i]? = some x) :
    Calls Tryz.prog 280 #[.pointer (some ⟨P.p, 0, none⟩), .int .i64 i] w fun e w' => e = .returned (.int .i64 0) ∧ Kp (poOwn P G) w w' ∧ ∃ sec p0', PoX w' P { G with sec := sec } (l.set i { x with dirty := false }) hand p0' pgs := by
  have c1 := h.fr.c1
  have c0 := h.fr.c0
  have g0 : w.cell? ⟨P.f, i * 5, none⟩ = some (.int .i64 x.page) := h.fr.cell hi (j := 0) (by omega) rfl
  have g1 : w.cell? ⟨P.f, i * 5 + 1, none⟩ = some (.string (S x.pay)) := h.fr.cell hi (j := 1) (by omega) rfl
  have g3 : w.cell? ⟨P.f, i * 5 + 3, none⟩ = some (.bool x.dirty) := h.fr.cell hi (j := 3) (by omega) rfl
  have hi5 : i < 5 := by have := (List.getElem?_eq_some_iff.1 hi).1; rw [h.fr.n] at this; exact this
  have hi0 : (0 : Int) ≤ (i : Int) := by omega
  have hi1 : (i : Int) < 5 := by omega
  have H := hid h
  have HI := hid hi
  clear h hi
  cases hd : x.dirty with
  | false =>
    rw [hd] at g3
    go_enter Tryz.func280, Tryz.ntmps280
    go_wp2
    go_ret
    have e : l.set i { x with dirty := false } = l := by
      have : ({ x with dirty := false } : Fr) = x := by rw [← hd]
      rw [this]
      apply List.ext_getElem?
      intro j
      rw [List.getElem?_set]
      by_cases hj : i = j
      · subst hj; rw [if_pos rfl, if_pos (List.getElem?_eq_some_iff.1 HI.out).1, HI.out]
      · rw [if_neg hj]
    exact ⟨rfl, Kp.refl _ _, G.sec, p0, by rw [e]; exact H.out⟩
  | true =>
    rw [hd] at g3
    have hpg : 0 ≤ x.page := by
      rcases Int.lt_or_le x.page 0 with h1 | h1
      · have := H.out.rl.neg i x HI.out h1
        rw [hd] at this; cases this
      · exact h1
    obtain ⟨q, hq⟩ : ∃ q : Nat, x.page = q := ⟨x.page.toNat, by omega⟩
    obtain ⟨hp, hl⟩ := H.out.rl.pay i x q HI.out hq
    obtain ⟨b0, hb0⟩ := H.out.rl.below_some hp
    rw [hq] at g0
    have HW := hid (sh_write (H.out.sh.of_blocks (w' := w.drew) (fun _ _ => rfl)) q b0 x.pay hb0 (by omega))
    have HS : Hid (w.cell? ⟨P.p, 0, none⟩ = some (.pointer (some ⟨P.S.s, 0, none⟩)) ∧ w.cell? ⟨P.f, i * 5, none⟩ = some (.int .i64 q) ∧ w.cell? ⟨P.f, i * 5 + 1, none⟩ = some (.string (S x.pay))) := hid ⟨c0, g0, g1⟩
    have HPL := hid hp
    have HQ := hid hq
    clear hp hq hb0
    go_enter Tryz.func280, Tryz.ntmps280
    go_wp2
    go_region_held3 (fun w' => w'.cell? ⟨P.p, 0, none⟩ = some (.pointer (some ⟨P.S.s, 0, none⟩)) ∧ w'.cell? ⟨P.f, i * 5, none⟩ = some (.int .i64 q) ∧ w'.cell? ⟨P.f, i * 5 + 1, none⟩ = some (.string (S x.pay))) (first | exact HS.out | exact keep3k HS.out hk1 H.out.np H.out.nf H.out.nf) (first | (go_at_call 287; refine HW.out.mono ?_; rintro e w1 ⟨rfl, hk1', sec, hs1⟩; have hk1 : Kp (shOwn P.S G) w w1 := (Kp.refl _ w).drew.trans hk1'))
    have HF1 := hid (H.out.fr.kp hk1 H.out.np H.out.nf)
    have z3 := HF1.out.frozen (i * 5 + 3)
    have q3 : w1.cell? ⟨P.f, i * 5 + 3, none⟩ = some (.bool x.dirty) := HF1.out.cell HI.out (j := 3) (by omega) rfl
    have hs : P.f < w1.heap.size := HF1.out.f_lt
    have HS1 := hid hs1
    have HK1 := hid hk1
    clear hs1 hk1 hk1'
    go_wp2
    go_ret
    have hk2 : Kp (poOwn P G) w (w1.setCell ⟨P.f, i * 5 + 3, none⟩ (.bool false)) := (HK1.out.mono (by intro y hy; simp [poOwn, hy])).setCell (.inl (by simp [poOwn])) _
    refine ⟨rfl, hk2, sec, _, HF1.out.set_ HI.out (j := 3) (by omega) rfl, ?_, H.out.np, H.out.nf, H.out.rl.back HI.out HQ.out⟩
    have := HS1.out.of_blocks (w' := w1.setCell ⟨P.f, i * 5 + 3, none⟩ (.bool false)) (fun b hb => Below.heap_setCell _ ⟨P.f, i * 5 + 3, none⟩ _ b (fun e => H.out.nf (by have e2 : b = P.f := e; rwa [e2] at hb)))
    rwa [pad_of hl] at this
theorem FrI.lay (h : FrI w P l hand) {i : Nat} {x : Fr} (hi : l[i]? = some x) (y : Fr) :
    FrI (((((w.setCell ⟨P.f, i * 5, none⟩ (.int .i64 y.page)).setCell ⟨P.f, i * 5 + 1, none⟩ (.string (S y.pay))).setCell ⟨P.f, i * 5 + 2, none⟩ (.int .i64 y.held)).setCell ⟨P.f, i * 5 + 3, none⟩ (.bool y.dirty)).setCell ⟨P.f, i * 5 + 4, none⟩ (.bool y.used)) P (l.set i y) hand := by
  have h0 := h.set_ hi (j := 0) (v := .int .i64 y.page) (y := { x with page := y.page }) (by omega) rfl
  have h1 := h0.set_ (set_at hi) (j := 1) (v := .string (S y.pay)) (y := { x with page := y.page, pay := y.pay }) (by omega) rfl
  have h2 := h1.set_ (set_at (set_at hi)) (j := 2) (v := .int .i64 y.held) (y := { x with page := y.page, pay := y.pay, held := y.held }) (by omega) rfl
  have h3 := h2.set_ (set_at (set_at (set_at hi))) (j := 3) (v := .bool y.dirty) (y := { x with page := y.page, pay := y.pay, held := y.held, dirty := y.dirty }) (by omega) rfl
  have h4 := h3.set_ (set_at (set_at (set_at (set_at hi)))) (j := 4) (v := .bool y.used) (y := y) (by omega) rfl
  simp only [List.set_set] at h4
  exact h4
theorem frame_heap (w : World) (f i : Nat) (u0 u1 u2 u3 u4 : Value) (b : Nat) (hb : b ≠ f) :
    (((((w.setCell ⟨f, i * 5, none⟩ u0).setCell ⟨f, i * 5 + 1, none⟩ u1).setCell ⟨f, i * 5 + 2, none⟩ u2).setCell ⟨f, i * 5 + 3, none⟩ u3).setCell ⟨f, i * 5 + 4, none⟩ u4).heap[b]? = w.heap[b]? := by
  rw [Below.heap_setCell _ ⟨f, i * 5 + 4, none⟩ _ b hb, Below.heap_setCell _ ⟨f, i * 5 + 3, none⟩ _ b hb, Below.heap_setCell _ ⟨f, i * 5 + 2, none⟩ _ b hb, Below.heap_setCell _ ⟨f, i * 5 + 1, none⟩ _ b hb, Below.heap_setCell _ ⟨f, i * 5, none⟩ _ b hb]
theorem frame_kp {O : List Nat} {a w : World} (h : Kp O a w) {f : Nat} (hf : f ∈ O) (i : Nat) (u0 u1 u2 u3 u4 : Value) :
    Kp O a (((((w.setCell ⟨f, i * 5, none⟩ u0).setCell ⟨f, i * 5 + 1, none⟩ u1).setCell ⟨f, i * 5 + 2, none⟩ u2).setCell ⟨f, i * 5 + 3, none⟩ u3).setCell ⟨f, i * 5 + 4, none⟩ u4) :=
  ((((h.setCell (.inl hf) _).setCell (.inl hf) _).setCell (.inl hf) _).setCell (.inl hf) _).setCell (.inl hf) _
set_option maxHeartbeats 1000000 in
theorem po_hold (h : PoX w P G l hand p0 pgs) (h0 : ∀ (i : Nat) x, l[i]? = some x → x.held = 0) {q : Nat} {b : Bs} (hb : pgs[q]? = some (some b)) :
    Calls Tryz.prog 267 #[.pointer (some ⟨P.p, 0, none⟩), .int .i64 q] w fun e w' => e = .returned (.tuple #[.string (S b), .int .i64 0]) ∧ Kp (poOwn P G) w w' ∧
      ∃ sec p0' l' hand' i, ∃ x' : Fr, PoX w' P { G with sec := sec } l' hand' p0' pgs ∧ l'[i]? = some x' ∧ x'.page = (q : Int) ∧ x'.held = 1 ∧ ∀ (j : Nat) y, j ≠ i → l'[j]? = some y → y.held = 0 := by
  have HFI := hid (po_find h.fr q)
  have c1 := h.fr.c1
  have c0 := h.fr.c0
  have hpl := h.fr.c.lt
  have hfl := h.fr.f_lt
  have H := hid h
  have H0 := hid h0
  have HB := hid hb
  clear h h0 hb
  go_enter Tryz.func267, Tryz.ntmps267
  go_wp2_with fail
  refine HFI.out.mono ?_
  rintro e W1 ⟨hb1, ⟨rfl, hx⟩ | ⟨k, x, hk, rfl, hx, hx2⟩⟩
  · have hb0 : p0[q]? = some (some b) := by
      rcases H.out.rl.dif q with h1 | ⟨i, x, h1, h2, _⟩
      · rw [← h1]; exact HB.out
      · exact absurd h2 (hx i x h1)
    have H1 := hid (H.out.below hb1)
    have HR := hid (sh_read H1.out.sh q b hb0)
    have HX := hid hx
    have HB1 := hid hb1
    have d0 := H1.out.fr.c0
    clear hx hb0 hb1 c1 c0
    go_wp2_with fail
    refine HR.out.mono ?_
    rintro e W2 ⟨rfl, hb2⟩
    have H2 := hid (H1.out.below hb2)
    have HV := hid (po_victim H2.out.fr H0.out)
    have HB2 := hid (HB1.out.trans (hb2.mono HB1.out.size))
    clear hb2 d0
    go_wp2_with fail
    refine HV.out.mono ?_
    rintro e W3 ⟨i, l1, hand1, hi, rfl, hf3, hl1, hk3⟩
    have hsz3 : P.f ≠ P.p := Ne.symm hf3.ne
    have H3 : Hid (PoX W3 P G l1 hand1 p0 pgs) := hid ⟨hf3, H2.out.sh.kp hk3 (fun b hb hx => by
      simp at hx
      rcases hx with rfl | rfl
      · exact H2.out.np hb
      · exact H2.out.nf hb), H2.out.np, H2.out.nf, H2.out.rl.same (core_clr hl1)⟩
    obtain ⟨x, hx⟩ := hf3.get hi
    have HBK := hid (po_back H3.out hx)
    have HX3 := hid hx
    have HL1 := hid hl1
    have HK3 := hid hk3
    have hneg : ¬ (i : Int) < 0 := by omega
    have hin0 : (0 : Int) ≤ (i : Int) := by omega
    have hin1 : (i : Int) < 5 := by omega
    clear hx hl1 hk3 hf3
    go_wp2_with fail
    refine HBK.out.mono ?_
    rintro e W4 ⟨rfl, hk4, sec, p0', h4⟩
    have d1 := h4.fr.c1
    have hi4 : (l1.set i { x with dirty := false })[i]? = some { x with dirty := false } := set_at HX3.out
    have e0 : W4.cell? ⟨P.f, i * 5, none⟩ = some (.int .i64 x.page) := h4.fr.cell hi4 (j := 0) (by omega) rfl
    have e1 : W4.cell? ⟨P.f, i * 5 + 1, none⟩ = some (.string (S x.pay)) := h4.fr.cell hi4 (j := 1) (by omega) rfl
    have e2 : W4.cell? ⟨P.f, i * 5 + 2, none⟩ = some (.int .i64 x.held) := h4.fr.cell hi4 (j := 2) (by omega) rfl
    have e3 : W4.cell? ⟨P.f, i * 5 + 3, none⟩ = some (.bool false) := h4.fr.cell hi4 (j := 3) (by omega) rfl
    have e4 : W4.cell? ⟨P.f, i * 5 + 4, none⟩ = some (.bool x.used) := h4.fr.cell hi4 (j := 4) (by omega) rfl
    have z0 := h4.fr.frozen (i * 5)
    have z1 := h4.fr.frozen (i * 5 + 1)
    have z2 := h4.fr.frozen (i * 5 + 2)
    have z3 := h4.fr.frozen (i * 5 + 3)
    have z4 := h4.fr.frozen (i * 5 + 4)
    have H4 := hid h4
    have HI4 := hid hi4
    have HK4 := hid hk4
    clear h4 hi4 hk4
    go_wp2
    go_ret2
    have hbl : b.length = 232 := by
      obtain ⟨b0, hb0⟩ := H.out.rl.below_some HB.out
      rcases H.out.rl.dif q with h1 | ⟨j, y, h1, h2, _⟩
      · rw [HB.out] at h1
        exact (H.out.sh.some_ q b h1.symm).1
      · exact absurd h2 (HX.out j y h1)
    refine ⟨rfl, frame_kp (((Kp.of_below HB2.out).trans (HK3.out.mono (by simp [poOwn]))).trans HK4.out) (by simp [poOwn]) i _ _ _ _ _, sec, p0', _, hand1, i, ⟨(q : Int), b, 1, false, true⟩, ⟨H4.out.fr.lay HI4.out ⟨(q : Int), b, 1, false, true⟩, H4.out.sh.of_blocks (fun c hc => frame_heap _ _ _ _ _ _ _ _ c (fun e => H4.out.nf (by rwa [e] at hc))), H4.out.np, H4.out.nf, H4.out.rl.load HI4.out rfl (fun j z hj => ?_) HB.out hbl rfl rfl rfl⟩, set_at HI4.out, rfl, rfl, fun j y hj hy => ?_⟩
    · rcases set_get hj with ⟨rfl, rfl⟩ | ⟨hne, h1⟩
      · obtain ⟨y, hy, hc⟩ := clr_get HL1.out HX3.out
        have := HX.out j y hy
        intro hz
        exact this (by rw [← show (clr y).page = y.page from rfl, hc]; exact hz)
      · obtain ⟨y, hy, hc⟩ := clr_get HL1.out h1
        have := HX.out j y hy
        intro hz
        exact this (by rw [← show (clr y).page = y.page from rfl, hc]; exact hz)
    · rcases set_get hy with ⟨rfl, rfl⟩ | ⟨hne, h1⟩
      · exact absurd rfl hj
      · rcases set_get h1 with ⟨rfl, rfl⟩ | ⟨hne, h1⟩
        · exact absurd rfl hj
        · obtain ⟨z, hz, hc⟩ := clr_get HL1.out h1
          rw [← show (clr y).held = y.held from rfl, ← hc]
          exact H0.out j z hz
  · have hpay : x.pay = b := by
      have := (H.out.rl.pay k x q hx hx2).1
      rw [HB.out] at this
      injection this with this
      injection this with this
      exact this.symm
    have hh : x.held = 0 := H0.out k x hx
    have H1 := hid (H.out.below hb1)
    have d1 := H1.out.fr.c1
    have e1 : W1.cell? ⟨P.f, k * 5 + 1, none⟩ = some (.string (S x.pay)) := H1.out.fr.cell hx (j := 1) (by omega) rfl
    have e2 : W1.cell? ⟨P.f, k * 5 + 2, none⟩ = some (.int .i64 x.held) := H1.out.fr.cell hx (j := 2) (by omega) rfl
    have e4 : W1.cell? ⟨P.f, k * 5 + 4, none⟩ = some (.bool x.used) := H1.out.fr.cell hx (j := 4) (by omega) rfl
    have z2 := H1.out.fr.frozen (k * 5 + 2)
    have z4 := H1.out.fr.frozen (k * 5 + 4)
    rw [hh] at e2
    rw [hpay] at e1
    have hk0 : (0 : Int) ≤ (k : Int) := by omega
    have hk1 : (k : Int) < 5 := by omega
    have HX := hid hx
    have HB1 := hid hb1
    clear hx hb1 c0 c1
    go_wp2
    go_ret2
    refine ⟨rfl, ((Kp.of_below HB1.out).setCell (.inl (by simp [poOwn])) _).setCell (.inl (by simp [poOwn])) _, G.sec, p0, _, hand, k, { x with held := 1, used := true }, ⟨(H1.out.fr.set_ HX.out (j := 2) (y := { x with held := 1 }) (by omega) rfl).set_ (set_at HX.out) (j := 4) (y := { x with held := 1, used := true }) (by omega) rfl, H1.out.sh.of_blocks (fun c hc => ?_), H1.out.np, H1.out.nf, H1.out.rl.same ?_⟩, set_at (set_at HX.out), hx2, rfl, fun j y hj hy => ?_⟩
    · have hne : c ≠ P.f := fun e => H1.out.nf (by rwa [e] at hc)
      rw [Below.heap_setCell _ ⟨P.f, k * 5 + 4, none⟩ _ c hne, Below.heap_setCell _ ⟨P.f, k * 5 + 2, none⟩ _ c hne]
    · exact (core_set (set_at HX.out) (y := { x with held := 1, used := true }) (by rfl)).trans (core_set HX.out (y := { x with held := 1 }) (by rfl))
    · rw [List.set_set] at hy
      rcases set_get hy with ⟨rfl, rfl⟩ | ⟨hne, h1⟩
      · exact absurd rfl hj
      · exact H0.out j y h1
end
end Go.Proofs.YtnnghcooidjlhaaGreat
end
