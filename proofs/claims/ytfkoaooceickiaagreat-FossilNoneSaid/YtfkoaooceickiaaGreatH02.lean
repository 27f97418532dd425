/- Parts of the proof: Ig Ih Jd Ji Ma Jj Me Mh Ve Eb Q Fs Mk Gs. -/
import Derived.Deep.AppendLies
import Derived.Deep.RegionLaw
import Derived.Laws.Append
import Derived.Laws.EntriesVeiled
import Derived.Deep.AppendSrc
import Derived.Deep.Quiet
import Derived.Deep.QuietTactic
import Derived.Tactics2
import Derived.KernelRfl
import Derived.WalkKit
import Derived.WalkSpells
import Derived.WalkLawsBesides
import Derived.Laws.BytesArg
import Derived.Laws.IdiomCopy
import Derived.Laws.AppendOwn
import Derived.Lib.ConvBytes
import Derived.Lib.SmallJoins
import Derived.Lib.Hide
import Derived.Test.YtfkoaooceickiaaGreatH01
set_option linter.all false
set_option maxRecDepth 100000
namespace Go.Proofs.YtfkoaooceickiaaGreat
section
open Go.RowKit Go.Lib
structure Kb (B : Nat) (O : List Nat) (w w' : World) : Prop where
 os : w'.os = w.os
 tape : w'.tape = w.tape
 output : w'.output = w.output
 size : w.heap.size ≤ w'.heap.size
 block : ∀ b, b < B → b ∉ O → w'.heap[b]? = w.heap[b]?
namespace Kb
variable {B n : Nat} {O O' : List Nat} {w w' w'' : World}
theorem trans_gr (h : Kb B O w w') (hg : Gr O n O') (hn : B ≤ n) (k : Kb B O' w' w'') : Kb B O w w'' :=
 ⟨k.os.trans h.os, k.tape.trans h.tape, k.output.trans h.output, Nat.le_trans h.size k.size, fun b hb ho => (k.block b hb (hg.out (by omega) ho)).trans (h.block b hb ho)⟩
theorem setCell (h : Kb B O w w') {p : Addr} (hp : B ≤ p.block) (u : Value) : Kb B O w (w'.setCell p u) :=
 ⟨h.os, h.tape, h.output, by simpa [World.setCell] using h.size, fun b hb ho => (Below.heap_setCell w' p u b (by omega)).trans (h.block b hb ho)⟩
end Kb
end
section
open Go.RowKit Go.Lib
def slOf (W : World) (p : Addr) : Value := (W.cell? p).getD (.bool false)
attribute [irreducible] slOf
end
section
open Go.RowKit Go.Lib
def getR : Option Bs → Value
 | some v => .tuple #[.string (S v), .int .i64 0]
 | none => .tuple #[.string ⟨#[]⟩, .int .i64 9]
end
section
open Go.RowKit Go.Lib
theorem run_app_fresh {P : Program} (w : World) (base : Nat) (t ty e : TypeId) (i : TypeInfo) (z : Value) (size bytes : Nat) (ht : P.underlying t = some (.slice e)) (hi : P.info? e = some i) (hz : i.zero = some z)
  (hsize : i.size = size) (hby : i.bytes = bytes) (hzs : z.cells.size = size) (hsz : 0 < size) (v : Value) (n : Nat) (xs : List Value) (hown : w.ownsRow base e size v n xs)
  (a : Addr) (c : Nat) (news : List Value) (hl : news.length = size) (hnews : ∀ j u, news[j]? = some u → w.cell? (a.add j) = some u) (h1 : ∀ u ∈ news, u.oneCell' = true)
  (h63 : n + 1 ≤ maxLen) (hbytes : (n + 1) * bytes ≤ 140737488355328) (hbase : base ≤ w.heap.size) :
  ∃ v' w', (Builtin.append_ #[t, t] ty #[v, .slice (some a) 1 c]).run P w = .ok v' w' ∧ w'.ownsRow base e size v' (n + 1) (xs ++ news) ∧ w.grownBy w' v.ownBlock ∧ ∀ g, v'.ownBlock = some g → v.ownBlock = some g ∨ w.heap.size ≤ g := by
 obtain ⟨v', w', hr, h2, h3, _⟩ := run_append_own (P := P) w base t ty e i z size bytes ht hi hz hsize hby hzs hsz v n xs hown a 1 c news (by rw [hl, Nat.one_mul]) hnews h1 h63 hbytes hbase
 refine ⟨v', w', hr, h2, h3, fun g hg => ?_⟩
 subst hsize hby
 have h47 : n + 1 ≤ 9223372036854775807 := by simp only [maxLen] at h63; omega
 rcases hown.2 with ⟨rfl, h0⟩ | ⟨q, cap, cur, rfl, hbg, hq, hnc, hcm, hcs, htake⟩
 ·subst h0
  have hr2 := run_append_nil (P := P) w t ty e i z ht hi hz a 1 c news (by rw [hl, Nat.one_mul]) hnews (by omega) (by omega) (by rw [Nat.zero_add] at hbytes; omega)
  rw [hr] at hr2
  injection hr2 with e1 _
  subst e1
  simp [Value.ownBlock] at hg
  exact .inr (by omega)
 ·by_cases hroom : n + 1 ≤ cap
  ·have hr2 := run_append_room (P := P) w t ty e i ht hi q n cap cur hq a 1 c news (by rw [hl, Nat.one_mul]) hnews h1 hroom (by rw [hl, hcs]; have := Nat.mul_le_mul_right i.size hroom; rw [Nat.add_mul, Nat.one_mul] at this; exact this)
   rw [hr] at hr2
   injection hr2 with e1 _
   subst e1
   exact .inl (by simpa [Value.ownBlock] using hg)
  ·have hr2 := run_append_grow (P := P) w t ty e i z ht hi hz ⟨q, 0, none⟩ n cap xs hown.1 (hown.cells (g := q) rfl) a 1 c news (by rw [hl, Nat.one_mul]) hnews (by omega) (by omega) (growslice_fits (by omega) hbytes)
   rw [hr] at hr2
   injection hr2 with e1 _
   subst e1
   simp [Value.ownBlock] at hg
   exact .inr (by omega)
/-! going through entries in a range, as long as it is wanted -/
section
variable (more : List En → Bool) (fr to : Bs)
variable {more fr to}
end
end
section
/-! maps -/
/-! all of some keys taken out -/
/-! parts -/
section
variable {M : List KV} {p q : Bs} (hp : p.length = 2)
include hp
end
end
section
open Go.RowKit Go.Lib
structure Ei where
 sb : Nat
 xb : Nat
 fb : Nat
 ob : Nat
 db : Nat
 kb : Nat
def Ei.caps (i : Ei) : Array Value := #[.pointer (some ⟨i.sb, 0, none⟩), .pointer (some ⟨i.xb, 0, none⟩), .pointer (some ⟨i.fb, 0, none⟩), .pointer (some ⟨i.ob, 0, none⟩), .pointer (some ⟨i.db, 0, none⟩), .pointer (some ⟨i.kb, 0, none⟩)]
def Ei.l (i : Ei) (tb : Nat) : List Nat := [tb, i.xb, i.fb, i.ob, i.db, i.kb]
end
section
open Go.RowKit Go.Lib
def strC (b : Bs) : List Value := [.string (S b)]
end
section
open Go.RowKit Go.Lib
structure SL where
 sb : Nat
 tb : Nat
 P : PL
end
section
open Go.RowKit Go.Lib
section
variable {α : Type} {k : Nat} {enc : α → List Value} {w w' : World} {v : Value} {l : List α}
structure Vw (k : Nat) (enc : α → List Value) (w : World) (v : Value) (l : List α) : Prop where
 form : ∃ p c, v = .slice p l.length c ∧ l.length ≤ c ∧ (l = [] ∨ ∃ b off, p = some ⟨b, off, none⟩ ∧ b < w.heap.size ∧ ∀ i x, l[i]? = some x → ∀ q u, (enc x)[q]? = some u → w.cell? ⟨b, off + i * k + q, none⟩ = some u)
theorem Vw.of_block (h : Vw k enc w v l) (e : ∀ b, b < w.heap.size → v.ownBlock = some b → w'.heap[b]? = w.heap[b]?) (hs : w.heap.size ≤ w'.heap.size) : Vw k enc w' v l := by
 obtain ⟨p, c, rfl, hc, g⟩ := h.form
 refine ⟨p, c, rfl, hc, ?_⟩
 rcases g with g | ⟨b, off, rfl, hb, hx⟩
 ·exact .inl g
 ·exact .inr ⟨b, off, rfl, Nat.lt_of_lt_of_le hb hs, fun i x hi q u hu => (World.cell?_of_block (e b hb rfl)).trans (hx i x hi q u hu)⟩
theorem Vw.below (h : Vw k enc w v l) (hb : Below w.heap.size w w') : Vw k enc w' v l := h.of_block (fun b hlt _ => hb.block b hlt) hb.size
theorem Vw.nil (k : Nat) (enc : α → List Value) (w : World) (p : Option Addr) (c : Nat) : Vw k enc w (.slice p 0 c) [] := ⟨p, c, rfl, Nat.zero_le _, .inl rfl⟩
theorem Vw.slice (h : Vw k enc w v l) : ∃ p c, v = .slice p l.length c ∧ l.length ≤ c := by
 obtain ⟨p, c, h1, h2, _⟩ := h.form
 exact ⟨p, c, h1, h2⟩
theorem Vw.ex (h : Vw k enc w v l) (hn : l ≠ []) : ∃ b off c, v = .slice (some ⟨b, off, none⟩) l.length c ∧ l.length ≤ c ∧ b < w.heap.size ∧ ∀ i x, l[i]? = some x → ∀ q u, (enc x)[q]? = some u → w.cell? ⟨b, off + i * k + q, none⟩ = some u := by
 obtain ⟨p, c, h1, h2, g⟩ := h.form
 obtain ⟨b, off, rfl, g1, g2⟩ := g.resolve_left hn
 exact ⟨b, off, c, h1, h2, g1, g2⟩
theorem Vw.of_own {B n : Nat} {T : TypeId} (hk : ∀ x, (enc x).length = k) (h : w.ownsRow B T k v n (rowV enc l)) (hn : n = l.length) : Vw k enc w v l := by
 subst hn
 by_cases h0 : l = []
 ·obtain ⟨p, c, rfl⟩ := own_slice2 h
  exact ⟨p, c, rfl, by rw [h0]; exact Nat.zero_le _, .inl h0⟩
 ·obtain ⟨g, c, rfl, hg1, hg2, hg3⟩ := own_form h (List.length_pos_iff.2 h0)
  refine ⟨_, c, rfl, hg3, .inr ⟨g, 0, rfl, hg2, fun i x hx q u hu => ?_⟩⟩
  have hq : q < k := by
   have := (List.getElem?_eq_some_iff.1 hu).1
   rwa [hk] at this
  rw [Nat.zero_add]
  exact own_at h rfl (j := i * k + q) ((rowV_get hk l i x hx q hq).trans hu)
theorem Vw.one {T : TypeId} {x : α} {b c : Nat} (h : Blk w b T (enc x).toArray) (hc : 1 ≤ c) : Vw k enc w (.slice (some ⟨b, 0, none⟩) 1 c) [x] := by
 refine ⟨_, c, rfl, hc, .inr ⟨b, 0, rfl, h.lt, fun i y hy q u hu => ?_⟩⟩
 rcases i with _ | i
 ·simp at hy
  subst hy
  rw [Nat.zero_mul, Nat.add_zero, Nat.zero_add, h.cell]
  simpa using hu
 ·simp at hy
theorem Vw.take {b off c : Nat} (h : Vw k enc w (.slice (some ⟨b, off, none⟩) l.length c) l) (i : Nat) (hi : i ≤ l.length) : Vw k enc w (.slice (some ⟨b, off, none⟩) i c) (l.take i) := by
 obtain ⟨p, c', e, hc, g⟩ := h.form
 injection e with e1 _ e3
 subst e1 e3
 refine ⟨_, c, by rw [List.length_take, Nat.min_eq_left hi], by rw [List.length_take]; omega, ?_⟩
 by_cases h0 : l = []
 ·exact .inl (by rw [h0]; simp)
 ·obtain ⟨b', off', e, hb, hx⟩ := g.resolve_left h0
  injection e with e
  injection e with e1 e2 _
  subst e1 e2
  refine .inr ⟨b, off, rfl, hb, fun j x hj q u hu => hx j x ?_ q u hu⟩
  rw [List.getElem?_take] at hj
  split at hj
  ·exact hj
  ·cases hj
theorem Vw.drop {b off c : Nat} (h : Vw k enc w (.slice (some ⟨b, off, none⟩) l.length c) l) (i : Nat) (hi : i ≤ l.length) : Vw k enc w (.slice (some ⟨b, off + i * k, none⟩) (l.length - i) (c - i)) (l.drop i) := by
 obtain ⟨p, c', e, hc, g⟩ := h.form
 injection e with e1 _ e3
 subst e1 e3
 refine ⟨_, c - i, by rw [List.length_drop], by rw [List.length_drop]; omega, ?_⟩
 by_cases h0 : l = []
 ·exact .inl (by rw [h0]; simp)
 ·obtain ⟨b', off', e, hb, hx⟩ := g.resolve_left h0
  injection e with e
  injection e with e1 e2 _
  subst e1 e2
  refine .inr ⟨b, off + i * k, rfl, hb, fun j x hj q u hu => ?_⟩
  rw [List.getElem?_drop] at hj
  rw [show off + i * k + j * k + q = off + (i + j) * k + q by rw [Nat.add_mul]; omega]
  exact hx (i + j) x hj q u hu
theorem Vw.cells (hk : ∀ x, (enc x).length = k) {b off c : Nat} (h : Vw k enc w (.slice (some ⟨b, off, none⟩) l.length c) l) : ∀ j u, (rowV enc l)[j]? = some u → w.cell? ⟨b, off + j, none⟩ = some u := by
 intro j u hj
 have hlt : j < (rowV enc l).length := (List.getElem?_eq_some_iff.1 hj).1
 rw [rowV_length hk] at hlt
 have hk0 : 0 < k := Nat.pos_of_ne_zero (by rintro rfl; simp at hlt)
 have hd := Nat.div_add_mod j k
 have hm := Nat.mod_lt j hk0
 have hjl : j / k < l.length := (Nat.div_lt_iff_lt_mul hk0).2 hlt
 obtain ⟨p, c', e, hc, g⟩ := h.form
 have h0 : l ≠ [] := by rintro rfl; simp at hjl
 obtain ⟨b', off', rfl, hb, hx⟩ := g.resolve_left h0
 injection e with e _ _
 injection e with e
 injection e with e1 e2 _
 subst e1 e2
 obtain ⟨x, hxx⟩ : ∃ x, l[j / k]? = some x := ⟨_, List.getElem?_eq_getElem hjl⟩
 have hr := rowV_get hk l (j / k) x hxx (j % k) hm
 rw [show j / k * k + j % k = j by rw [Nat.mul_comm]; exact hd] at hr
 have := hx (j / k) x hxx (j % k) u (by rw [← hr]; exact hj)
 rw [show off + j / k * k + j % k = off + j by rw [Nat.mul_comm]; omega] at this
 exact this
end
theorem run_app_all (t ty : TypeId) {α : Type} (enc : α → List Value) {e : TypeId} {z : Value} {size bytes : Nat} (hi : Inf e z size bytes) (ht : Tryz.prog.underlying t = some (.slice e))
  (hzs : z.cells.size = size) (hsz : 0 < size) (hby : bytes ≤ 1000) (hk : ∀ x, (enc x).length = size) (hone : ∀ x, ∀ u ∈ enc x, u.oneCell' = true) {B : Nat} {W : World} {v xv : Value} {l l2 : List α} {n : Nat} (hown : W.ownsRow B e size v n (rowV enc l)) (hv2 : Vw size enc W xv l2) (hn : n + l2.length ≤ 100000) (hB : B ≤ W.heap.size) :
  ∃ v' w', (Builtin.append_ #[t, t] ty #[v, xv]).run Tryz.prog W = .ok v' w' ∧ w'.ownsRow B e size v' (n + l2.length) (rowV enc (l ++ l2)) ∧ Kp v.ownBlock.toList W w' := by
 obtain ⟨i0, hi0, hz0, hz1, hz2⟩ := info_parts hi
 by_cases h0 : l2 = []
 ·subst h0
  obtain ⟨p, c, rfl, hc⟩ := hv2.slice
  have hsrc : Src Tryz.prog i0.size t (.slice p 0 c) 0 [] W := by
   cases p with
   | none => exact Src.ofNil W ht c
   | some ad => exact Src.ofSlice W ht ad 0 c [] (by simp) (by simp) (by simp)
  have hvf : ∃ base sLen sCap, v = .slice base sLen sCap ∧ sLen ≤ sCap := by
   rcases hown.2 with ⟨rfl, _⟩ | ⟨g, cap, cur, rfl, _, _, hnc, _⟩
   ·exact ⟨_, _, _, rfl, Nat.le_refl _⟩
   ·exact ⟨_, _, _, rfl, hnc⟩
  obtain ⟨base, sLen, sCap, rfl, hle⟩ := hvf
  refine ⟨_, W, ?_, by simpa using hown, Kp.refl _ _⟩
  have hlen := hsrc.len
  have hcells := hsrc.cells
  rw [show ([] : List α).length = 0 from rfl]
  cases base <;> simp [Builtin.append_, run_underlying ht, sizeOf, typeInfo, hi0, hlen, hle, hcells, storeCells]
 ·obtain ⟨b, off, c, rfl, hc, hb, hxx⟩ := hv2.ex h0
  obtain ⟨v', w', hr, h2, h3, _⟩ := run_append_own (P := Tryz.prog) W B t ty e i0 z size bytes ht hi0 hz0 hz1 hz2 hzs hsz v n _ hown ⟨b, off, none⟩ l2.length c (rowV enc l2) (rowV_length hk l2) (fun j u hj => by rw [Addr.add_lit]; exact hv2.cells hk j u hj) (rowV_one hone l2) (by unfold maxLen; omega)
   (by
    have : (n + l2.length) * bytes ≤ 100000 * 1000 := Nat.mul_le_mul (by omega) hby
    omega) hB
  exact ⟨v', w', hr, by rw [rowV_append]; exact h2, (Kp.refl _ W).grown h3 (fun g hg => .inl (Option.mem_toList.2 hg))⟩
section
variable {ops : Array Oper} {o : Oper} {a : Act} {Q : Exit → Act → World → Prop} {α : Type} {e : TypeId} {z : Value} {size bytes : Nat} {B : Nat} {W : World} {v xv : Value} {l l2 : List α} {n : Nat}
theorem app_all {rest : List Oper} (hgd : o.guard = none) (s x : Operand) (t : TypeId)
  (ho : o.op = .call { callee := .builtin .append, args := #[s, x], argTypes := #[t, t] }) (enc : α → List Value) (hi : Inf e z size bytes) (ht : Tryz.prog.underlying t = some (.slice e))
  (hzs : z.cells.size = size) (hsz : 0 < size) (hby : bytes ≤ 1000) (hk : ∀ x, (enc x).length = size) (hone : ∀ x, ∀ u ∈ enc x, u.oneCell' = true) (hown : W.ownsRow B e size v n (rowV enc l)) (hv2 : Vw size enc W xv l2) (hn : n + l2.length ≤ 100000) (hB : B ≤ W.heap.size)
  (hs : a.eval s = v) (hx : a.eval x = xv)
  (h : ∀ v' w', w'.ownsRow B e size v' (n + l2.length) (rowV enc (l ++ l2)) → Kp v.ownBlock.toList W w' → wpList Tryz.prog ops Q rest (a.put o.dst v') w') : wpList Tryz.prog ops Q (o :: rest) a W := by
 refine wpList_plain hgd fun K hK => ?_
 obtain ⟨v', w', hr, h2, h3⟩ := run_app_all t o.type enc hi ht hzs hsz hby hk hone hown hv2 hn hB
 unfold Oper.wp execOp
 simp only [ho, resolve, invoke, builtin, Sem.run_bind, Sem.run_pure, Result.andThen_ok, List.map_toArray, List.map_cons, List.map_nil, hs, hx, hr]
 exact hK _ _ (h v' w' h2 h3)
theorem step_app_all {K : Act → World → Prop} {E : Prop} (hgd : o.guard = none) (s x : Operand) (t : TypeId)
  (ho : o.op = .call { callee := .builtin .append, args := #[s, x], argTypes := #[t, t] }) (enc : α → List Value) (hi : Inf e z size bytes) (ht : Tryz.prog.underlying t = some (.slice e))
  (hzs : z.cells.size = size) (hsz : 0 < size) (hby : bytes ≤ 1000) (hk : ∀ x, (enc x).length = size) (hone : ∀ x, ∀ u ∈ enc x, u.oneCell' = true) (hown : W.ownsRow B e size v n (rowV enc l)) (hv2 : Vw size enc W xv l2) (hn : n + l2.length ≤ 100000) (hB : B ≤ W.heap.size)
  (hs : a.eval s = v) (hx : a.eval x = xv)
  (h : ∀ v' w', w'.ownsRow B e size v' (n + l2.length) (rowV enc (l ++ l2)) → Kp v.ownBlock.toList W w' → K (a.put o.dst v') w') :
  if Region.wanted o (yielded ops a.tmps) = true then Oper.wp Tryz.prog o a W K Q else E := by
 rw [if_pos (by unfold Region.wanted; rw [hgd])]
 obtain ⟨v', w', hr, h2, h3⟩ := run_app_all t o.type enc hi ht hzs hsz hby hk hone hown hv2 hn hB
 unfold Oper.wp execOp
 simp only [ho, resolve, invoke, builtin, Sem.run_bind, Sem.run_pure, Result.andThen_ok, List.map_toArray, List.map_cons, List.map_nil, hs, hx, hr]
 exact h v' w' h2 h3
end
end
section
open Go.RowKit Go.Lib
theorem inC_len (x : In) : (inC x).length = 4 := rfl
theorem iniC_len (x : Ini) : (iniC x).length = 3 := rfl
def flC (d : Nat) : List Value := [.float .f64 d]
theorem flC_len (d : Nat) : (flC d).length = 1 := rfl
def wdC (d : Int) : List Value := [.int .i64 d]
theorem wdC_len (d : Int) : (wdC d).length = 1 := rfl
structure Prg where
 p : Option Addr
 n : Nat
 c : Nat
 l : List In
def prC (q : Prg) : List Value := [.slice q.p q.n q.c]
theorem prC_len (q : Prg) : (prC q).length = 1 := rfl
structure LpR where
 k : Int
 p : Option Addr
 n : Nat
 c : Nat
 l : List Int
def lpC (q : LpR) : List Value := [.int .i64 q.k, .slice q.p q.n q.c]
theorem lpC_len (q : LpR) : (lpC q).length = 2 := rfl
structure MdV where
 seed : Int
 en : Nat
 dp : Option Addr
 dn : Nat
 dc : Nat
 dl : List Nat
 pp : Option Addr
 pn : Nat
 pc : Nat
 ps : List Prg
 lp : Option Addr
 ln : Nat
 lc : Nat
 ls : List LpR
 ip : Option Addr
 im : Nat
 ic : Nat
 is : List Ini
def mdC (x : MdV) : List Value := [.int .i64 x.seed, .float .f64 x.en, .slice x.dp x.dn x.dc, .slice x.pp x.pn x.pc, .slice x.lp x.ln x.lc, .slice x.ip x.im x.ic]
def MdV.m (x : MdV) : Mdl := ⟨x.seed, x.en, x.dl, x.ps.map Prg.l, x.ls.map fun q => (q.k, q.l), x.is⟩
structure MdAt (W : World) (x : MdV) : Prop where
 d : Vw 1 flC W (.slice x.dp x.dn x.dc) x.dl
 dn : x.dn = x.dl.length
 p : Vw 1 prC W (.slice x.pp x.pn x.pc) x.ps
 pn : x.pn = x.ps.length
 pi : ∀ q ∈ x.ps, q.n = q.l.length ∧ Vw 4 inC W (.slice q.p q.n q.c) q.l
 l : Vw 2 lpC W (.slice x.lp x.ln x.lc) x.ls
 ln : x.ln = x.ls.length
 li : ∀ q ∈ x.ls, q.n = q.l.length ∧ Vw 1 wdC W (.slice q.p q.n q.c) q.l
 i : Vw 3 iniC W (.slice x.ip x.im x.ic) x.is
 im : x.im = x.is.length
theorem MdAt.below {W W' : World} {x : MdV} (h : MdAt W x) (hb : Below W.heap.size W W') : MdAt W' x :=
 ⟨h.d.below hb, h.dn, h.p.below hb, h.pn, fun q hq => ⟨(h.pi q hq).1, (h.pi q hq).2.below hb⟩, h.l.below hb, h.ln, fun q hq => ⟨(h.li q hq).1, (h.li q hq).2.below hb⟩, h.i.below hb, h.im⟩
end
section
section
variable {P : Program} {ops : Array Oper} {C : World → Prop}
def vUpon (C : World → Prop) (V : Value → Prop) : Result Next → Prop
 | .ok (.value u) w' => C w' ∧ V u
 | .ok .skip w' => C w' ∧ V undef
 | _ => False
def vAt (P : Program) (o : Oper) (a : Act) (C : World → Prop) (V : Value → Prop) : Prop := ∀ w, C w → vUpon C V ((execOp a.eval o).run P w)
def vOne (P : Program) (o : Oper) (a : Act) (C : World → Prop) (next : Act → Prop) : Prop := ∃ V, vAt P o a C V ∧ ∀ v, V v → next (a.put o.dst v)
def wpV (P : Program) (ops : Array Oper) (C : World → Prop) (Q : Act → Prop) : List Oper → Act → Prop
 | [], a => Q a
 | o :: rest, a => if Region.wanted o (yielded ops a.tmps) then vOne P o a C (wpV P ops C Q rest) else wpV P ops C Q rest (a.put o.dst undef)
end
attribute [irreducible] wpV
end
section
open Go.RowKit
@[go_sem] theorem fold_eq (x y : Nat) : (FloatKind.f64.format.order x y == some Ordering.eq) = feq x y := rfl
@[go_sem] theorem fold_ne (x y : Nat) : (FloatKind.f64.format.order x y != some Ordering.eq) = !feq x y := rfl
@[go_sem] theorem fold_lt (x y : Nat) : (FloatKind.f64.format.order x y == some Ordering.lt) = flt x y := rfl
@[go_sem] theorem fold_gt (x y : Nat) : (FloatKind.f64.format.order x y == some Ordering.gt) = fgt x y := rfl
@[go_sem] theorem fold_ge (x y : Nat) : (fgt x y || feq x y) = fge x y := rfl
@[go_sem] theorem fold_le (x y : Nat) : (flt x y || feq x y) = fle x y := rfl
@[go_sem] theorem feq_self (x : Nat) : feq x x = !fnan x := by unfold feq fnan; simp [bne]
def fsub (x y : Nat) : Option Nat := FloatKind.f64.format.sub x y
def fadd (x y : Nat) : Option Nat := FloatKind.f64.format.add x y
def fmul (x y : Nat) : Option Nat := FloatKind.f64.format.mul x y
def nanW (w : World) (x y : Nat) : Nat := (Question.nanBits .f64 x y).cut (w.tape w.drawn (.nanBits .f64 x y))
theorem fnan_nanW (w : World) (x y : Nat) : fnan (nanW w x y) = true := by
 rw [fnan_iff]
 unfold nanW Question.cut frung
 simp only
 generalize w.tape w.drawn (.nanBits .f64 x y) = t
 have h1 : t % 2 < 2 := Nat.mod_lt _ (by omega)
 have h2 : t / 2 % (2 ^ 52 - 1) < 2 ^ 52 - 1 := Nat.mod_lt _ (by omega)
 generalize t % 2 = s at h1
 generalize t / 2 % (2 ^ 52 - 1) = m at h2
 omega
def orNan (w : World) (x y : Nat) : Option Nat → Nat
 | some r => r
 | none => nanW w x y
def draws : Option Nat → Nat
 | some _ => 0
 | none => 1
section
variable {P : Program} (w : World) (t : TypeId) (x y : Nat)
@[go_sem] theorem run_fsub : (binOp .sub t (.float .f64 x) (.float .f64 y)).run P w = .ok (.float .f64 (orNan w x y (fsub x y))) (w.drewN (draws (fsub x y))) := by
 cases h : fsub x y with
 | some r => have h' : FloatKind.f64.format.sub x y = some r := h
             simp [binOp, Op.floatArith, h', orNan, draws, World.drewN_zero]
 | none => have h' : FloatKind.f64.format.sub x y = none := h
           simp [binOp, Op.floatArith, h', orNan, draws, nanW, choose, Question.forced, Sem.run, World.drewN]
@[go_sem] theorem run_fadd : (binOp .add t (.float .f64 x) (.float .f64 y)).run P w = .ok (.float .f64 (orNan w x y (fadd x y))) (w.drewN (draws (fadd x y))) := by
 cases h : fadd x y with
 | some r => have h' : FloatKind.f64.format.add x y = some r := h
             simp [binOp, Op.floatArith, h', orNan, draws, World.drewN_zero]
 | none => have h' : FloatKind.f64.format.add x y = none := h
           simp [binOp, Op.floatArith, h', orNan, draws, nanW, choose, Question.forced, Sem.run, World.drewN]
@[go_sem] theorem run_fmul : (binOp .mul t (.float .f64 x) (.float .f64 y)).run P w = .ok (.float .f64 (orNan w x y (fmul x y))) (w.drewN (draws (fmul x y))) := by
 cases h : fmul x y with
 | some r => have h' : FloatKind.f64.format.mul x y = some r := h
             simp [binOp, Op.floatArith, h', orNan, draws, World.drewN_zero]
 | none => have h' : FloatKind.f64.format.mul x y = none := h
           simp [binOp, Op.floatArith, h', orNan, draws, nanW, choose, Question.forced, Sem.run, World.drewN]
end
@[go_sem] theorem run_store_float {P : Program} (w : World) (a : Addr) (m : Mode) (k : FloatKind) (b : Nat) : (store a (.float k b) m).run P w = stored P w a (.float k b) m := run_store P w a _ m rfl
def oLt : Option Nat → Nat → Bool
 | some r, z => flt r z
 | none, _ => false
def oGt : Option Nat → Nat → Bool
 | some r, z => fgt r z
 | none, _ => false
def oEq : Option Nat → Nat → Bool
 | some r, z => feq r z
 | none, _ => false
theorem flt_nan_l {x : Nat} (h : fnan x = true) (y : Nat) : flt x y = false := by unfold flt; rw [ford_nan_l h]; rfl
theorem fgt_nan_l {x : Nat} (h : fnan x = true) (y : Nat) : fgt x y = false := by unfold fgt; rw [ford_nan_l h]; rfl
theorem feq_nan_l {x : Nat} (h : fnan x = true) (y : Nat) : feq x y = false := by unfold feq; rw [ford_nan_l h]; rfl
@[go_sem] theorem flt_orNan (w : World) (x y z : Nat) (o : Option Nat) : flt (orNan w x y o) z = oLt o z := by
 cases o with
 | some r => rfl
 | none => exact flt_nan_l (fnan_nanW w x y) z
@[go_sem] theorem fgt_orNan (w : World) (x y z : Nat) (o : Option Nat) : fgt (orNan w x y o) z = oGt o z := by
 cases o with
 | some r => rfl
 | none => exact fgt_nan_l (fnan_nanW w x y) z
@[go_sem] theorem feq_orNan (w : World) (x y z : Nat) (o : Option Nat) : feq (orNan w x y o) z = oEq o z := by
 cases o with
 | some r => rfl
 | none => exact feq_nan_l (fnan_nanW w x y) z
@[go_sem] theorem fnan_orNan (w : World) (x y : Nat) (o : Option Nat) : fnan (orNan w x y o) = (match o with | some r => fnan r | none => true) := by
 cases o with
 | some r => rfl
 | none => exact fnan_nanW w x y
def detUpon (w : World) (v : Value) : Result Next → Prop
 | .ok (.value u) w' => w' = w ∧ u = v
 | .ok .skip w' => w' = w ∧ undef = v
 | _ => False
def detOne (P : Program) (o : Oper) (a : Act) (w : World) (next : Act → Prop) : Prop := ∃ v, (∀ n, detUpon (w.drewN n) v ((execOp a.eval o).run P (w.drewN n))) ∧ next (a.put o.dst v)
attribute [go_sem] detOne detUpon
end
section
open Go.RowKit Go.Lib
theorem isnan_any (b : Nat) (w : World) :
  Calls Tryz.prog 99 #[.float .f64 b] w fun e w' => e = .returned (.bool (fnan b)) ∧ w = w' := by
 go_enter Tryz.func99, Tryz.ntmps99
 go_wp2
 go_ret
 exact ⟨by simp, rfl⟩
@[go_sem] theorem run_float64bits (b : Nat) (w : World) : (callFunc 229 #[.float .f64 b]).run Tryz.prog w = .ok (.value (.int .u64 b)) w := by
 rw [run_callFunc_extern (e := Extern.MathFloatBits.float64bits) Tryz.func229 (by kernel_rfl) (by kernel_rfl) (by kernel_rfl) (by kernel_rfl)]
 rfl
@[go_sem] theorem run_float64frombits (b : Int) (w : World) : (callFunc 108 #[.int .u64 b]).run Tryz.prog w = .ok (.value (.float .f64 b.toNat)) w := by
 rw [run_callFunc_extern (e := Extern.MathFloatBits.float64frombits) Tryz.func108 (by kernel_rfl) (by kernel_rfl) (by kernel_rfl) (by kernel_rfl)]
 rfl
end
section
open Go.RowKit
def BelC (W1 : World) (W : World) : Prop := Below W1.heap.size W1 W
theorem BelC.out {W1 W : World} (h : BelC W1 W) : Below W1.heap.size W1 W := h
theorem BelC.refl (W1 : World) : BelC W1 W1 := Below.refl _ _
theorem BelC.drew (W1 : World) : BelC W1 W1.drew := below_drewN (Below.refl _ W1) 1
theorem BelC.call {P : Program} {W1 : World} {f : FuncId} {vs : Array Value} {v : Value} (hc : ∀ W, Calls P f vs W fun e w' => e = .returned v ∧ Below W.heap.size W w') : ∀ W, BelC W1 W → Calls P f vs W fun e w' => e = .returned v ∧ BelC W1 w' := fun W hW => by
 refine (hc W).mono ?_
 rintro e w' ⟨rfl, hb⟩
 exact ⟨rfl, hW.out.trans (hb.mono hW.out.size)⟩
theorem BelC.blk {W1 W : World} {g : Nat} {t : TypeId} {cs : Array Value} (h : BelC W1 W) (hB : Blk W1 g t cs) : Blk W g t cs := hB.below h.out hB.lt
theorem BelC.alloc {W1 W : World} (h : BelC W1 W) (o : Obj) : BelC W1 (W.alloc o) := Below.alloc h (Below.size h) o
theorem BelC.trans {W1 W2 W3 : World} (h : BelC W1 W2) (k : BelC W2 W3) : BelC W1 W3 := Below.trans h (k.out.mono h.out.size)
theorem BelC.of {W1 W2 : World} (h : Below W1.heap.size W1 W2) : BelC W1 W2 := h
attribute [irreducible] BelC
end
end Go.Proofs.YtfkoaooceickiaaGreat
