/- Parts of the proof: Pr Pq Ps. -/
import Derived.Test.YtnnghcooidjlhaaGreatD02
import Derived.Test.YtnnghcooidjlhaaGreatD07
set_option linter.all false
set_option maxRecDepth 100000
namespace Go.Proofs.YtnnghcooidjlhaaGreat
section
open Go.RowKit Go.Lib
structure Rel (l : List Fr) (p0 pgs : List (Option Bs)) : Prop where
 none_ : ∀ q : Nat, (pgs[q]?).map Option.isSome = (p0[q]?).map Option.isSome
 dif : ∀ q : Nat, pgs[q]? = p0[q]? ∨ ∃ (i : Nat) (x : Fr), l[i]? = some x ∧ x.page = q ∧ x.dirty = true
 pay : ∀ (i : Nat) (x : Fr) (q : Nat), l[i]? = some x → x.page = q → pgs[q]? = some (some x.pay) ∧ x.pay.length = 232
 one : ∀ (i j : Nat) (x y : Fr) (q : Nat), l[i]? = some x → l[j]? = some y → x.page = q → y.page = q → i = j
 neg : ∀ (i : Nat) (x : Fr), l[i]? = some x → x.page < 0 → x.dirty = false
def core (x : Fr) : Int × Bs × Bool := (x.page, x.pay, x.dirty)
section
variable {l l' : List Fr} {p0 pgs : List (Option Bs)}
theorem core_get (h : l'.map core = l.map core) {i : Nat} {x' : Fr} (hi : l'[i]? = some x') : ∃ x, l[i]? = some x ∧ x.page = x'.page ∧ x.pay = x'.pay ∧ x.dirty = x'.dirty := by
 have h1 : (l'.map core)[i]? = some (core x') := by simp [hi]
 rw [h] at h1
 simpa [core] using h1
theorem core_clr (h : l'.map clr = l.map clr) : l'.map core = l.map core := by
 have e : core = core ∘ clr := rfl
 rw [e, ← List.map_map, ← List.map_map, h]
theorem core_set {i : Nat} {x y : Fr} (hi : l[i]? = some x) (h : core y = core x) : (l.set i y).map core = l.map core := by
 rw [List.map_set, h]
 obtain ⟨h1, h2⟩ := List.getElem?_eq_some_iff.1 hi
 apply List.ext_getElem?
 intro j
 rw [List.getElem?_set]
 by_cases hj : i = j
 ·subst hj; simp [h1, h2]
 ·rw [if_neg hj]
theorem Rel.same (h : Rel l p0 pgs) (e : l'.map core = l.map core) : Rel l' p0 pgs := by
 refine ⟨h.none_, fun q => ?_, fun i x q hi hq => ?_, fun i j x y q hi hj hx hy => ?_, fun i x hi hx => ?_⟩
 ·rcases h.dif q with h1 | ⟨i, x, h1, h2, h3⟩
  ·exact .inl h1
  ·obtain ⟨y, g1, g2, _, g3⟩ := core_get e.symm h1
   exact .inr ⟨i, y, g1, by rw [g2, h2], by rw [g3, h3]⟩
 ·obtain ⟨y, g1, g2, g3, _⟩ := core_get e hi
  have := h.pay i y q g1 (by rw [g2, hq])
  rwa [g3] at this
 ·obtain ⟨x', g1, g2, _⟩ := core_get e hi
  obtain ⟨y', k1, k2, _⟩ := core_get e hj
  exact h.one i j x' y' q g1 k1 (by rw [g2, hx]) (by rw [k2, hy])
 ·obtain ⟨y, g1, g2, _, g3⟩ := core_get e hi
  rw [← g3]
  exact h.neg i y g1 (by rw [g2]; exact hx)
theorem get_lt {α : Type} (l : List α) (r : Nat) : (l[r]?).isSome = true ↔ r < l.length := by
 rw [Option.isSome_iff_exists]
 constructor
 ·rintro ⟨a, ha⟩; exact (List.getElem?_eq_some_iff.1 ha).1
 ·intro h; exact ⟨l[r], List.getElem?_eq_getElem h⟩
theorem Rel.lt_iff (h : Rel l p0 pgs) (r : Nat) : r < pgs.length ↔ r < p0.length := by
 have h1 := h.none_ r
 have e1 : (pgs[r]?).isSome = ((pgs[r]?).map Option.isSome).isSome := by simp
 have e2 : (p0[r]?).isSome = ((p0[r]?).map Option.isSome).isSome := by simp
 rw [← get_lt, ← get_lt, e1, e2, h1]
theorem set_get {i j : Nat} {y z : Fr} (h : (l.set i y)[j]? = some z) : (j = i ∧ z = y) ∨ (j ≠ i ∧ l[j]? = some z) := by
 rw [List.getElem?_set] at h
 split at h
 ·split at h
  ·injection h with h; exact .inl ⟨by omega, h.symm⟩
  ·cases h
 ·exact .inr ⟨by omega, h⟩
theorem set_at {i : Nat} {x y : Fr} (hi : l[i]? = some x) : (l.set i y)[i]? = some y := by
 have := (List.getElem?_eq_some_iff.1 hi).1
 simp [this]
theorem set_ne {i j : Nat} {y z : Fr} (hj : j ≠ i) (h : l[j]? = some z) : (l.set i y)[j]? = some z := by
 rw [List.getElem?_set, if_neg (Ne.symm hj)]; exact h
theorem Rel.below_some (h : Rel l p0 pgs) {q : Nat} {b : Bs} (hq : pgs[q]? = some (some b)) : ∃ b0, p0[q]? = some (some b0) := by
 have := h.none_ q
 rw [hq] at this
 cases h1 : p0[q]? with
 | none => rw [h1] at this; simp at this
 | some o =>
  cases o with
  | none => rw [h1] at this; simp at this
  | some b0 => exact ⟨b0, rfl⟩
theorem Rel.back (h : Rel l p0 pgs) {i : Nat} {x : Fr} {q : Nat} (hi : l[i]? = some x) (hq : x.page = q) : Rel (l.set i { x with dirty := false }) (p0.set q (some x.pay)) pgs := by
 obtain ⟨hp, hl⟩ := h.pay i x q hi hq
 obtain ⟨b0, hb0⟩ := h.below_some hp
 have hlt := (List.getElem?_eq_some_iff.1 hb0).1
 refine ⟨fun r => ?_, fun r => ?_, fun j y r hj hr => ?_, fun j k y z r hj hk hy hz => ?_, fun j y hj hy => ?_⟩
 ·rw [List.getElem?_set]
  by_cases hr : q = r
  ·subst hr; simp [hp, hlt]
  ·rw [if_neg hr]; exact h.none_ r
 ·rw [List.getElem?_set]
  by_cases hr : q = r
  ·subst hr; simp [hp, hlt]
  ·rw [if_neg hr]
   rcases h.dif r with h1 | ⟨j, y, h1, h2, h3⟩
   ·exact .inl h1
   ·refine .inr ⟨j, y, set_ne (fun e => ?_) h1, h2, h3⟩
    subst e; rw [hi] at h1; injection h1 with h1; subst h1; rw [hq] at h2; omega
 ·rcases set_get hj with ⟨rfl, rfl⟩ | ⟨hne, h1⟩
  ·exact h.pay j x r hi hr
  ·exact h.pay j y r h1 hr
 ·rcases set_get hj with ⟨rfl, rfl⟩ | ⟨hne, h1⟩
  ·rcases set_get hk with ⟨rfl, rfl⟩ | ⟨hne2, h2⟩
   ·rfl
   ·exact h.one _ _ x z r hi h2 hy hz
  ·rcases set_get hk with ⟨rfl, rfl⟩ | ⟨hne2, h2⟩
   ·exact h.one _ _ y x r h1 hi hy hz
   ·exact h.one _ _ y z r h1 h2 hy hz
 ·rcases set_get hj with ⟨rfl, rfl⟩ | ⟨hne, h1⟩
  ·rfl
  ·exact h.neg j y h1 hy
theorem Rel.load (h : Rel l p0 pgs) {i : Nat} {x y : Fr} {q : Nat} {b : Bs} (hi : l[i]? = some x) (hd : x.dirty = false) (hn : ∀ (j : Nat) z, l[j]? = some z → z.page ≠ q) (hb : pgs[q]? = some (some b)) (hbl : b.length = 232)
  (hy : y.page = q) (hy2 : y.pay = b) (hy3 : y.dirty = false) : Rel (l.set i y) p0 pgs := by
 refine ⟨h.none_, fun r => ?_, fun j z r hj hr => ?_, fun j k z u r hj hk hz hu => ?_, fun j z hj hz => ?_⟩
 ·rcases h.dif r with h1 | ⟨j, z, h1, h2, h3⟩
  ·exact .inl h1
  ·refine .inr ⟨j, z, set_ne (fun e => ?_) h1, h2, h3⟩
   subst e; rw [hi] at h1; injection h1 with h1; subst h1; rw [hd] at h3; cases h3
 ·rcases set_get hj with ⟨rfl, rfl⟩ | ⟨hne, h1⟩
  ·have : q = r := by omega
   subst this; rw [hy2]; exact ⟨hb, hbl⟩
  ·exact h.pay j z r h1 hr
 ·rcases set_get hj with ⟨rfl, rfl⟩ | ⟨hne, h1⟩
  ·rcases set_get hk with ⟨rfl, rfl⟩ | ⟨hne2, h2⟩
   ·rfl
   ·exact absurd (show u.page = q by omega) (hn k u h2)
  ·rcases set_get hk with ⟨rfl, rfl⟩ | ⟨hne2, h2⟩
   ·exact absurd (show z.page = q by omega) (hn j z h1)
   ·exact h.one _ _ z u r h1 h2 hz hu
 ·rcases set_get hj with ⟨rfl, rfl⟩ | ⟨hne, h1⟩
  ·exact hy3
  ·exact h.neg j z h1 hz
theorem Rel.put (h : Rel l p0 pgs) {i : Nat} {x y : Fr} {q : Nat} (hi : l[i]? = some x) (hq : x.page = q) (hy : y.page = q) (hl : y.pay.length = 232) (hd : y.dirty = true) : Rel (l.set i y) p0 (pgs.set q (some y.pay)) := by
 obtain ⟨hp, _⟩ := h.pay i x q hi hq
 have hlt := (List.getElem?_eq_some_iff.1 hp).1
 have hoth : ∀ (j : Nat) z, l[j]? = some z → j ≠ i → z.page ≠ q := fun j z hj hne e => hne (h.one j i z x q hj hi e hq)
 refine ⟨fun r => ?_, fun r => ?_, fun j z r hj hr => ?_, fun j k z u r hj hk hz hu => ?_, fun j z hj hz => ?_⟩
 ·rw [List.getElem?_set]
  by_cases hr : q = r
  ·subst hr
   have := h.none_ q
   rw [hp] at this
   simp [hlt]; rw [← this]; rfl
  ·rw [if_neg hr]; exact h.none_ r
 ·rw [List.getElem?_set]
  by_cases hr : q = r
  ·subst hr; exact .inr ⟨i, y, set_at hi, hy, hd⟩
  ·rw [if_neg hr]
   rcases h.dif r with h1 | ⟨j, z, h1, h2, h3⟩
   ·exact .inl h1
   ·refine .inr ⟨j, z, set_ne (fun e => ?_) h1, h2, h3⟩
    subst e; rw [hi] at h1; injection h1 with h1; subst h1; rw [hq] at h2; omega
 ·rcases set_get hj with ⟨rfl, rfl⟩ | ⟨hne, h1⟩
  ·have : q = r := by omega
   subst this; simp [hlt, hl]
  ·have h2 := h.pay j z r h1 hr
   have : q ≠ r := fun e => hoth j z h1 hne (by rw [e]; exact hr)
   rw [List.getElem?_set, if_neg this]
   exact h2
 ·rcases set_get hj with ⟨rfl, rfl⟩ | ⟨hne, h1⟩
  ·rcases set_get hk with ⟨rfl, rfl⟩ | ⟨hne2, h2⟩
   ·rfl
   ·exact absurd (show u.page = q by omega) (hoth k u h2 hne2)
  ·rcases set_get hk with ⟨rfl, rfl⟩ | ⟨hne2, h2⟩
   ·exact absurd (show z.page = q by omega) (hoth j z h1 hne)
   ·exact h.one _ _ z u r h1 h2 hz hu
 ·rcases set_get hj with ⟨rfl, rfl⟩ | ⟨hne, h1⟩
  ·omega
  ·exact h.neg j z h1 hz
theorem Rel.drop_ (h : Rel l p0 pgs) {q : Nat} (hn : ∀ (j : Nat) z, l[j]? = some z → z.page ≠ q) : Rel l (p0.set q none) (pgs.set q none) := by
 have hlen := h.lt_iff
 refine ⟨fun r => ?_, fun r => ?_, fun j z r hj hr => ?_, h.one, h.neg⟩
 ·rw [List.getElem?_set, List.getElem?_set]
  by_cases hr : q = r
  ·subst hr
   have := hlen q
   by_cases h1 : q < p0.length
   ·simp [h1, this.2 h1]
   ·simp [h1, (not_congr this).2 h1]
  ·rw [if_neg hr, if_neg hr]; exact h.none_ r
 ·rw [List.getElem?_set, List.getElem?_set]
  by_cases hr : q = r
  ·subst hr
   have := hlen q
   by_cases h1 : q < p0.length
   ·simp [h1, this.2 h1]
   ·simp [h1, (not_congr this).2 h1]
  ·rw [if_neg hr, if_neg hr]; exact h.dif r
 ·have h2 := h.pay j z r hj hr
  have : q ≠ r := fun e => hn j z hj (by rw [e]; exact hr)
  rw [List.getElem?_set, if_neg this]
  exact h2
theorem Rel.drop2 (h : Rel l p0 pgs) {i : Nat} {x y : Fr} {q : Nat} (hi : l[i]? = some x) (hq : x.page = q) (hy : y.page < 0) (hd : y.dirty = false) : Rel (l.set i y) (p0.set q none) (pgs.set q none) := by
 have hoth : ∀ (j : Nat) z, l[j]? = some z → j ≠ i → z.page ≠ q := fun j z hj hne e => hne (h.one j i z x q hj hi e hq)
 have hlen := h.lt_iff
 refine ⟨fun r => ?_, fun r => ?_, fun j z r hj hr => ?_, fun j k z u r hj hk hz hu => ?_, fun j z hj hz => ?_⟩
 ·rw [List.getElem?_set, List.getElem?_set]
  by_cases hr : q = r
  ·subst hr
   have := hlen q
   by_cases h1 : q < p0.length
   ·simp [h1, this.2 h1]
   ·simp [h1, (not_congr this).2 h1]
  ·rw [if_neg hr, if_neg hr]; exact h.none_ r
 ·rw [List.getElem?_set, List.getElem?_set]
  by_cases hr : q = r
  ·subst hr
   have := hlen q
   by_cases h1 : q < p0.length
   ·simp [h1, this.2 h1]
   ·simp [h1, (not_congr this).2 h1]
  ·rw [if_neg hr, if_neg hr]
   rcases h.dif r with h1 | ⟨j, z, h1, h2, h3⟩
   ·exact .inl h1
   ·refine .inr ⟨j, z, set_ne (fun e => ?_) h1, h2, h3⟩
    subst e; rw [hi] at h1; injection h1 with h1; subst h1; rw [hq] at h2; omega
 ·rcases set_get hj with ⟨rfl, rfl⟩ | ⟨hne, h1⟩
  ·omega
  ·have h2 := h.pay j z r h1 hr
   have : q ≠ r := fun e => hoth j z h1 hne (by rw [e]; exact hr)
   rw [List.getElem?_set, if_neg this]
   exact h2
 ·rcases set_get hj with ⟨rfl, rfl⟩ | ⟨hne, h1⟩
  ·omega
  ·rcases set_get hk with ⟨rfl, rfl⟩ | ⟨hne2, h2⟩
   ·omega
   ·exact h.one _ _ z u r h1 h2 hz hu
 ·rcases set_get hj with ⟨rfl, rfl⟩ | ⟨hne, h1⟩
  ·exact hd
  ·exact h.neg j z h1 hz
theorem Rel.len (h : Rel l p0 pgs) : pgs.length = p0.length := by
 have hlen := h.lt_iff
 have h1 := hlen pgs.length
 have h2 := hlen p0.length
 omega
theorem Rel.maps (h : Rel l p0 pgs) : pgs.map Option.isSome = p0.map Option.isSome := by
 apply List.ext_getElem?
 intro q
 rw [List.getElem?_map, List.getElem?_map]
 exact h.none_ q
theorem Rel.somes (h : Rel l p0 pgs) : somes pgs = somes p0 := by
 have e : ∀ x : List (Option Bs), Go.Proofs.YtnnghcooidjlhaaGreat.somes x = (x.map Option.isSome).countP id := fun x => by
  unfold Go.Proofs.YtnnghcooidjlhaaGreat.somes
  rw [List.countP_map]; rfl
 rw [e, e, h.maps]
theorem Rel.none_iff (h : Rel l p0 pgs) (q : Nat) : pgs[q]? = some none ↔ p0[q]? = some none := by
 have := h.none_ q
 rcases h1 : pgs[q]? with _ | _ | b <;> rcases h2 : p0[q]? with _ | _ | c <;> simp_all
theorem Rel.new_ (h : Rel l p0 pgs) {q : Nat} {b : Bs} (hq : p0[q]? = some none ∨ q = p0.length) : Rel l (newAt p0 q b) (newAt pgs q b) := by
 have hle : q ≤ p0.length := by
  rcases hq with h1 | h1
  ·exact Nat.le_of_lt (List.getElem?_eq_some_iff.1 h1).1
  ·omega
 have hle2 : q ≤ pgs.length := by rw [h.len]; exact hle
 have hno : ∀ c, pgs[q]? ≠ some (some c) := fun c hc => by
  obtain ⟨b0, hb0⟩ := h.below_some hc
  rcases hq with h1 | h1
  ·rw [h1] at hb0; cases hb0
  ·rw [h1] at hb0; simp at hb0
 refine ⟨fun r => ?_, fun r => ?_, fun j z r hj hr => ?_, h.one, h.neg⟩
 ·rw [newAt_get hle, newAt_get hle2]
  by_cases hr : r = q
  ·rw [if_pos hr, if_pos hr]
  ·rw [if_neg hr, if_neg hr]; exact h.none_ r
 ·rw [newAt_get hle, newAt_get hle2]
  by_cases hr : r = q
  ·rw [if_pos hr, if_pos hr]; exact .inl rfl
  ·rw [if_neg hr, if_neg hr]; exact h.dif r
 ·have h2 := h.pay j z r hj hr
  have : r ≠ q := fun e => hno z.pay (by rw [← e]; exact h2.1)
  rw [newAt_get hle2, if_neg this]
  exact h2
end
end
section
open Go.RowKit Go.Lib
structure PoX (w : World) (P : PL) (G : ShG) (l : List Fr) (hand : Nat) (p0 pgs : List (Option Bs)) : Prop where
 fr : FrI w P l hand
 sh : ShI w P.S G p0
 np : P.p ∉ shOwn P.S G
 nf : P.f ∉ shOwn P.S G
 rl : Rel l p0 pgs
def poOwn (P : PL) (G : ShG) : List Nat := P.p :: P.f :: shOwn P.S G
section
variable {w w' : World} {P : PL} {G : ShG} {l : List Fr} {hand : Nat} {p0 pgs : List (Option Bs)}
theorem PoX.of_blocks (h : PoX w P G l hand p0 pgs) (e : ∀ b ∈ poOwn P G, w'.heap[b]? = w.heap[b]?) : PoX w' P G l hand p0 pgs :=
 ⟨h.fr.of_blocks (e _ (by simp [poOwn])) (e _ (by simp [poOwn])), h.sh.of_blocks (fun b hb => e b (by simp [poOwn, hb])), h.np, h.nf, h.rl⟩
theorem PoX.lts (h : PoX w P G l hand p0 pgs) : ∀ b ∈ poOwn P G, b < w.heap.size := by
 intro b hb
 simp [poOwn] at hb
 rcases hb with rfl | rfl | hb
 ·exact h.fr.c.lt
 ·exact h.fr.f_lt
 ·exact h.sh.lts b hb
theorem PoX.below (h : PoX w P G l hand p0 pgs) (hb : Below w.heap.size w w') : PoX w' P G l hand p0 pgs := h.of_blocks fun b hx => hb.block b (h.lts b hx)
set_option maxHeartbeats 400000 in
theorem po_back (h : PoX w P G l hand p0 pgs) {i : Nat} {x : Fr} (hi : l[i]? = some x) :
  Calls Tryz.prog 280 #[.pointer (some ⟨P.p, 0, none⟩), .int .i64 i] w fun e w' => e = .returned (.int .i64 0) ∧ Kp (poOwn P G) w w' ∧ ∃ sec p0', PoX w' P { G with sec := sec } (l.set i { x with dirty := false }) hand p0' pgs := by
 have c1 := h.fr.c1
 have c0 := h.fr.c0
 have g0 : w.cell? ⟨P.f, i * 5, none⟩ = some (.int .i64 x.page) := h.fr.cell hi (j := 0) (by omega) rfl
 have g1 : w.cell? ⟨P.f, i * 5 + 1, none⟩ = some (.string (S x.pay)) := h.fr.cell hi (j := 1) (by omega) rfl
 have g3 : w.cell? ⟨P.f, i * 5 + 3, none⟩ = some (.bool x.dirty) := h.fr.cell hi (j := 3) (by omega) rfl
 have hi5 : i < 5 := by have := (List.getElem?_eq_some_iff.1 hi).1; rw [h.fr.n] at this; exact this
 have hi0 : (0 : Int) ≤ (i : Int) := by omega
 have hi1 : (i : Int) < 5 := by omega
 have H := hid h
 have HI := hid hi
 clear h hi
 cases hd : x.dirty with
 | false =>
  rw [hd] at g3
  go_enter Tryz.func280, Tryz.ntmps280
  go_wp2
  go_ret
  have e : l.set i { x with dirty := false } = l := by
   have : ({ x with dirty := false } : Fr) = x := by rw [← hd]
   rw [this]
   apply List.ext_getElem?
   intro j
   rw [List.getElem?_set]
   by_cases hj : i = j
   ·subst hj; rw [if_pos rfl, if_pos (List.getElem?_eq_some_iff.1 HI.out).1, HI.out]
   ·rw [if_neg hj]
  exact ⟨rfl, Kp.refl _ _, G.sec, p0, by rw [e]; exact H.out⟩
 | true =>
  rw [hd] at g3
  have hpg : 0 ≤ x.page := by
   rcases Int.lt_or_le x.page 0 with h1 | h1
   ·have := H.out.rl.neg i x HI.out h1
    rw [hd] at this; cases this
   ·exact h1
  obtain ⟨q, hq⟩ : ∃ q : Nat, x.page = q := ⟨x.page.toNat, by omega⟩
  obtain ⟨hp, hl⟩ := H.out.rl.pay i x q HI.out hq
  obtain ⟨b0, hb0⟩ := H.out.rl.below_some hp
  rw [hq] at g0
  have HW := hid (sh_write (H.out.sh.of_blocks (w' := w.drew) (fun _ _ => rfl)) q b0 x.pay hb0 (by omega))
  have HS : Hid (w.cell? ⟨P.p, 0, none⟩ = some (.pointer (some ⟨P.S.s, 0, none⟩)) ∧ w.cell? ⟨P.f, i * 5, none⟩ = some (.int .i64 q) ∧ w.cell? ⟨P.f, i * 5 + 1, none⟩ = some (.string (S x.pay))) := hid ⟨c0, g0, g1⟩
  have HPL := hid hp
  have HQ := hid hq
  clear hp hq hb0
  go_enter Tryz.func280, Tryz.ntmps280
  go_wp2
  go_region_held3 (fun w' => w'.cell? ⟨P.p, 0, none⟩ = some (.pointer (some ⟨P.S.s, 0, none⟩)) ∧ w'.cell? ⟨P.f, i * 5, none⟩ = some (.int .i64 q) ∧ w'.cell? ⟨P.f, i * 5 + 1, none⟩ = some (.string (S x.pay))) (first | exact HS.out | exact keep3k HS.out hk1 H.out.np H.out.nf H.out.nf) (first | (go_at_call 287; refine HW.out.mono ?_; rintro e w1 ⟨rfl, hk1', sec, hs1⟩; have hk1 : Kp (shOwn P.S G) w w1 := (Kp.refl _ w).drew.trans hk1'))
  have HF1 := hid (H.out.fr.kp hk1 H.out.np H.out.nf)
  have z3 := HF1.out.frozen (i * 5 + 3)
  have q3 : w1.cell? ⟨P.f, i * 5 + 3, none⟩ = some (.bool x.dirty) := HF1.out.cell HI.out (j := 3) (by omega) rfl
  have hs : P.f < w1.heap.size := HF1.out.f_lt
  have HS1 := hid hs1
  have HK1 := hid hk1
  clear hs1 hk1 hk1'
  go_wp2
  go_ret
  have hk2 : Kp (poOwn P G) w (w1.setCell ⟨P.f, i * 5 + 3, none⟩ (.bool false)) := (HK1.out.mono (by intro y hy; simp [poOwn, hy])).setCell (.inl (by simp [poOwn])) _
  refine ⟨rfl, hk2, sec, _, HF1.out.set_ HI.out (j := 3) (by omega) rfl, ?_, H.out.np, H.out.nf, H.out.rl.back HI.out HQ.out⟩
  have := HS1.out.of_blocks (w' := w1.setCell ⟨P.f, i * 5 + 3, none⟩ (.bool false)) (fun b hb => Below.heap_setCell _ ⟨P.f, i * 5 + 3, none⟩ _ b (fun e => H.out.nf (by have e2 : b = P.f := e; rwa [e2] at hb)))
  rwa [pad_of hl] at this
theorem FrI.lay (h : FrI w P l hand) {i : Nat} {x : Fr} (hi : l[i]? = some x) (y : Fr) :
  FrI (((((w.setCell ⟨P.f, i * 5, none⟩ (.int .i64 y.page)).setCell ⟨P.f, i * 5 + 1, none⟩ (.string (S y.pay))).setCell ⟨P.f, i * 5 + 2, none⟩ (.int .i64 y.held)).setCell ⟨P.f, i * 5 + 3, none⟩ (.bool y.dirty)).setCell ⟨P.f, i * 5 + 4, none⟩ (.bool y.used)) P (l.set i y) hand := by
 have h0 := h.set_ hi (j := 0) (v := .int .i64 y.page) (y := { x with page := y.page }) (by omega) rfl
 have h1 := h0.set_ (set_at hi) (j := 1) (v := .string (S y.pay)) (y := { x with page := y.page, pay := y.pay }) (by omega) rfl
 have h2 := h1.set_ (set_at (set_at hi)) (j := 2) (v := .int .i64 y.held) (y := { x with page := y.page, pay := y.pay, held := y.held }) (by omega) rfl
 have h3 := h2.set_ (set_at (set_at (set_at hi))) (j := 3) (v := .bool y.dirty) (y := { x with page := y.page, pay := y.pay, held := y.held, dirty := y.dirty }) (by omega) rfl
 have h4 := h3.set_ (set_at (set_at (set_at (set_at hi)))) (j := 4) (v := .bool y.used) (y := y) (by omega) rfl
 simp only [List.set_set] at h4
 exact h4
theorem frame_heap (w : World) (f i : Nat) (u0 u1 u2 u3 u4 : Value) (b : Nat) (hb : b ≠ f) :
  (((((w.setCell ⟨f, i * 5, none⟩ u0).setCell ⟨f, i * 5 + 1, none⟩ u1).setCell ⟨f, i * 5 + 2, none⟩ u2).setCell ⟨f, i * 5 + 3, none⟩ u3).setCell ⟨f, i * 5 + 4, none⟩ u4).heap[b]? = w.heap[b]? := by
 rw [Below.heap_setCell _ ⟨f, i * 5 + 4, none⟩ _ b hb, Below.heap_setCell _ ⟨f, i * 5 + 3, none⟩ _ b hb, Below.heap_setCell _ ⟨f, i * 5 + 2, none⟩ _ b hb, Below.heap_setCell _ ⟨f, i * 5 + 1, none⟩ _ b hb, Below.heap_setCell _ ⟨f, i * 5, none⟩ _ b hb]
theorem frame_kp {O : List Nat} {a w : World} (h : Kp O a w) {f : Nat} (hf : f ∈ O) (i : Nat) (u0 u1 u2 u3 u4 : Value) :
  Kp O a (((((w.setCell ⟨f, i * 5, none⟩ u0).setCell ⟨f, i * 5 + 1, none⟩ u1).setCell ⟨f, i * 5 + 2, none⟩ u2).setCell ⟨f, i * 5 + 3, none⟩ u3).setCell ⟨f, i * 5 + 4, none⟩ u4) :=
 ((((h.setCell (.inl hf) _).setCell (.inl hf) _).setCell (.inl hf) _).setCell (.inl hf) _).setCell (.inl hf) _
set_option maxHeartbeats 1000000 in
theorem po_hold (h : PoX w P G l hand p0 pgs) (h0 : ∀ (i : Nat) x, l[i]? = some x → x.held = 0) {q : Nat} {b : Bs} (hb : pgs[q]? = some (some b)) :
  Calls Tryz.prog 267 #[.pointer (some ⟨P.p, 0, none⟩), .int .i64 q] w fun e w' => e = .returned (.tuple #[.string (S b), .int .i64 0]) ∧ Kp (poOwn P G) w w' ∧
   ∃ sec p0' l' hand' i, ∃ x' : Fr, PoX w' P { G with sec := sec } l' hand' p0' pgs ∧ l'[i]? = some x' ∧ x'.page = (q : Int) ∧ x'.held = 1 ∧ ∀ (j : Nat) y, j ≠ i → l'[j]? = some y → y.held = 0 := by
 have HFI := hid (po_find h.fr q)
 have c1 := h.fr.c1
 have c0 := h.fr.c0
 have hpl := h.fr.c.lt
 have hfl := h.fr.f_lt
 have H := hid h
 have H0 := hid h0
 have HB := hid hb
 clear h h0 hb
 go_enter Tryz.func267, Tryz.ntmps267
 go_wp2_with fail
 refine HFI.out.mono ?_
 rintro e W1 ⟨hb1, ⟨rfl, hx⟩ | ⟨k, x, hk, rfl, hx, hx2⟩⟩
 ·have hb0 : p0[q]? = some (some b) := by
   rcases H.out.rl.dif q with h1 | ⟨i, x, h1, h2, _⟩
   ·rw [← h1]; exact HB.out
   ·exact absurd h2 (hx i x h1)
  have H1 := hid (H.out.below hb1)
  have HR := hid (sh_read H1.out.sh q b hb0)
  have HX := hid hx
  have HB1 := hid hb1
  have d0 := H1.out.fr.c0
  clear hx hb0 hb1 c1 c0
  go_wp2_with fail
  refine HR.out.mono ?_
  rintro e W2 ⟨rfl, hb2⟩
  have H2 := hid (H1.out.below hb2)
  have HV := hid (po_victim H2.out.fr H0.out)
  have HB2 := hid (HB1.out.trans (hb2.mono HB1.out.size))
  clear hb2 d0
  go_wp2_with fail
  refine HV.out.mono ?_
  rintro e W3 ⟨i, l1, hand1, hi, rfl, hf3, hl1, hk3⟩
  have hsz3 : P.f ≠ P.p := Ne.symm hf3.ne
  have H3 : Hid (PoX W3 P G l1 hand1 p0 pgs) := hid ⟨hf3, H2.out.sh.kp hk3 (fun b hb hx => by
   simp at hx
   rcases hx with rfl | rfl
   ·exact H2.out.np hb
   ·exact H2.out.nf hb), H2.out.np, H2.out.nf, H2.out.rl.same (core_clr hl1)⟩
  obtain ⟨x, hx⟩ := hf3.get hi
  have HBK := hid (po_back H3.out hx)
  have HX3 := hid hx
  have HL1 := hid hl1
  have HK3 := hid hk3
  have hneg : ¬ (i : Int) < 0 := by omega
  have hin0 : (0 : Int) ≤ (i : Int) := by omega
  have hin1 : (i : Int) < 5 := by omega
  clear hx hl1 hk3 hf3
  go_wp2_with fail
  refine HBK.out.mono ?_
  rintro e W4 ⟨rfl, hk4, sec, p0', h4⟩
  have d1 := h4.fr.c1
  have hi4 : (l1.set i { x with dirty := false })[i]? = some { x with dirty := false } := set_at HX3.out
  have e0 : W4.cell? ⟨P.f, i * 5, none⟩ = some (.int .i64 x.page) := h4.fr.cell hi4 (j := 0) (by omega) rfl
  have e1 : W4.cell? ⟨P.f, i * 5 + 1, none⟩ = some (.string (S x.pay)) := h4.fr.cell hi4 (j := 1) (by omega) rfl
  have e2 : W4.cell? ⟨P.f, i * 5 + 2, none⟩ = some (.int .i64 x.held) := h4.fr.cell hi4 (j := 2) (by omega) rfl
  have e3 : W4.cell? ⟨P.f, i * 5 + 3, none⟩ = some (.bool false) := h4.fr.cell hi4 (j := 3) (by omega) rfl
  have e4 : W4.cell? ⟨P.f, i * 5 + 4, none⟩ = some (.bool x.used) := h4.fr.cell hi4 (j := 4) (by omega) rfl
  have z0 := h4.fr.frozen (i * 5)
  have z1 := h4.fr.frozen (i * 5 + 1)
  have z2 := h4.fr.frozen (i * 5 + 2)
  have z3 := h4.fr.frozen (i * 5 + 3)
  have z4 := h4.fr.frozen (i * 5 + 4)
  have H4 := hid h4
  have HI4 := hid hi4
  have HK4 := hid hk4
  clear h4 hi4 hk4
  go_wp2
  go_ret2
  have hbl : b.length = 232 := by
   obtain ⟨b0, hb0⟩ := H.out.rl.below_some HB.out
   rcases H.out.rl.dif q with h1 | ⟨j, y, h1, h2, _⟩
   ·rw [HB.out] at h1
    exact (H.out.sh.some_ q b h1.symm).1
   ·exact absurd h2 (HX.out j y h1)
  refine ⟨rfl, frame_kp (((Kp.of_below HB2.out).trans (HK3.out.mono (by simp [poOwn]))).trans HK4.out) (by simp [poOwn]) i _ _ _ _ _, sec, p0', _, hand1, i, ⟨(q : Int), b, 1, false, true⟩, ⟨H4.out.fr.lay HI4.out ⟨(q : Int), b, 1, false, true⟩, H4.out.sh.of_blocks (fun c hc => frame_heap _ _ _ _ _ _ _ _ c (fun e => H4.out.nf (by rwa [e] at hc))), H4.out.np, H4.out.nf, H4.out.rl.load HI4.out rfl (fun j z hj => ?_) HB.out hbl rfl rfl rfl⟩, set_at HI4.out, rfl, rfl, fun j y hj hy => ?_⟩
  ·rcases set_get hj with ⟨rfl, rfl⟩ | ⟨hne, h1⟩
   ·obtain ⟨y, hy, hc⟩ := clr_get HL1.out HX3.out
    have := HX.out j y hy
    intro hz
    exact this (by rw [← show (clr y).page = y.page from rfl, hc]; exact hz)
   ·obtain ⟨y, hy, hc⟩ := clr_get HL1.out h1
    have := HX.out j y hy
    intro hz
    exact this (by rw [← show (clr y).page = y.page from rfl, hc]; exact hz)
  ·rcases set_get hy with ⟨rfl, rfl⟩ | ⟨hne, h1⟩
   ·exact absurd rfl hj
   ·rcases set_get h1 with ⟨rfl, rfl⟩ | ⟨hne, h1⟩
    ·exact absurd rfl hj
    ·obtain ⟨z, hz, hc⟩ := clr_get HL1.out h1
     rw [← show (clr y).held = y.held from rfl, ← hc]
     exact H0.out j z hz
 ·have hpay : x.pay = b := by
   have := (H.out.rl.pay k x q hx hx2).1
   rw [HB.out] at this
   injection this with this
   injection this with this
   exact this.symm
  have hh : x.held = 0 := H0.out k x hx
  have H1 := hid (H.out.below hb1)
  have d1 := H1.out.fr.c1
  have e1 : W1.cell? ⟨P.f, k * 5 + 1, none⟩ = some (.string (S x.pay)) := H1.out.fr.cell hx (j := 1) (by omega) rfl
  have e2 : W1.cell? ⟨P.f, k * 5 + 2, none⟩ = some (.int .i64 x.held) := H1.out.fr.cell hx (j := 2) (by omega) rfl
  have e4 : W1.cell? ⟨P.f, k * 5 + 4, none⟩ = some (.bool x.used) := H1.out.fr.cell hx (j := 4) (by omega) rfl
  have z2 := H1.out.fr.frozen (k * 5 + 2)
  have z4 := H1.out.fr.frozen (k * 5 + 4)
  rw [hh] at e2
  rw [hpay] at e1
  have hk0 : (0 : Int) ≤ (k : Int) := by omega
  have hk1 : (k : Int) < 5 := by omega
  have HX := hid hx
  have HB1 := hid hb1
  clear hx hb1 c0 c1
  go_wp2
  go_ret2
  refine ⟨rfl, ((Kp.of_below HB1.out).setCell (.inl (by simp [poOwn])) _).setCell (.inl (by simp [poOwn])) _, G.sec, p0, _, hand, k, { x with held := 1, used := true }, ⟨(H1.out.fr.set_ HX.out (j := 2) (y := { x with held := 1 }) (by omega) rfl).set_ (set_at HX.out) (j := 4) (y := { x with held := 1, used := true }) (by omega) rfl, H1.out.sh.of_blocks (fun c hc => ?_), H1.out.np, H1.out.nf, H1.out.rl.same ?_⟩, set_at (set_at HX.out), hx2, rfl, fun j y hj hy => ?_⟩
  ·have hne : c ≠ P.f := fun e => H1.out.nf (by rwa [e] at hc)
   rw [Below.heap_setCell _ ⟨P.f, k * 5 + 4, none⟩ _ c hne, Below.heap_setCell _ ⟨P.f, k * 5 + 2, none⟩ _ c hne]
  ·exact (core_set (set_at HX.out) (y := { x with held := 1, used := true }) (by rfl)).trans (core_set HX.out (y := { x with held := 1 }) (by rfl))
  ·rw [List.set_set] at hy
   rcases set_get hy with ⟨rfl, rfl⟩ | ⟨hne, h1⟩
   ·exact absurd rfl hj
   ·exact H0.out j y h1
end
end
section
open Go.RowKit Go.Lib
section
variable {w w' : World} {P : PL} {G : ShG} {l : List Fr} {hand : Nat} {p0 pgs : List (Option Bs)}
theorem po_held (h : PoX w P G l hand p0 pgs) {i q : Nat} {x : Fr} (hi : l[i]? = some x) (hq : x.page = q) (hh : x.held = 1) :
  Calls Tryz.prog 273 #[.pointer (some ⟨P.p, 0, none⟩), .int .i64 q] w fun e w' => e = .returned (.tuple #[.pointer (some ⟨P.f, i * 5, none⟩), .int .i64 0]) ∧ Below w.heap.size w w' := by
 have HFI := hid (po_find h.fr q)
 have H := hid h
 have HI := hid hi
 clear h hi
 go_enter Tryz.func273, Tryz.ntmps273
 go_wp2_with fail
 refine HFI.out.mono ?_
 rintro e W1 ⟨hb1, ⟨rfl, hx⟩ | ⟨k, y, hk, rfl, hx, hx2⟩⟩
 ·exact absurd hq (hx i x HI.out)
 ·have hki : k = i := H.out.rl.one k i y x q hx HI.out hx2 hq
  subst hki
  rw [HI.out] at hx
  injection hx with hx
  subst hx
  have H1 := hid (H.out.below hb1)
  have d1 := H1.out.fr.c1
  have e2 : W1.cell? ⟨P.f, k * 5 + 2, none⟩ = some (.int .i64 x.held) := H1.out.fr.cell HI.out (j := 2) (by omega) rfl
  have hk0 : (0 : Int) ≤ (k : Int) := by omega
  have hk1 : (k : Int) < 5 := by omega
  rw [hh] at e2
  have HB1 := hid hb1
  clear hb1
  go_wp2
  go_ret2
  exact ⟨rfl, HB1.out⟩
theorem po_let (h : PoX w P G l hand p0 pgs) {i q : Nat} {x : Fr} (hi : l[i]? = some x) (hq : x.page = q) (hh : x.held = 1) :
  Calls Tryz.prog 268 #[.pointer (some ⟨P.p, 0, none⟩), .int .i64 q] w fun e w' => e = .returned (.int .i64 0) ∧ Kp (poOwn P G) w w' ∧ PoX w' P G (l.set i { x with held := 0 }) hand p0 pgs := by
 have HH := hid (po_held h hi hq hh)
 have H := hid h
 have HI := hid hi
 clear h hi
 go_enter Tryz.func268, Tryz.ntmps268
 go_wp2_with fail
 refine HH.out.mono ?_
 rintro e W1 ⟨rfl, hb1⟩
 have H1 := hid (H.out.below hb1)
 have e2 : W1.cell? ⟨P.f, i * 5 + 2, none⟩ = some (.int .i64 x.held) := H1.out.fr.cell HI.out (j := 2) (by omega) rfl
 have z2 := H1.out.fr.frozen (i * 5 + 2)
 rw [hh] at e2
 have HB1 := hid hb1
 clear hb1
 go_wp2
 go_ret
 refine ⟨rfl, (Kp.of_below HB1.out).setCell (.inl (by simp [poOwn])) _, H1.out.fr.set_ HI.out (j := 2) (y := { x with held := 0 }) (by omega) rfl, H1.out.sh.of_blocks (fun c hc => ?_), H1.out.np, H1.out.nf, H1.out.rl.same (core_set HI.out (y := { x with held := 0 }) (by rfl))⟩
 have hne : c ≠ P.f := fun e => H1.out.nf (by rwa [e] at hc)
 rw [Below.heap_setCell _ ⟨P.f, i * 5 + 2, none⟩ _ c hne]
set_option maxHeartbeats 400000 in
theorem po_set (h : PoX w P G l hand p0 pgs) {i q : Nat} {x : Fr} (hi : l[i]? = some x) (hq : x.page = q) (hh : x.held = 1) (b : Bs) (hb : b.length ≤ 232) :
  Calls Tryz.prog 255 #[.pointer (some ⟨P.p, 0, none⟩), .int .i64 q, .string (S b)] w fun e w' => e = .returned (.int .i64 0) ∧ Kp (poOwn P G) w w' ∧
   PoX w' P G (l.set i { x with pay := pad b, dirty := true, used := true }) hand p0 (pgs.set q (some (pad b))) := by
 have HH := hid (po_held h hi hq hh)
 have H := hid h
 have HI := hid hi
 have hb' : ¬ (232 : Int) < (b.length : Int) := by omega
 clear h hi
 go_enter Tryz.func255, Tryz.ntmps255
 go_wp2_with fail
 refine HH.out.mono ?_
 rintro e W1 ⟨rfl, hb1⟩
 have H1 := hid (H.out.below hb1)
 have HB1 := hid hb1
 clear hb1
 have hcast : (232 : Int) - (b.length : Int) = ((232 - b.length : Nat) : Int) := by omega
 go_wp2_with (refine wpL_make rfl _ _ rfl (232 - b.length) rfl rfl (by omega) ?_; intro W2 hB2 hb2)
 have hstr := blk_string (i := 0) (n := 232 - b.length) (c := 232 - b.length) hB2 (by simp)
 have e : (((List.replicate (232 - b.length) (0 : UInt8)).drop 0).take (232 - b.length)) = List.replicate (232 - b.length) 0 := by simp
 rw [e] at hstr
 have H2 := hid (H1.out.below hb2)
 have e1 : W2.cell? ⟨P.f, i * 5 + 1, none⟩ = some (.string (S x.pay)) := H2.out.fr.cell HI.out (j := 1) (by omega) rfl
 have e3 : W2.cell? ⟨P.f, i * 5 + 3, none⟩ = some (.bool x.dirty) := H2.out.fr.cell HI.out (j := 3) (by omega) rfl
 have e4 : W2.cell? ⟨P.f, i * 5 + 4, none⟩ = some (.bool x.used) := H2.out.fr.cell HI.out (j := 4) (by omega) rfl
 have z1 := H2.out.fr.frozen (i * 5 + 1)
 have z3 := H2.out.fr.frozen (i * 5 + 3)
 have z4 := H2.out.fr.frozen (i * 5 + 4)
 have HB2 := hid (HB1.out.trans (hb2.mono HB1.out.size))
 clear hb2 hB2 e hcast
 go_wp2
 rw [hstr]
 go_wp2
 go_ret
 have hfr := ((H2.out.fr.set_ HI.out (j := 1) (v := .string (S (pad b))) (y := { x with pay := pad b }) (by omega) rfl).set_ (set_at HI.out) (j := 3) (v := .bool true) (y := { x with pay := pad b, dirty := true }) (by omega) rfl).set_ (set_at (set_at HI.out)) (j := 4) (v := .bool true) (y := { x with pay := pad b, dirty := true, used := true }) (by omega) rfl
 simp only [List.set_set] at hfr
 refine ⟨rfl, (((Kp.of_below HB2.out).setCell (.inl (by simp [poOwn])) _).setCell (.inl (by simp [poOwn])) _).setCell (.inl (by simp [poOwn])) _, hfr, H2.out.sh.of_blocks (fun c hc => ?_), H2.out.np, H2.out.nf, H2.out.rl.put (y := { x with pay := pad b, dirty := true, used := true }) HI.out hq hq (pad_length hb) rfl⟩
 have hne : c ≠ P.f := fun e => H2.out.nf (by rwa [e] at hc)
 rw [Below.heap_setCell _ ⟨P.f, i * 5 + 4, none⟩ _ c hne, Below.heap_setCell _ ⟨P.f, i * 5 + 3, none⟩ _ c hne, Below.heap_setCell _ ⟨P.f, i * 5 + 1, none⟩ _ c hne]
structure PoI (w : World) (P : PL) (O : List Nat) (pgs : List (Option Bs)) : Prop where
 x : ∃ G l hand p0, O = poOwn P G ∧ PoX w P G l hand p0 pgs ∧ ∀ (i : Nat) y, l[i]? = some y → y.held = 0
theorem PoI.of_blocks {O : List Nat} (h : PoI w P O pgs) (e : ∀ b ∈ O, w'.heap[b]? = w.heap[b]?) : PoI w' P O pgs := by
 obtain ⟨G, l, hand, p0, rfl, h, h0⟩ := h
 exact ⟨G, l, hand, p0, rfl, h.of_blocks e, h0⟩
theorem PoI.lts {O : List Nat} (h : PoI w P O pgs) : ∀ b ∈ O, b < w.heap.size := by
 obtain ⟨G, l, hand, p0, rfl, h, h0⟩ := h
 exact h.lts
theorem PoI.below {O : List Nat} (h : PoI w P O pgs) (hb : Below w.heap.size w w') : PoI w' P O pgs := h.of_blocks fun b hx => hb.block b (h.lts b hx)
theorem PoI.kp {O O' : List Nat} (h : PoI w P O pgs) (hk : Kp O' w w') (ho : ∀ b ∈ O, b ∉ O') : PoI w' P O pgs := h.of_blocks fun b hx => hk.block b (h.lts b hx) (ho b hx)
theorem PoI.pay {O : List Nat} (h : PoI w P O pgs) {q : Nat} {b : Bs} (hb : pgs[q]? = some (some b)) : b.length = 232 := by
 obtain ⟨G, l, hand, p0, rfl, h, h0⟩ := h
 rcases h.rl.dif q with h1 | ⟨j, y, h1, h2, _⟩
 ·rw [hb] at h1
  exact (h.sh.some_ q b h1.symm).1
 ·obtain ⟨h3, h4⟩ := h.rl.pay j y q h1 h2
  rw [hb] at h3
  injection h3 with h3
  injection h3 with h3
  rw [h3]; exact h4
theorem PoI.len {O : List Nat} (h : PoI w P O pgs) : pgs.length ≤ 512 := by
 obtain ⟨G, l, hand, p0, rfl, h, h0⟩ := h
 rw [h.rl.len]; exact h.sh.pl
structure PoH (w : World) (P : PL) (O : List Nat) (q : Nat) (pgs : List (Option Bs)) : Prop where
 x : ∃ G l hand p0 i, ∃ x : Fr, O = poOwn P G ∧ PoX w P G l hand p0 pgs ∧ l[i]? = some x ∧ x.page = (q : Int) ∧ x.held = 1 ∧ ∀ (j : Nat) y, j ≠ i → l[j]? = some y → y.held = 0
theorem PoH.of_blocks {O : List Nat} {q : Nat} (h : PoH w P O q pgs) (e : ∀ b ∈ O, w'.heap[b]? = w.heap[b]?) : PoH w' P O q pgs := by
 obtain ⟨G, l, hand, p0, i, x, rfl, h, h1⟩ := h
 exact ⟨G, l, hand, p0, i, x, rfl, h.of_blocks e, h1⟩
theorem pi_hold {O : List Nat} (h : PoI w P O pgs) {q : Nat} {b : Bs} (hb : pgs[q]? = some (some b)) :
  Calls Tryz.prog 267 #[.pointer (some ⟨P.p, 0, none⟩), .int .i64 q] w fun e w' => e = .returned (.tuple #[.string (S b), .int .i64 0]) ∧ Kp O w w' ∧ PoH w' P O q pgs := by
 obtain ⟨G, l, hand, p0, rfl, h, h0⟩ := h
 refine (po_hold h h0 hb).mono ?_
 rintro e w' ⟨rfl, hk, sec, p0', l', hand', i, x', hx, h1, h2, h3, h4⟩
 exact ⟨rfl, hk, ⟨{ G with sec := sec }, l', hand', p0', i, x', rfl, hx, h1, h2, h3, h4⟩⟩
theorem pi_let {O : List Nat} {q : Nat} (h : PoH w P O q pgs) :
  Calls Tryz.prog 268 #[.pointer (some ⟨P.p, 0, none⟩), .int .i64 q] w fun e w' => e = .returned (.int .i64 0) ∧ Kp O w w' ∧ PoI w' P O pgs := by
 obtain ⟨G, l, hand, p0, i, x, rfl, h, h1, h2, h3, h4⟩ := h
 refine (po_let h h1 h2 h3).mono ?_
 rintro e w' ⟨rfl, hk, hx⟩
 refine ⟨rfl, hk, ⟨G, _, hand, p0, rfl, hx, fun j y hj => ?_⟩⟩
 rcases set_get hj with ⟨rfl, rfl⟩ | ⟨hne, h5⟩
 ·rfl
 ·exact h4 j y hne h5
theorem pi_set {O : List Nat} {q : Nat} (h : PoH w P O q pgs) (b : Bs) (hb : b.length ≤ 232) :
  Calls Tryz.prog 255 #[.pointer (some ⟨P.p, 0, none⟩), .int .i64 q, .string (S b)] w fun e w' => e = .returned (.int .i64 0) ∧ Kp O w w' ∧ PoH w' P O q (pgs.set q (some (pad b))) := by
 obtain ⟨G, l, hand, p0, i, x, rfl, h, h1, h2, h3, h4⟩ := h
 refine (po_set h h1 h2 h3 b hb).mono ?_
 rintro e w' ⟨rfl, hk, hx⟩
 refine ⟨rfl, hk, ⟨G, _, hand, p0, i, _, rfl, hx, set_at h1, h2, h3, fun j y hj hy => ?_⟩⟩
 rcases set_get hy with ⟨rfl, rfl⟩ | ⟨hne, h5⟩
 ·exact absurd rfl hj
 ·exact h4 j y hne h5
theorem pi_get1 {B : Nat} {v : Value} (hB : Blk w B 9 #[v]) (b : Bs) :
  Calls Tryz.prog 244 #[.string (S b), .pointer (some ⟨B, 0, none⟩)] w fun e w' => e = .returned (.int .i64 0) ∧ w.setCell ⟨B, 0, none⟩ (.string (S b)) = w' := by
 have c0 : w.cell? ⟨B, 0, none⟩ = some v := hB.cell 0
 have f0 := hB.frozen 0
 clear hB
 go_enter Tryz.func244, Tryz.ntmps244
 go_wp2
 go_ret
 exact ⟨rfl, rfl⟩
theorem pi_with_get {O : List Nat} (h : PoI w P O pgs) {q : Nat} {b : Bs} (hb : pgs[q]? = some (some b)) {B : Nat} {v : Value} (hB : Blk w B 9 #[v]) (hBO : B ∉ O) :
  Calls Tryz.prog 243 #[.pointer (some ⟨P.p, 0, none⟩), .int .i64 q, .func (.func 244) #[] #[.pointer (some ⟨B, 0, none⟩)]] w fun e w' => e = .returned (.int .i64 0) ∧ Kp (B :: O) w w' ∧ PoI w' P O pgs ∧ Blk w' B 9 #[.string (S b)] := by
 have HH := hid (pi_hold h hb)
 have HB := hid hB
 clear h hb hB
 go_enter Tryz.func243, Tryz.ntmps243
 go_wp2_with fail
 refine HH.out.mono ?_
 rintro e W1 ⟨rfl, hk1, h1⟩
 have HB1 := hid (HB.out.kp hk1 hBO)
 have HG := hid (pi_get1 HB1.out b)
 have HK1 := hid hk1
 have H1 := hid h1
 clear hk1 h1
 go_wp2_with fail
 refine HG.out.mono ?_
 rintro e W2 ⟨rfl, rfl⟩
 have hB2 := HB1.out.set_ 0 (.string (S b))
 have H2 := hid (H1.out.of_blocks (w' := W1.setCell ⟨B, 0, none⟩ (.string (S b))) (fun c hc => Below.heap_setCell _ ⟨B, 0, none⟩ _ c (fun e => hBO (by have e2 : c = B := e; rwa [e2] at hc))))
 have HL := hid (pi_let H2.out)
 have HB2 := hid hB2
 have HK2 : Hid (Kp (B :: O) w (W1.setCell ⟨B, 0, none⟩ (.string (S b)))) := hid ((HK1.out.mono (by intro x hx; simp [hx])).setCell (.inl (by simp)) _)
 clear hB2
 go_wp2_with fail
 refine HL.out.mono ?_
 rintro e W3 ⟨rfl, hk3, h3⟩
 have H3 := hid h3
 have HK3 := hid hk3
 clear h3 hk3
 go_wp2
 go_ret
 exact ⟨rfl, HK2.out.trans (HK3.out.mono (by intro x hx; simp [hx])), H3.out, by simpa using HB2.out.kp HK3.out hBO⟩
theorem pi_get {O : List Nat} (h : PoI w P O pgs) {q : Nat} {b : Bs} (hb : pgs[q]? = some (some b)) :
  Calls Tryz.prog 217 #[.pointer (some ⟨P.p, 0, none⟩), .int .i64 q] w fun e w' => e = .returned (.tuple #[.string (S b), .int .i64 0]) ∧ Kp O w w' ∧ PoI w' P O pgs := by
 have hB : Below w.heap.size w (w.alloc (.cells #[.string ⟨#[]⟩] 9)) := (Below.refl _ w).alloc (Nat.le_refl _) _
 have hno : w.heap.size ∉ O := fun hx => by have := h.lts _ hx; omega
 have hblk := Blk.new w 9 #[.string ⟨#[]⟩]
 have HW := hid (pi_with_get (h.below hB) hb hblk hno)
 have HB := hid hB
 clear hB hblk h hb
 go_enter Tryz.func217, Tryz.ntmps217
 go_wp2_with fail
 refine HW.out.mono ?_
 rintro e W1 ⟨rfl, hk1, h1, hb1⟩
 have d0 : W1.cell? ⟨w.heap.size, 0, none⟩ = some (.string (S b)) := hb1.cell 0
 have H1 := hid h1
 have HK1 := hid hk1
 clear hb1 h1 hk1
 go_wp2
 go_ret2
 refine ⟨rfl, ((Kp.of_below HB.out).trans HK1.out).mono (fun x hx => ?_), H1.out⟩
 rcases List.mem_cons.1 hx with rfl | hx
 ·exact .inr (Nat.le_refl _)
 ·exact .inl hx
end
end
end Go.Proofs.YtnnghcooidjlhaaGreat
