/- Parts of the proof: Sa Sb Sc. -/
import Derived.Handy
import Derived.Test.YtnnghcooidjlhaaGreatD05
set_option linter.all false
set_option maxRecDepth 100000
namespace Go.Proofs.YtnnghcooidjlhaaGreat
section
open Go.RowKit Go.Lib
structure ShL where
 D : DkL
 m : Nat
 ml : Nat
 s : Nat
def shCells (L : ShL) (tv : Value) : Array Value :=
 #[.pointer (some ⟨L.D.d, 0, none⟩), .pointer (some ⟨L.m, 0, none⟩), tv, .slice none 0 0, .slice none 0 0, .int .i64 1, .int .i64 0, .bool false]
structure ShG where
 sec : Nat → Bs
 K : List Int
 T : List Int
 tv : Value
def shOwn (L : ShL) (G : ShG) : List Nat := dkOwn L.D ++ [L.m, L.ml, L.s] ++ G.tv.ownBlock.toList
def somes (pgs : List (Option Bs)) : Nat := pgs.countP Option.isSome
structure ShI (w : World) (L : ShL) (G : ShG) (pgs : List (Option Bs)) : Prop where
 c : Blk w L.s 257 (shCells L G.tv)
 dk : DkI w L.D 1202 G.sec
 mp : MpI w L.m L.ml G.K
 kl : G.K.length = 300
 tb : w.ownsRow 0 3 1 G.tv G.T.length (cI G.T)
 tl : G.T.length = pgs.length
 pl : pgs.length ≤ 512
 none_ : ∀ (l : Nat), pgs[l]? = some none → G.T[l]? = some (-1)
 some_ : ∀ (l : Nat) (b : Bs), pgs[l]? = some (some b) → b.length = 232 ∧ ∃ p : Nat, G.T[l]? = some (p : Int) ∧ G.K[p]? = some 2 ∧ pgAt G.sec p (pageB p 2 2 b)
 inj : ∀ (l l' p : Nat), G.T[l]? = some (p : Int) → G.T[l']? = some (p : Int) → l = l'
 kinds : ∀ (p : Nat) (k : Int), G.K[p]? = some k → k = 0 ∨ k = 2
 cnt : G.K.count 0 + somes pgs = 300
 nd : (shOwn L G).Nodup
theorem ShI.lts {w : World} {L : ShL} {G : ShG} {pgs : List (Option Bs)} (h : ShI w L G pgs) : ∀ b ∈ shOwn L G, b < w.heap.size := by
 intro b hb
 simp only [shOwn, dkOwn, List.mem_append, List.mem_cons, List.not_mem_nil, or_false] at hb
 have hd := h.dk.lts
 rcases hb with (h1 | h1) | h1
 ·rcases h1 with rfl | rfl | rfl | rfl <;> omega
 ·rcases h1 with rfl | rfl | rfl
  ·exact h.mp.c.lt
  ·exact h.mp.l.lt
  ·exact h.c.lt
 ·have : G.tv.ownBlock = some b := by simpa using h1
  exact (h.tb.lt b this).2
theorem row_of {w w' : World} {B s n : Nat} {T : TypeId} {v : Value} {xs : List Value} (h : w.ownsRow B T s v n xs) (e : ∀ b, v.ownBlock = some b → w'.heap[b]? = w.heap[b]?) : w'.ownsRow B T s v n xs := by
 refine ⟨h.1, ?_⟩
 rcases h.2 with h3 | ⟨g, cap, cur, e1, e2, e3, e4⟩
 ·exact .inl h3
 ·exact .inr ⟨g, cap, cur, e1, e2, (e g (by rw [e1]; rfl)).trans e3, e4⟩
theorem ShI.of_blocks {w w' : World} {L : ShL} {G : ShG} {pgs : List (Option Bs)} (h : ShI w L G pgs) (e : ∀ b ∈ shOwn L G, w'.heap[b]? = w.heap[b]?) : ShI w' L G pgs :=
 ⟨(e L.s (by simp [shOwn])).trans h.c, h.dk.of_blocks (fun b hb => e b (by simp [shOwn, hb])), h.mp.of_blocks (e L.m (by simp [shOwn])) (e L.ml (by simp [shOwn])), h.kl,
  row_of h.tb (fun b hb => e b (by simp [shOwn, hb])), h.tl, h.pl, h.none_, h.some_, h.inj, h.kinds, h.cnt, h.nd⟩
theorem ShI.kp {w w' : World} {L : ShL} {G : ShG} {pgs : List (Option Bs)} {O : List Nat} (h : ShI w L G pgs) (hk : Kp O w w') (ho : ∀ b ∈ shOwn L G, b ∉ O) : ShI w' L G pgs :=
 h.of_blocks fun b hb => hk.block b (h.lts b hb) (ho b hb)
theorem ShI.below {w w' : World} {L : ShL} {G : ShG} {pgs : List (Option Bs)} (h : ShI w L G pgs) (hb : Below w.heap.size w w') : ShI w' L G pgs :=
 h.kp (O := []) (Kp.of_below hb) (by simp)
section
variable {w : World} {L : ShL} {G : ShG} {pgs : List (Option Bs)}
theorem ShI.cell0 (h : ShI w L G pgs) : w.cell? ⟨L.s, 0, none⟩ = some (.pointer (some ⟨L.D.d, 0, none⟩)) := by rw [h.c.cell]; rfl
theorem ShI.cell1 (h : ShI w L G pgs) : w.cell? ⟨L.s, 1, none⟩ = some (.pointer (some ⟨L.m, 0, none⟩)) := by rw [h.c.cell]; rfl
theorem ShI.cell2 (h : ShI w L G pgs) : w.cell? ⟨L.s, 2, none⟩ = some G.tv := by rw [h.c.cell]; rfl
theorem ShI.cell5 (h : ShI w L G pgs) : w.cell? ⟨L.s, 5, none⟩ = some (.int .i64 1) := by rw [h.c.cell]; rfl
theorem ShI.cell7 (h : ShI w L G pgs) : w.cell? ⟨L.s, 7, none⟩ = some (.bool false) := by rw [h.c.cell]; rfl
theorem ShI.parts (h : ShI w L G pgs) : (dkOwn L.D).Nodup ∧ [L.m, L.ml, L.s].Nodup ∧ (∀ a ∈ dkOwn L.D, ∀ b ∈ [L.m, L.ml, L.s], a ≠ b) ∧ (∀ a ∈ dkOwn L.D ++ [L.m, L.ml, L.s], ∀ b ∈ G.tv.ownBlock.toList, a ≠ b) := by
 have := h.nd
 unfold shOwn at this
 rw [List.nodup_append, List.nodup_append] at this
 exact ⟨this.1.1, this.1.2.1, this.1.2.2, this.2.2⟩
theorem ShI.m_dk (h : ShI w L G pgs) : L.m ∉ dkOwn L.D := fun hx => h.parts.2.2.1 _ hx L.m (by simp) rfl
theorem ShI.ml_dk (h : ShI w L G pgs) : L.ml ∉ dkOwn L.D := fun hx => h.parts.2.2.1 _ hx L.ml (by simp) rfl
theorem ShI.s_dk (h : ShI w L G pgs) : L.s ∉ dkOwn L.D := fun hx => h.parts.2.2.1 _ hx L.s (by simp) rfl
theorem ShI.s_ml (h : ShI w L G pgs) : L.s ≠ L.ml := h.c.ne_ h.mp.l (by decide)
theorem ShI.s_m (h : ShI w L G pgs) : L.s ≠ L.m := h.c.ne_ h.mp.c (by decide)
theorem ShI.tv_out (h : ShI w L G pgs) {b : Nat} (hb : G.tv.ownBlock = some b) : b ∉ dkOwn L.D ++ [L.m, L.ml, L.s] := fun hx => h.parts.2.2.2 b hx b (by simp [hb]) rfl
theorem sh_works (h : ShI w L G pgs) :
  Calls Tryz.prog 241 #[.pointer (some ⟨L.s, 0, none⟩)] w fun e w' => e = .returned (.int .i64 0) ∧ w = w' := by
 have h7 := h.cell7
 clear h
 go_enter Tryz.func241, Tryz.ntmps241
 go_wp2
 go_ret
 exact ⟨rfl, rfl⟩
theorem page_write2 {D : DkL} {sec : Nat → Bs} (h : DkI w D 1202 sec) (p : Nat) (hp : p < 300) (b : Bs) (hb : b.length ≤ 232) :
  Calls Tryz.prog 276 #[.pointer (some ⟨D.d, 0, none⟩), .agg #[.int .i64 p, .int .i64 2, .int .i64 2, .string (S b)]] w fun e w' =>
   e = .returned (.int .i64 0) ∧ DkI w' D 1202 (secK sec p (pageB p 2 2 b) 4) ∧ Kp (dkOwn D) w w' := page_write h 300 rfl p hp 2 2 b (by omega) (by omega) (by omega) hb
theorem page_read2 {D : DkL} {sec : Nat → Bs} (h : DkI w D 1202 sec) (p : Nat) (hp : p < 300) (b : Bs) (hb : b.length = 232) (hpg : pgAt sec p (pageB p 2 2 b)) :
  Calls Tryz.prog 283 #[.pointer (some ⟨D.d, 0, none⟩), .int .i64 p] w fun e w' =>
   e = .returned (.tuple #[.agg #[.int .i64 p, .int .i64 2, .int .i64 2, .string (S b)], .int .i64 0]) ∧ Below w.heap.size w w' := by
 have := page_read h 300 rfl p hp 2 2 b (by omega) (by omega) (by omega) (by omega) hpg
 rw [pad_of hb] at this
 exact this
theorem sh_put (hc0 : w.cell? ⟨L.s, 0, none⟩ = some (.pointer (some ⟨L.D.d, 0, none⟩))) (hc5 : w.cell? ⟨L.s, 5, none⟩ = some (.int .i64 1)) {sec : Nat → Bs} (hd : DkI w L.D 1202 sec) (hs : L.s ∉ dkOwn L.D) (p : Nat) (hp : p < 300) (b : Bs) (hb : b.length ≤ 232) :
  Calls Tryz.prog 265 #[.pointer (some ⟨L.s, 0, none⟩), .int .i64 p, .int .i64 2, .string (S b)] w fun e w' =>
   e = .returned (.int .i64 0) ∧ DkI w' L.D 1202 (secK sec p (pageB p 2 2 b) 4) ∧ Kp (dkOwn L.D) w w' := by
 have HW := hid (fun W (hW : DkI W L.D 1202 sec) => page_write2 hW p hp b hb)
 have HD := hid hd
 have HS := hid hs
 have hlt : L.s < w.heap.size := block_lt_of_cell hc0
 have HC0 := hid hc0
 have HC5 := hid hc5
 clear hd hs
 go_enter Tryz.func265, Tryz.ntmps265
 go_wp2
 go_region_held3 (fun w' => w'.cell? ⟨L.s, 0, none⟩ = some (.pointer (some ⟨L.D.d, 0, none⟩)) ∧ w'.cell? ⟨L.s, 5, none⟩ = some (.int .i64 1)) (first | exact ⟨HC0.out, HC5.out⟩ | exact ⟨(hk1.cell (p := ⟨L.s, 0, none⟩) hlt HS.out).trans HC0.out, (hk1.cell (p := ⟨L.s, 5, none⟩) hlt HS.out).trans HC5.out⟩) (first | (go_at_call 276; refine (HW.out w.drew (HD.out.of_blocks (w' := w.drew) (fun _ _ => rfl))).mono ?_; rintro e w1 ⟨rfl, hd1, hk1⟩))
 go_wp2
 go_ret
 exact ⟨rfl, hd1, ⟨hk1.os, hk1.tape, hk1.output, hk1.size, hk1.block⟩⟩
theorem sh_fresh (h : ShI w L G pgs) (h0 : (0 : Int) ∈ G.K) (b : Bs) (hb : b.length ≤ 232) :
  Calls Tryz.prog 242 #[.pointer (some ⟨L.s, 0, none⟩), .string (S b)] w fun e w' => ∃ p : Nat, p < 300 ∧ G.K[p]? = some 0 ∧
   e = .returned (.tuple #[.int .i64 p, .int .i64 0]) ∧ DkI w' L.D 1202 (secK G.sec p (pageB p 2 2 b) 4) ∧ MpI w' L.m L.ml (G.K.set p 2) ∧ Kp (L.ml :: dkOwn L.D) w w' := by
 have HT := hid (map_take h.mp h0)
 have c0 := h.cell0
 have c1 := h.cell1
 have c5 := h.cell5
 have H := hid h
 clear h h0
 go_enter Tryz.func242, Tryz.ntmps242
 go_wp2_with fail
 refine HT.out.mono ?_
 rintro e W1 ⟨p, hp, rfl, hM1, hW1⟩
 have hp300 : p < 300 := by have := (List.getElem?_eq_some_iff.1 hp).1; have := H.out.kl; omega
 have hk1 : Kp [L.ml] w W1 := by rw [hW1]; exact (Kp.refl _ _).setCell (.inl (by simp)) _
 have hd1 : DkI W1 L.D 1202 G.sec := H.out.dk.kp hk1 (fun b hb hx => H.out.ml_dk (by simp at hx; exact hx ▸ hb))
 have d0 : W1.cell? ⟨L.s, 0, none⟩ = some (.pointer (some ⟨L.D.d, 0, none⟩)) := by rw [hk1.cell (p := ⟨L.s, 0, none⟩) H.out.c.lt (by simpa using H.out.s_ml)]; exact c0
 have d5 : W1.cell? ⟨L.s, 5, none⟩ = some (.int .i64 1) := by rw [hk1.cell (p := ⟨L.s, 5, none⟩) H.out.c.lt (by simpa using H.out.s_ml)]; exact c5
 have HP := hid (sh_put d0 d5 hd1 H.out.s_dk p hp300 b hb)
 have HM1 := hid hM1
 have HK1 := hid hk1
 have HPK := hid hp
 clear hW1 hM1 hk1 hd1 hp c0 c1 c5 d0 d5
 go_wp2_with (go_at_call 265; refine HP.out.mono ?_; rintro e W2 ⟨rfl, hd2, hk2⟩)
 go_ret2
 refine ⟨p, hp300, HPK.out, rfl, hd2, HM1.out.of_blocks (hk2.block _ HM1.out.c.lt H.out.m_dk) (hk2.block _ HM1.out.l.lt H.out.ml_dk), ?_⟩
 exact (HK1.out.mono (by simp)).trans (hk2.mono (by intro x hx; exact .inl (List.mem_cons_of_mem _ hx)))
end
end
section
open Go.RowKit Go.Lib
theorem count_set (K : List Int) (p : Nat) (x y : Int) (hp : K[p]? = some x) (hx : x = 0) (hy : y ≠ 0) : (K.set p y).count 0 + 1 = K.count 0 := by
 induction K generalizing p with
 | nil => simp at hp
 | cons k K ih =>
  cases p with
  | zero =>
   simp at hp
   subst hp; subst hx
   simp [List.count_cons, hy]
  | succ p =>
   simp at hp
   have := ih p hp
   simp only [List.set_cons_succ, List.count_cons]
   omega
theorem count_set' (K : List Int) (p : Nat) (hp : K[p]? = some 2) : (K.set p 0).count 0 = K.count 0 + 1 := by
 induction K generalizing p with
 | nil => simp at hp
 | cons k K ih =>
  cases p with
  | zero =>
   simp at hp
   subst hp
   simp [List.count_cons]
  | succ p =>
   simp at hp
   have := ih p hp
   simp only [List.set_cons_succ, List.count_cons]
   omega
theorem somes_set_some (pgs : List (Option Bs)) (l : Nat) (b : Bs) (h : pgs[l]? = some none) : somes (pgs.set l (some b)) = somes pgs + 1 := by
 induction pgs generalizing l with
 | nil => simp at h
 | cons o pgs ih =>
  cases l with
  | zero => simp at h; subst h; simp [somes]
  | succ l =>
   simp at h
   have := ih l h
   simp only [somes, List.set_cons_succ, List.countP_cons] at this ⊢
   omega
theorem somes_set_same (pgs : List (Option Bs)) (l : Nat) (b b' : Bs) (h : pgs[l]? = some (some b)) : somes (pgs.set l (some b')) = somes pgs := by
 induction pgs generalizing l with
 | nil => simp at h
 | cons o pgs ih =>
  cases l with
  | zero => simp at h; subst h; simp [somes]
  | succ l =>
   simp at h
   have := ih l h
   simp only [somes, List.set_cons_succ, List.countP_cons] at this ⊢
   omega
theorem somes_set_none (pgs : List (Option Bs)) (l : Nat) (b : Bs) (h : pgs[l]? = some (some b)) : somes (pgs.set l none) + 1 = somes pgs := by
 induction pgs generalizing l with
 | nil => simp at h
 | cons o pgs ih =>
  cases l with
  | zero => simp at h; subst h; simp [somes]
  | succ l =>
   simp at h
   have := ih l h
   simp only [somes, List.set_cons_succ, List.countP_cons] at this ⊢
   omega
theorem somes_all (pgs : List (Option Bs)) (h : ∀ (l : Nat), pgs[l]? ≠ some none) : somes pgs = pgs.length := by
 unfold somes
 rw [List.countP_eq_length]
 intro o ho
 obtain ⟨l, hl⟩ := List.getElem?_of_mem ho
 cases o with
 | none => exact absurd hl (h l)
 | some b => rfl
theorem somes_snoc (pgs : List (Option Bs)) (b : Bs) : somes (pgs ++ [some b]) = somes pgs + 1 := by simp [somes]
theorem someN {a b : Nat} (h : some (a : Int) = some (b : Int)) : a = b := by
 have : (a : Int) = b := by simpa using h
 omega
def newAt (pgs : List (Option Bs)) (l : Nat) (b : Bs) : List (Option Bs) := if l < pgs.length then pgs.set l (some b) else pgs ++ [some b]
def tabAt (T : List Int) (l : Nat) (p : Int) : List Int := if l < T.length then T.set l p else T ++ [p]
theorem tabAt_get {T : List Int} {l : Nat} {p : Int} (hl : l ≤ T.length) (j : Nat) : (tabAt T l p)[j]? = if j = l then some p else T[j]? := by
 unfold tabAt
 by_cases h : l < T.length
 ·rw [if_pos h, List.getElem?_set]
  by_cases hj : j = l
  ·subst hj; simp [h]
  ·simp [hj, Ne.symm hj]
 ·have : l = T.length := by omega
  subst this
  rw [if_neg (by omega)]
  by_cases hj : j = T.length
  ·subst hj; simp
  ·rw [if_neg hj]
   rcases Nat.lt_or_ge j T.length with h1 | h1
   ·rw [List.getElem?_append_left h1]
   ·rw [List.getElem?_append_right h1, List.getElem?_eq_none h1, List.getElem?_eq_none (by simp; omega)]
theorem newAt_get {pgs : List (Option Bs)} {l : Nat} {b : Bs} (hl : l ≤ pgs.length) (j : Nat) : (newAt pgs l b)[j]? = if j = l then some (some b) else pgs[j]? := by
 unfold newAt
 by_cases h : l < pgs.length
 ·rw [if_pos h, List.getElem?_set]
  by_cases hj : j = l
  ·subst hj; simp [h]
  ·simp [hj, Ne.symm hj]
 ·have : l = pgs.length := by omega
  subst this
  rw [if_neg (by omega)]
  by_cases hj : j = pgs.length
  ·subst hj; simp
  ·rw [if_neg hj]
   rcases Nat.lt_or_ge j pgs.length with h1 | h1
   ·rw [List.getElem?_append_left h1]
   ·rw [List.getElem?_append_right h1, List.getElem?_eq_none h1, List.getElem?_eq_none (by simp; omega)]
theorem pageB_pad (id ep : Int) (kd : Nat) (b : Bs) (hb : b.length ≤ 232) : pageB id ep kd (pad b) = pageB id ep kd b := by
 unfold pageB pageI; rw [pad_pad b hb]
section
variable {w w' : World} {L : ShL} {G : ShG} {pgs : List (Option Bs)}
theorem ShI.new_ (h : ShI w L G pgs) {p l : Nat} {b : Bs} {tv : Value} (hb : b.length ≤ 232) (hp : G.K[p]? = some 0) (hl : pgs[l]? = some none ∨ (l = pgs.length ∧ ∀ (j : Nat), pgs[j]? ≠ some none)) (hsm : somes pgs < 300)
  (c : Blk w' L.s 257 (shCells L tv)) (dk : DkI w' L.D 1202 (secK G.sec p (pageB p 2 2 b) 4)) (mp : MpI w' L.m L.ml (G.K.set p 2))
  (tb : w'.ownsRow 0 3 1 tv (tabAt G.T l p).length (cI (tabAt G.T l p))) (nd : (shOwn L { G with tv := tv }).Nodup) :
  ShI w' L ⟨secK G.sec p (pageB p 2 2 b) 4, G.K.set p 2, tabAt G.T l p, tv⟩ (newAt pgs l (pad b)) := by
 have hle : l ≤ pgs.length := by
  rcases hl with h1 | h1
  ·exact Nat.le_of_lt (List.getElem?_eq_some_iff.1 h1).1
  ·omega
 have hleT : l ≤ G.T.length := by rw [h.tl]; exact hle
 have hlen : (newAt pgs l (pad b)).length = if l < pgs.length then pgs.length else pgs.length + 1 := by unfold newAt; split <;> simp
 have hlenT : (tabAt G.T l p).length = if l < pgs.length then pgs.length else pgs.length + 1 := by unfold tabAt; rw [h.tl]; split <;> simp [h.tl]
 have other : ∀ (p' : Nat), G.K[p']? = some 2 → p' ≠ p := fun p' h2 e => by subst e; rw [hp] at h2; simp at h2
 refine ⟨c, dk, mp, by simpa using h.kl, tb, by rw [hlenT, hlen], ?_, ?_, ?_, ?_, ?_, ?_, nd⟩
 ·rw [hlen]
  rcases hl with h1 | ⟨h1, h2⟩
  ·rw [if_pos (List.getElem?_eq_some_iff.1 h1).1]; exact h.pl
  ·have := somes_all pgs h2; rw [if_neg (by omega)]; omega
 ·intro j hj
  rw [newAt_get hle] at hj
  rw [tabAt_get hleT]
  by_cases e : j = l
  ·rw [if_pos e] at hj; simp at hj
  ·rw [if_neg e] at hj ⊢; exact h.none_ j hj
 ·intro j b' hj
  rw [newAt_get hle] at hj
  rw [tabAt_get hleT]
  by_cases e : j = l
  ·rw [if_pos e] at hj ⊢
   simp at hj
   subst hj
   refine ⟨pad_length hb, p, rfl, ?_, ?_⟩
   ·have := (List.getElem?_eq_some_iff.1 hp).1; simp [this]
   ·rw [pageB_pad _ _ _ _ hb]; exact pgAt_K _ _ _
  ·rw [if_neg e] at hj ⊢
   obtain ⟨q1, p', q2, q3, q4⟩ := h.some_ j b' hj
   have hne := other p' q3
   exact ⟨q1, p', q2, by rw [List.getElem?_set_ne (Ne.symm hne)]; exact q3, pgAt_other q4 hne⟩
 ·intro j j' q hj hj'
  rw [tabAt_get hleT] at hj hj'
  have key : ∀ (i : Nat), i ≠ l → G.T[i]? = some (q : Int) → q ≠ p := fun i hi h1 e => by
   have hil : i < pgs.length := by rw [← h.tl]; exact (List.getElem?_eq_some_iff.1 h1).1
   cases ho : pgs[i]? with
   | none => rw [List.getElem?_eq_none_iff] at ho; omega
   | some o =>
    cases o with
    | none => have := h.none_ i ho; rw [h1] at this; simp at this
    | some b' =>
     obtain ⟨_, p', q2, q3, _⟩ := h.some_ i b' ho
     rw [h1] at q2
     have e2 : q = p' := someN q2
     exact other p' q3 (by omega)
  by_cases e : j = l <;> by_cases e' : j' = l
  ·rw [e, e']
  ·rw [if_pos e] at hj; rw [if_neg e'] at hj'
   have e3 : p = q := someN hj
   exact absurd e3.symm (key j' e' hj')
  ·rw [if_neg e] at hj; rw [if_pos e'] at hj'
   have e3 : p = q := someN hj'
   exact absurd e3.symm (key j e hj)
  ·rw [if_neg e] at hj; rw [if_neg e'] at hj'; exact h.inj j j' q hj hj'
 ·intro q k hq
  rw [List.getElem?_set] at hq
  split at hq
  ·split at hq
   ·simp at hq; right; exact hq.symm
   ·simp at hq
  ·exact h.kinds q k hq
 ·have h1 := count_set G.K p 0 2 hp rfl (by decide)
  have h2 := h.cnt
  have h3 : somes (newAt pgs l (pad b)) = somes pgs + 1 := by
   unfold newAt
   rcases hl with q1 | ⟨q1, q2⟩
   ·rw [if_pos (List.getElem?_eq_some_iff.1 q1).1]; exact somes_set_some _ _ _ q1
   ·rw [if_neg (by omega)]; exact somes_snoc _ _
  rw [h3]
  show (G.K.set p 2).count 0 + _ = 300
  omega
theorem ShI.write_ (h : ShI w L G pgs) {p l : Nat} {b b0 : Bs} (hb : b.length ≤ 232) (hl : pgs[l]? = some (some b0)) (hp : G.T[l]? = some (p : Int))
  (c : Blk w' L.s 257 (shCells L G.tv)) (dk : DkI w' L.D 1202 (secK G.sec p (pageB p 2 2 b) 4)) (mp : MpI w' L.m L.ml G.K) (tb : w'.ownsRow 0 3 1 G.tv G.T.length (cI G.T)) :
  ShI w' L { G with sec := secK G.sec p (pageB p 2 2 b) 4 } (pgs.set l (some (pad b))) := by
 have hll := (List.getElem?_eq_some_iff.1 hl).1
 refine ⟨c, dk, mp, h.kl, tb, by simpa using h.tl, by simpa using h.pl, ?_, ?_, h.inj, h.kinds, by rw [somes_set_same _ _ _ _ hl]; exact h.cnt, h.nd⟩
 ·intro j hj
  rw [List.getElem?_set] at hj
  split at hj
  ·simp [hll] at hj
  ·exact h.none_ j hj
 ·intro j b' hj
  rw [List.getElem?_set] at hj
  split at hj
  ·rename_i e; subst e
   simp [hll] at hj
   subst hj
   obtain ⟨_, p', q2, q3, _⟩ := h.some_ l b0 hl
   rw [hp] at q2
   have e2 : p = p' := someN q2
   subst e2
   exact ⟨pad_length hb, p, hp, q3, by rw [pageB_pad _ _ _ _ hb]; exact pgAt_K _ _ _⟩
  ·rename_i e
   obtain ⟨q1, p', q2, q3, q4⟩ := h.some_ j b' hj
   exact ⟨q1, p', q2, q3, pgAt_other q4 (fun e2 => e (h.inj l j p hp (by rw [← e2]; exact q2)))⟩
theorem ShI.drop_ (h : ShI w L G pgs) {p l : Nat} {b0 : Bs} (hl : pgs[l]? = some (some b0)) (hp : G.T[l]? = some (p : Int))
  (c : Blk w' L.s 257 (shCells L G.tv)) (dk : DkI w' L.D 1202 G.sec) (mp : MpI w' L.m L.ml (G.K.set p 0)) (tb : w'.ownsRow 0 3 1 G.tv (G.T.set l (-1)).length (cI (G.T.set l (-1)))) :
  ShI w' L { G with K := G.K.set p 0, T := G.T.set l (-1) } (pgs.set l none) := by
 have hll := (List.getElem?_eq_some_iff.1 hl).1
 have hlT : l < G.T.length := by rw [h.tl]; exact hll
 obtain ⟨_, p', q2, q3, _⟩ := h.some_ l b0 hl
 rw [hp] at q2
 have e2 : p = p' := someN q2
 subst e2
 refine ⟨c, dk, mp, by simpa using h.kl, tb, by simpa using h.tl, by simpa using h.pl, ?_, ?_, ?_, ?_, ?_, h.nd⟩
 ·intro j hj
  show (G.T.set l (-1))[j]? = _
  rw [List.getElem?_set] at hj ⊢
  split at hj
  ·rename_i e; rw [if_pos e, if_pos (by omega)]
  ·rename_i e; rw [if_neg e]; exact h.none_ j hj
 ·intro j b' hj
  rw [List.getElem?_set] at hj
  split at hj
  ·simp [hll] at hj
  ·rename_i e
   obtain ⟨q1, p', q2, q4, q5⟩ := h.some_ j b' hj
   have hne : p' ≠ p := fun e2 => e (h.inj l j p hp (by rw [← e2]; exact q2))
   exact ⟨q1, p', by show (G.T.set l (-1))[j]? = _; rw [List.getElem?_set_ne e]; exact q2, by show (G.K.set p 0)[p']? = _; rw [List.getElem?_set_ne (Ne.symm hne)]; exact q4, q5⟩
 ·intro j j' q hj hj'
  have key : ∀ (i : Nat), (G.T.set l (-1))[i]? = some (q : Int) → G.T[i]? = some (q : Int) := fun i hi => by
   rw [List.getElem?_set] at hi
   split at hi
   ·rename_i e; subst e; simp [hlT] at hi
   ·exact hi
  exact h.inj j j' q (key j hj) (key j' hj')
 ·intro q k hq
  have hq' : (G.K.set p 0)[q]? = some k := hq
  rw [List.getElem?_set] at hq'
  split at hq'
  ·split at hq'
   ·simp at hq'; left; exact hq'.symm
   ·simp at hq'
  ·exact h.kinds q k hq'
 ·have h1 := count_set' G.K p q3
  have h2 := somes_set_none pgs l b0 hl
  have h3 := h.cnt
  show (G.K.set p 0).count 0 + _ = 300
  omega
end
end
section
open Go.RowKit Go.Lib
theorem sl_of_own {w : World} {B : Nat} {v : Value} {l : List Int} (h : w.ownsRow B 3 1 v l.length (cI l)) : SlI w v l := by
 rcases h.2 with ⟨h3, h0⟩ | ⟨g, cap, cur, e1, e2, e3, e4⟩
 ·exact .inl ⟨h3, List.length_eq_zero_iff.1 h0⟩
 ·refine .inr ⟨g, 0, cap, e1, lt_of_block e3, fun j v hj => ?_⟩
  have := h.cells (g := g) (by rw [e1]; rfl) j v hj
  rwa [Addr.add_mid] at this
theorem inf3 : (Tryz.prog.info? 3).map (fun i => (i.zero, i.size, i.bytes)) = some (some (.int .i64 0), 1, 8) := by kernel_rfl
section
variable {w : World} {L : ShL} {G : ShG} {pgs : List (Option Bs)}
theorem ShI.tv_form (h : ShI w L G pgs) {l : Nat} (hl : l < G.T.length) : ∃ g c, G.tv = .slice (some ⟨g, 0, none⟩) G.T.length c ∧ w.cell? ⟨g, l, none⟩ = some (.int .i64 (G.T.getD l 0)) ∧ w.frozen? ⟨g, l, none⟩ = false := by
 rcases h.tb.2 with ⟨h3, h0⟩ | ⟨g, cap, cur, e1, e2, e3, e4⟩
 ·omega
 ·refine ⟨g, cap, e1, ?_, frozen_of_row w g l cur 3 e3⟩
  have := h.tb.cells (g := g) (by rw [e1]; rfl) l _ (cI_get G.T l hl)
  rw [Addr.add_mid] at this
  simpa using this
theorem sh_at (h : ShI w L G pgs) (l : Nat) (p : Nat) (hp : G.T[l]? = some (p : Int)) :
  Calls Tryz.prog 272 #[.pointer (some ⟨L.s, 0, none⟩), .int .i64 l] w fun e w' => e = .returned (.int .i64 0) ∧ w = w' := by
 have HW := hid (sh_works h)
 have hl := (List.getElem?_eq_some_iff.1 hp).1
 obtain ⟨g, c, htv, hc, hf⟩ := h.tv_form hl
 have c2 := h.cell2
 rw [htv] at c2
 have hT : G.T.getD l 0 = (p : Int) := by simp [List.getD, hp]
 rw [hT] at hc
 have hn : G.T.length ≤ 512 := by rw [h.tl]; exact h.pl
 have hp0 : (0 : Int) ≤ (p : Int) := by omega
 clear h hp htv hT
 go_enter Tryz.func272, Tryz.ntmps272
 go_wp2_with (go_at_call 241; refine HW.out.mono ?_; rintro e w' ⟨rfl, rfl⟩)
 go_ret
 exact ⟨rfl, rfl⟩
theorem ShI.page (h : ShI w L G pgs) {l : Nat} {b : Bs} (hl : pgs[l]? = some (some b)) : ∃ p : Nat, p < 300 ∧ b.length = 232 ∧ G.T[l]? = some (p : Int) ∧ G.K[p]? = some 2 ∧ pgAt G.sec p (pageB p 2 2 b) := by
 obtain ⟨h1, p, h2, h3, h4⟩ := h.some_ l b hl
 exact ⟨p, by have := (List.getElem?_eq_some_iff.1 h3).1; have := h.kl; omega, h1, h2, h3, h4⟩
theorem keep3 {w w' : World} {a b c : Addr} {x y z : Value} (h : w.cell? a = some x ∧ w.cell? b = some y ∧ w.cell? c = some z) (hB : Below w.heap.size w w') : w'.cell? a = some x ∧ w'.cell? b = some y ∧ w'.cell? c = some z :=
 ⟨(hB.cell (block_lt_of_cell h.1)).trans h.1, (hB.cell (block_lt_of_cell h.2.1)).trans h.2.1, (hB.cell (block_lt_of_cell h.2.2)).trans h.2.2⟩
theorem keep3k {w w' : World} {O : List Nat} {a b c : Addr} {x y z : Value} (h : w.cell? a = some x ∧ w.cell? b = some y ∧ w.cell? c = some z) (hB : Kp O w w') (h1 : a.block ∉ O) (h2 : b.block ∉ O) (h3 : c.block ∉ O) : w'.cell? a = some x ∧ w'.cell? b = some y ∧ w'.cell? c = some z :=
 ⟨(hB.cell (block_lt_of_cell h.1) h1).trans h.1, (hB.cell (block_lt_of_cell h.2.1) h2).trans h.2.1, (hB.cell (block_lt_of_cell h.2.2) h3).trans h.2.2⟩
theorem below_set4 {w w1 : World} (hB : Below w.heap.size w w1) (u0 u1 u2 u3 : Value) : Below w.heap.size w ((((w1.setCell ⟨w.heap.size, 0, none⟩ u0).setCell ⟨w.heap.size, 1, none⟩ u1).setCell ⟨w.heap.size, 2, none⟩ u2).setCell ⟨w.heap.size, 3, none⟩ u3) :=
 (((hB.setCell (p := ⟨w.heap.size, 0, none⟩) (Nat.le_refl _) u0).setCell (p := ⟨w.heap.size, 1, none⟩) (Nat.le_refl _) u1).setCell (p := ⟨w.heap.size, 2, none⟩) (Nat.le_refl _) u2).setCell (p := ⟨w.heap.size, 3, none⟩) (Nat.le_refl _) u3
set_option maxHeartbeats 1600000 in
theorem sh_read (h : ShI w L G pgs) (l : Nat) (b : Bs) (hl : pgs[l]? = some (some b)) :
  Calls Tryz.prog 278 #[.pointer (some ⟨L.s, 0, none⟩), .int .i64 l] w fun e w' => e = .returned (.tuple #[.string (S b), .int .i64 0]) ∧ Below w.heap.size w w' := by
 obtain ⟨p, hp, hb, hT, hK, hpg⟩ := h.page hl
 have HA := hid (sh_at h l p hT)
 have hll := (List.getElem?_eq_some_iff.1 hT).1
 obtain ⟨g, c, htv, hc, hf⟩ := h.tv_form hll
 have c0 := h.cell0
 have c2 := h.cell2
 rw [htv] at c2
 have hTd : G.T.getD l 0 = (p : Int) := by simp [List.getD, hT]
 rw [hTd] at hc
 have hn : G.T.length ≤ 512 := by rw [h.tl]; exact h.pl
 have hdk := h.dk
 have HR := hid (fun W (hW : Below w.heap.size w W) => page_read2 (hdk.below hW) p hp b hb hpg)
 have HD := hid h.dk
 have hl0 : (0 : Int) ≤ (l : Int) := by omega
 have hl1 : (l : Int) < (G.T.length : Int) := by omega
 have HS : Hid (w.cell? ⟨L.s, 0, none⟩ = some (.pointer (some ⟨L.D.d, 0, none⟩)) ∧ w.cell? ⟨L.s, 2, none⟩ = some (.slice (some ⟨g, 0, none⟩) G.T.length c) ∧ w.cell? ⟨g, l, none⟩ = some (.int .i64 p)) := hid ⟨c0, c2, hc⟩
 have hlt1 := block_lt_of_cell c0
 have hlt2 := block_lt_of_cell hc
 clear h hp hT hK hpg htv hTd hf hl hdk
 go_enter Tryz.func278, Tryz.ntmps278
 go_wp2_with (go_at_call 272; refine HA.out.mono ?_; rintro e w' ⟨rfl, rfl⟩)
 go_region_held3 (fun w' => w'.cell? ⟨L.s, 0, none⟩ = some (.pointer (some ⟨L.D.d, 0, none⟩)) ∧ w'.cell? ⟨L.s, 2, none⟩ = some (.slice (some ⟨g, 0, none⟩) G.T.length c) ∧ w'.cell? ⟨g, l, none⟩ = some (.int .i64 p)) (first | exact HS.out | exact keep3 HS.out hB1 | exact keep3 HS.out (hB1.alloc hB1.size _) | exact keep3 HS.out ((Below.refl _ _).drew.alloc (Nat.le_refl _) _) | exact keep3 HS.out (below_set4 hB1 _ _ _ _) | go_keep) (first | (go_at_call 283; refine (HR.out w.drew ((Below.refl _ _).drew)).mono ?_; rintro e w1 ⟨rfl, hb1⟩; have hB1 : Below w.heap.size w w1 := ((Below.refl w.heap.size w).drew).trans hb1) | (go_at_call 283; refine (HR.out (w.drew.alloc (.cells #[.int .i64 0, .int .i64 0, .int .i64 0, .string ⟨#[]⟩] 396)) ((Below.refl _ _).drew.alloc (Nat.le_refl _) _)).mono ?_; rintro e w1 ⟨rfl, hb1⟩; have hB1 : Below w.heap.size w w1 := (((Below.refl w.heap.size w).drew).alloc (Nat.le_refl _) _).trans (hb1.mono (by simp)); have hR1 : Blk w1 w.heap.size 396 #[.int .i64 0, .int .i64 0, .int .i64 0, .string ⟨#[]⟩] := (Blk.new w.drew 396 #[.int .i64 0, .int .i64 0, .int .i64 0, .string ⟨#[]⟩]).below hb1 (by simp); have r0 : w1.cell? ⟨w.heap.size, 0, none⟩ = some (.int .i64 0) := hR1.cell 0; have r1 : w1.cell? ⟨w.heap.size, 1, none⟩ = some (.int .i64 0) := hR1.cell 1; have r2 : w1.cell? ⟨w.heap.size, 2, none⟩ = some (.int .i64 0) := hR1.cell 2; have r3 : w1.cell? ⟨w.heap.size, 3, none⟩ = some (.string ⟨#[]⟩) := hR1.cell 3; have f0 := hR1.frozen 0; have f1 := hR1.frozen 1; have f2 := hR1.frozen 2; have f3 := hR1.frozen 3; have HR1 := hid hR1; clear hR1))
 all_goals go_wp2
 ·go_ret2
  exact ⟨rfl, hB1.alloc hB1.size _⟩
 ·go_ret2
  exact ⟨rfl, below_set4 hB1 _ _ _ _⟩
theorem map_leave' {m ml : Nat} {K : List Int} (h : MpI w m ml K) (p : Nat) (hp : K[p]? = some 2) :
  Calls Tryz.prog 266 #[.pointer (some ⟨m, 0, none⟩), .int .i64 p] w fun e w' => e = .returned (.int .i64 0) ∧ MpI w' m ml (K.set p 0) ∧ Kp [ml] w w' :=
 (map_leave h p hp).mono fun _ _ ⟨h1, h2, h3⟩ => ⟨h1, h2, by rw [h3]; exact (Kp.refl _ _).setCell (.inl (by simp)) _⟩
theorem ShI.drewN (h : ShI w L G pgs) (n : Nat) : ShI (w.drewN n) L G pgs := h.of_blocks fun _ _ => rfl
theorem kp_drewN {O : List Nat} {w w' : World} {n : Nat} (h : Kp O (w.drewN n) w') : Kp O w w' := ⟨h.os, h.tape, h.output, h.size, h.block⟩
set_option maxHeartbeats 400000 in
theorem sh_write (h : ShI w L G pgs) (l : Nat) (b0 b : Bs) (hl : pgs[l]? = some (some b0)) (hb : b.length ≤ 232) :
  Calls Tryz.prog 287 #[.pointer (some ⟨L.s, 0, none⟩), .int .i64 l, .string (S b)] w fun e w' => e = .returned (.int .i64 0) ∧ Kp (shOwn L G) w w' ∧ ∃ sec, ShI w' L { G with sec := sec } (pgs.set l (some (pad b))) := by
 obtain ⟨p, hp, _, hT, hK, _⟩ := h.page hl
 have HW := hid (sh_works h)
 have HA := hid (sh_at h l p hT)
 have hll := (List.getElem?_eq_some_iff.1 hT).1
 obtain ⟨g, c, htv, hc, hf⟩ := h.tv_form hll
 have c1 := h.cell1
 have c2 := h.cell2
 rw [htv] at c2
 have hTd : G.T.getD l 0 = (p : Int) := by simp [List.getD, hT]
 rw [hTd] at hc
 have hn : G.T.length ≤ 512 := by rw [h.tl]; exact h.pl
 have HF := hid (fun n => map_fresh (h.drewN n).mp p hK)
 have HP := hid (fun n => sh_put (h.drewN n).cell0 (h.drewN n).cell5 (h.drewN n).dk h.s_dk p hp b hb)
 have hl0 : (0 : Int) ≤ (l : Int) := by omega
 have hl1 : (l : Int) < (G.T.length : Int) := by omega
 have H := hid h
 have HT := hid hT
 have HL := hid hl
 clear h hp hT hK htv hTd hf hl
 go_enter Tryz.func287, Tryz.ntmps287
 go_wp2_with (first
  | (go_at_call 241; refine HW.out.mono ?_; rintro e w' ⟨rfl, rfl⟩)
  | (go_at_call 272; refine HA.out.mono ?_; rintro e w' ⟨rfl, rfl⟩))
 go_quiet ((go_at_call 292; exact quiet_left (HF.out _)))
 go_wp2_with (go_at_call 265; refine (HP.out _).mono ?_; rintro e W2 ⟨rfl, hd2, hk2⟩)
 go_ret
 have hk := kp_drewN hk2
 refine ⟨rfl, hk.mono (fun x hx => .inl (by simp [shOwn, hx])), _, H.out.write_ hb HL.out HT.out ?_ hd2 ?_ ?_⟩
 ·exact H.out.c.kp hk H.out.s_dk
 ·exact H.out.mp.of_blocks (hk.block _ H.out.mp.c.lt H.out.m_dk) (hk.block _ H.out.mp.l.lt H.out.ml_dk)
 ·exact row_of H.out.tb (fun b hb => hk.block b (H.out.tb.lt b hb).2 (fun hx => H.out.tv_out hb (by simp [hx])))
set_option maxHeartbeats 400000 in
theorem sh_drop (h : ShI w L G pgs) (l : Nat) (b0 : Bs) (hl : pgs[l]? = some (some b0)) :
  Calls Tryz.prog 248 #[.pointer (some ⟨L.s, 0, none⟩), .int .i64 l] w fun e w' => e = .returned (.int .i64 0) ∧ Kp (shOwn L G) w w' ∧ ∃ p T, ShI w' L { G with K := G.K.set p 0, T := T } (pgs.set l none) := by
 obtain ⟨p, hp, _, hT, hK, _⟩ := h.page hl
 have HA := hid (sh_at h l p hT)
 have hll := (List.getElem?_eq_some_iff.1 hT).1
 obtain ⟨g, c, htv, hc, hf⟩ := h.tv_form hll
 have c1 := h.cell1
 have c2 := h.cell2
 rw [htv] at c2
 have hTd : G.T.getD l 0 = (p : Int) := by simp [List.getD, hT]
 rw [hTd] at hc
 have hn : G.T.length ≤ 512 := by rw [h.tl]; exact h.pl
 have HV := hid (fun W (hW : MpI W L.m L.ml G.K) => map_leave' hW p hK)
 have hl0 : (0 : Int) ≤ (l : Int) := by omega
 have hl1 : (l : Int) < (G.T.length : Int) := by omega
 have hgml : g ≠ L.ml := fun e => h.tv_out (b := g) (by rw [htv]; rfl) (by simp [e])
 have hgs : g ≠ L.s := fun e => h.tv_out (b := g) (by rw [htv]; rfl) (by simp [e])
 have H := hid h
 have HT := hid hT
 have HL := hid hl
 have HTV := hid htv
 have HS : Hid (w.cell? ⟨L.s, 1, none⟩ = some (.pointer (some ⟨L.m, 0, none⟩)) ∧ w.cell? ⟨L.s, 2, none⟩ = some (.slice (some ⟨g, 0, none⟩) G.T.length c) ∧ w.cell? ⟨g, l, none⟩ = some (.int .i64 p)) := hid ⟨c1, c2, hc⟩
 have HSM := hid h.s_ml
 clear h hp hT hK htv hTd hl
 go_enter Tryz.func248, Tryz.ntmps248
 go_wp2_with (go_at_call 272; refine HA.out.mono ?_; rintro e w' ⟨rfl, rfl⟩)
 go_region_held3 (fun w' => w'.cell? ⟨L.s, 1, none⟩ = some (.pointer (some ⟨L.m, 0, none⟩)) ∧ w'.cell? ⟨L.s, 2, none⟩ = some (.slice (some ⟨g, 0, none⟩) G.T.length c) ∧ w'.cell? ⟨g, l, none⟩ = some (.int .i64 p)) (first | exact HS.out | exact keep3k HS.out hk1 (by simpa using HSM.out) (by simpa using HSM.out) (by simpa using hgml)) (first | (go_at_call 266; refine (HV.out w.drew (H.out.of_blocks (w' := w.drew) (fun _ _ => rfl)).mp).mono ?_; rintro e w1 ⟨rfl, hm1, hk1'⟩; have hk1 : Kp [L.ml] w w1 := (Kp.refl [L.ml] w).drew.trans hk1'))
 have q2 : w1.cell? ⟨L.s, 2, none⟩ = some (.slice (some ⟨g, 0, none⟩) G.T.length c) := (hk1.cell (p := ⟨L.s, 2, none⟩) H.out.c.lt (by simpa using HSM.out)).trans HS.out.2.1
 have q3 : w1.cell? ⟨g, l, none⟩ = some (.int .i64 p) := (hk1.cell (p := ⟨g, l, none⟩) (block_lt_of_cell HS.out.2.2) (by simpa using hgml)).trans HS.out.2.2
 have q4 : w1.frozen? ⟨g, l, none⟩ = false := (hk1.frozen (p := ⟨g, l, none⟩) (block_lt_of_cell HS.out.2.2) (by simpa using hgml)).trans hf
 have HM1 := hid hm1
 have HK1 := hid hk1
 clear hm1 hk1' hk1
 go_wp2
 go_ret
 have hgd : g ∉ dkOwn L.D := fun hx => H.out.tv_out (b := g) (by rw [HTV.out]; rfl) (by simp [hx])
 have hgm : g ≠ L.m := fun e => H.out.tv_out (b := g) (by rw [HTV.out]; rfl) (by simp [e])
 have hk2 : Kp [L.ml, g] w (w1.setCell ⟨g, l, none⟩ (.int .i64 (-1))) := (HK1.out.mono (by simp)).setCell (.inl (by simp)) _
 have e : ∀ b, b < w.heap.size → b ≠ L.ml → b ≠ g → (w1.setCell ⟨g, l, none⟩ (.int .i64 (-1))).heap[b]? = w.heap[b]? := fun b hb h1 h2 => hk2.block b hb (by simp [h1, h2])
 refine ⟨rfl, hk2.mono (fun x hx => .inl ?_), p, G.T.set l (-1), H.out.drop_ HL.out HT.out ?_ ?_ ?_ ?_⟩
 ·simp at hx
  rcases hx with rfl | rfl
  ·simp [shOwn]
  ·simp [shOwn, HTV.out, Value.ownBlock]
 ·exact (e _ H.out.c.lt H.out.s_ml (Ne.symm hgs)).trans H.out.c
 ·exact H.out.dk.of_blocks fun b hb => e b (H.out.lts b (by simp [shOwn, hb])) (fun h1 => H.out.ml_dk (h1 ▸ hb)) (fun h1 => hgd (h1 ▸ hb))
 ·exact ⟨HM1.out.c.far (p := ⟨g, l, none⟩) (Ne.symm hgm) _, HM1.out.l.far (p := ⟨g, l, none⟩) (Ne.symm hgml) _, HM1.out.n0, HM1.out.n1⟩
 ·have htb : w1.ownsRow 0 3 1 (.slice (some ⟨g, 0, none⟩) G.T.length c) G.T.length (cI G.T) := by
   have := row_of (w' := w1) H.out.tb (fun b hb => HK1.out.block b (H.out.tb.lt b hb).2 (by
    have : b = g := by rw [HTV.out] at hb; simpa [Value.ownBlock] using hb.symm
    subst this; simpa using hgml))
   rwa [HTV.out] at this
  have := htb.stored l (.int .i64 (-1))
  rw [HTV.out]
  refine own_eq this.1 (by simp) ?_
  simp [cI, List.map_set]
end
end
end Go.Proofs.YtnnghcooidjlhaaGreat
