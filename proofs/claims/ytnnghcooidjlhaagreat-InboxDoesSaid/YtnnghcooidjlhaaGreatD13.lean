/- Parts of the proof: Nh Ka Kb. -/
import Derived.Test.YtnnghcooidjlhaaGreatD04
import Derived.Test.YtnnghcooidjlhaaGreatD06
import Derived.Test.YtnnghcooidjlhaaGreatD12
set_option linter.all false
set_option maxRecDepth 100000
namespace Go.Proofs.YtnnghcooidjlhaaGreat
section
def pg (pgs : List (Option Bs)) : Mp := fun q => (pgs[q]?).join
theorem pg_some {pgs : List (Option Bs)} {q : Nat} {b : Bs} : pg pgs q = some b ↔ pgs[q]? = some (some b) := by
 unfold pg
 cases h : pgs[q]? with
 | none => simp
 | some o => cases o <;> simp
theorem pg_none {pgs : List (Option Bs)} {q : Nat} : pg pgs q = none ↔ pgs[q]? = some none ∨ pgs.length ≤ q := by
 unfold pg
 cases h : pgs[q]? with
 | none => simp [List.getElem?_eq_none_iff.1 h]
 | some o =>
  have : q < pgs.length := (List.getElem?_eq_some_iff.1 h).1
  cases o <;> simp <;> omega
theorem pg_set {pgs : List (Option Bs)} {q : Nat} {v : Option Bs} (h : q < pgs.length) : pg (pgs.set q v) = upd (pg pgs) q v := by
 funext r
 unfold pg upd
 rw [List.getElem?_set]
 by_cases e : r = q
 ·subst e; simp [h]
 ·rw [if_neg (Ne.symm e), if_neg e]
theorem pg_lt {pgs : List (Option Bs)} {q : Nat} {b : Bs} (h : pg pgs q = some b) : q < pgs.length := (List.getElem?_eq_some_iff.1 (pg_some.1 h)).1
def leads (k : Bs) (l : List En) : Nat :=
 match l[cnt k l]? with
 | some x => if x.key = k then cnt k l else cnt k l - 1
 | none => cnt k l - 1
theorem cnt_pos {l : List En} {x : En} {t : List En} (hl : l = x :: t) (hx : x.key = []) {k : Bs} (hk : ¬ (∃ y, l[cnt k l]? = some y ∧ y.key = k)) : 0 < cnt k l := by
 rcases Nat.eq_zero_or_pos (cnt k l) with h0 | h0
 ·exfalso
  have hc : k = [] := by
   cases k with
   | nil => rfl
   | cons a r =>
    exfalso
    have : 0 < cnt (a :: r) l := by
     unfold cnt
     rw [hl, List.countP_cons_of_pos (by simp [hx])]
     omega
    omega
  refine hk ⟨x, ?_, by rw [hx, hc]⟩
  rw [h0, hl]; rfl
 ·exact h0
theorem leads_split {cs : List Ch} (hne : cs ≠ []) (hf : FirstE cs) (ha : Asc (cs.map Ch.en)) (k : Bs) :
  ∃ L c R, cs = L ++ c :: R ∧ L.length = leads k (cs.map Ch.en) ∧ c.key ≤ k ∧ ∀ c' ∈ R, k < c'.key := by
 obtain ⟨h1, h2⟩ := cnt_split ha k
 have hlt : leads k (cs.map Ch.en) < cs.length ∧ (∀ y, (cs.map Ch.en)[leads k (cs.map Ch.en)]? = some y → y.key ≤ k) ∧ (∀ j y, leads k (cs.map Ch.en) < j → (cs.map Ch.en)[j]? = some y → k < y.key) := by
  have hcl := cnt_le k (cs.map Ch.en)
  simp only [List.length_map] at hcl
  have after : ∀ j y, cnt k (cs.map Ch.en) ≤ j → (cs.map Ch.en)[j]? = some y → ¬ y.key < k := fun j y hj hy => h2 y (by
   obtain ⟨hjl, e⟩ := List.getElem?_eq_some_iff.1 hy
   rw [← e]
   exact List.mem_iff_getElem.2 ⟨j - cnt k (cs.map Ch.en), by rw [List.length_drop]; omega, by rw [List.getElem_drop]; congr 1; omega⟩)
  by_cases hk : ∃ y, (cs.map Ch.en)[cnt k (cs.map Ch.en)]? = some y ∧ y.key = k
  ·obtain ⟨y, hy, hyk⟩ := hk
   have e : leads k (cs.map Ch.en) = cnt k (cs.map Ch.en) := by
    unfold leads; rw [hy]; simp only; rw [if_pos hyk]
   rw [e]
   have hyl := (List.getElem?_eq_some_iff.1 hy).1
   refine ⟨by simpa using hyl, fun z hz => ?_, fun j z hj hz => ?_⟩
   ·rw [hy] at hz; injection hz with hz; subst hz; rw [hyk]; exact ble_refl _
   ·obtain ⟨hzl, e2⟩ := List.getElem?_eq_some_iff.1 hz
    have := List.pairwise_iff_getElem.1 ha _ j hyl hzl hj
    obtain ⟨_, e3⟩ := List.getElem?_eq_some_iff.1 hy
    rw [e3, e2, hyk] at this
    exact this
  ·have hpos : 0 < cnt k (cs.map Ch.en) := by
    cases cs with
    | nil => exact absurd rfl hne
    | cons c t => exact cnt_pos (x := c.en) (t := t.map Ch.en) rfl (hf c (by simp)) hk
   have e : leads k (cs.map Ch.en) = cnt k (cs.map Ch.en) - 1 := by
    unfold leads
    cases hy : (cs.map Ch.en)[cnt k (cs.map Ch.en)]? with
    | none => rfl
    | some y =>
     simp only
     rw [if_neg (fun e => hk ⟨y, hy, e⟩)]
   rw [e]
   refine ⟨by omega, fun y hy => ?_, fun j y hj hy => ?_⟩
   ·refine ble_of_lt (h1 y ?_)
    obtain ⟨hyl, e2⟩ := List.getElem?_eq_some_iff.1 hy
    rw [← e2]
    exact List.mem_iff_getElem.2 ⟨cnt k (cs.map Ch.en) - 1, by rw [List.length_take]; simp only [List.length_map] at *; omega, by rw [List.getElem_take]⟩
   ·have g1 := after j y (by omega) hy
    rcases blt_tri y.key k with h | h | h
    ·exact absurd h g1
    ·exfalso
     by_cases hjc : j = cnt k (cs.map Ch.en)
     ·subst hjc; exact hk ⟨y, hy, h⟩
     ·obtain ⟨hyl, e2⟩ := List.getElem?_eq_some_iff.1 hy
      have hcl2 : cnt k (cs.map Ch.en) < (cs.map Ch.en).length := by omega
      have := List.pairwise_iff_getElem.1 ha _ j hcl2 hyl (by omega)
      rw [e2, h] at this
      exact after _ _ (Nat.le_refl _) (List.getElem?_eq_getElem hcl2) this
    ·exact h
 obtain ⟨g1, g2, g3⟩ := hlt
 refine ⟨cs.take (leads k (cs.map Ch.en)), cs[leads k (cs.map Ch.en)], cs.drop (leads k (cs.map Ch.en) + 1), ?_, by rw [List.length_take]; omega, ?_, fun c' hc' => ?_⟩
 ·rw [← List.drop_eq_getElem_cons g1, List.take_append_drop]
 ·exact g2 (cs[leads k (cs.map Ch.en)]).en (by simp [g1])
 ·obtain ⟨j, hj, e⟩ := List.mem_iff_getElem.1 hc'
  rw [List.length_drop] at hj
  rw [List.getElem_drop] at e
  refine g3 (leads k (cs.map Ch.en) + 1 + j) c'.en (by omega) ?_
  rw [List.getElem?_map, List.getElem?_eq_getElem (by omega)]
  rw [e]; rfl
end
section
def chB (v : Bs) : Bs := pad (two 0 ++ two v.length ++ v)
def unCh (b : Bs) : Bs := (b.drop 4).take (un2 (b.getD 2 0) (b.getD 3 0))
theorem unCh_chB {v : Bs} (h : v.length ≤ 228) : unCh (chB v) = v := by
 have h2 : un2 (UInt8.ofNat (v.length / 256)) (UInt8.ofNat v.length) = v.length := un2_two (by omega)
 unfold unCh chB pad
 simp only [two, List.cons_append, List.nil_append, List.getD_cons_succ, List.getD_cons_zero, List.drop_succ_cons, List.drop_zero]
 rw [h2]
 simp
def kvOf (m : Mp) (x : En) : Bs × Bs := (x.key, if x.far < 0 then x.val else unCh ((m x.far.toNat).getD []))
def kvs (m : Mp) (E : List En) : List (Bs × Bs) := E.map (kvOf m)
def fars (E : List En) : List Nat := (E.filter fun x => decide (0 ≤ x.far)).map fun x => x.far.toNat
def ChAt (m : Mp) (x : En) : Prop := 0 ≤ x.far → ∃ v : Bs, 40 < v.length ∧ v.length ≤ 228 ∧ m x.far.toNat = some (chB v)
@[simp] theorem fars_nil : fars [] = [] := rfl
@[simp] theorem fars_append (a b : List En) : fars (a ++ b) = fars a ++ fars b := by simp [fars]
theorem fars_cons (x : En) (l : List En) : fars (x :: l) = (if 0 ≤ x.far then [x.far.toNat] else []) ++ fars l := by
 unfold fars
 by_cases h : 0 ≤ x.far <;> simp [h]
theorem fars_cons_neg {x : En} (h : x.far < 0) (l : List En) : fars (x :: l) = fars l := by
 rw [fars_cons, if_neg (by omega)]; rfl
theorem fars_cons_pos {x : En} (h : 0 ≤ x.far) (l : List En) : fars (x :: l) = x.far.toNat :: fars l := by
 rw [fars_cons, if_pos h]; rfl
theorem mem_fars {l : List En} {r : Nat} : r ∈ fars l ↔ ∃ x ∈ l, 0 ≤ x.far ∧ x.far.toNat = r := by
 simp [fars, and_assoc]
theorem fars_perm {a b : List En} (h : a.Perm b) : (fars a).Perm (fars b) := (h.filter _).map _
/-! pairs by rising keys -/
abbrev KV := Bs × Bs
def setM (M : List KV) (k v : Bs) : List KV := M.filter (fun a => decide (a.1 < k)) ++ (k, v) :: M.filter (fun a => decide (k < a.1))
def delM (M : List KV) (k : Bs) : List KV := M.filter fun a => decide (a.1 ≠ k)
def getM (M : List KV) (k : Bs) : Option Bs := (M.find? fun a => decide (a.1 = k)).map Prod.snd
def AscM (M : List KV) : Prop := M.Pairwise fun a b => a.1 < b.1
theorem kvs_asc {m : Mp} {E : List En} (h : Asc E) : AscM (kvs m E) := by
 unfold AscM kvs
 rw [List.pairwise_map]
 exact h
theorem kvs_append (m : Mp) (a b : List En) : kvs m (a ++ b) = kvs m a ++ kvs m b := by simp [kvs]
theorem kvs_cons (m : Mp) (x : En) (l : List En) : kvs m (x :: l) = kvOf m x :: kvs m l := rfl
theorem kvs_filter (m : Mp) (E : List En) (p : Bs → Bool) : kvs m (E.filter fun x => p x.key) = (kvs m E).filter fun a => p a.1 := by
 unfold kvs
 rw [List.filter_map]
 rfl
theorem kvs_congr {m m' : Mp} {E : List En} (h : ∀ r ∈ fars E, m' r = m r) : kvs m' E = kvs m E := by
 unfold kvs
 refine List.map_congr_left fun x hx => ?_
 unfold kvOf
 by_cases h0 : x.far < 0
 ·rw [if_pos h0, if_pos h0]
 ·rw [if_neg h0, if_neg h0, h _ (mem_fars.2 ⟨x, hx, by omega, rfl⟩)]
/-! a node's entries about a key -/
theorem filter_lt {l : List En} (h : Asc l) (k : Bs) : l.filter (fun x => decide (x.key < k)) = l.take (cnt k l) := by
 obtain ⟨h1, h2⟩ := cnt_split h k
 conv => lhs; rw [← List.take_append_drop (cnt k l) l]
 rw [List.filter_append, List.filter_eq_self.2 (by simpa using h1), List.filter_eq_nil_iff.2 (by simpa using h2), List.append_nil]
def hasK (k : Bs) (l : List En) : Prop := ∃ x, l[cnt k l]? = some x ∧ x.key = k
def cntE (k : Bs) (l : List En) (is : Bool) : Nat := if is = true then cnt k l + 1 else cnt k l
theorem filter_gt {l : List En} (h : Asc l) (k : Bs) (is : Bool) (his : is = true ↔ hasK k l) : l.filter (fun x => decide (k < x.key)) = l.drop (cntE k l is) := by
 obtain ⟨h1, h2⟩ := cnt_split h k
 have e1 : (l.take (cnt k l)).filter (fun x => decide (k < x.key)) = [] := List.filter_eq_nil_iff.2 (fun x hx => by simpa using fun hk => blt_asymm hk (h1 x hx))
 conv => lhs; rw [← List.take_append_drop (cnt k l) l]
 rw [List.filter_append, e1, List.nil_append]
 unfold cntE
 have ha : Asc (l.drop (cnt k l)) := h.sublist (List.drop_sublist _ _)
 cases hd : l.drop (cnt k l) with
 | nil =>
  have : l.length ≤ cnt k l := List.drop_eq_nil_iff.1 hd
  have e : l.drop (cnt k l + 1) = [] := List.drop_eq_nil_iff.2 (by omega)
  split
  ·rw [e]; rfl
  ·rw [hd]; rfl
 | cons x t =>
  have hx : l[cnt k l]? = some x := by
   have := congrArg List.head? hd
   rw [List.head?_drop] at this
   exact this
  have ht : l.drop (cnt k l + 1) = t := by
   rw [← List.drop_drop, hd]; rfl
  rw [hd] at ha h2
  have ha' := Asc.cons.1 ha
  have hxk : ¬ x.key < k := h2 x (by simp)
  by_cases e : x.key = k
  ·have : is = true := his.2 ⟨x, hx, e⟩
   rw [if_pos this, ht, List.filter_cons_of_neg (by simp [e, blt_irrefl]), List.filter_eq_self.2 (fun y hy => by simpa [← e] using ha'.1 y hy)]
  ·have hn : ¬ is = true := fun hi => by
    obtain ⟨y, hy, hy2⟩ := his.1 hi
    rw [hx] at hy
    injection hy with hy
    exact e (hy ▸ hy2)
   have hkx : k < x.key := by
    rcases blt_tri x.key k with h' | h' | h'
    ·exact absurd h' hxk
    ·exact absurd h' e
    ·exact h'
   rw [if_neg hn, hd, List.filter_eq_self.2 (fun y hy => by
    rcases List.mem_cons.1 hy with rfl | hy
    ·simpa using hkx
    ·simpa using blt_trans hkx (ha'.1 y hy))]
theorem nodup_sub_len : ∀ {a b : List Nat}, a.Nodup → (∀ x ∈ a, x ∈ b) → a.length ≤ b.length
 | [], _, _, _ => Nat.zero_le _
 | x :: t, b, h, hs => by
  rw [List.nodup_cons] at h
  have hx := hs x (by simp)
  have h1 := nodup_sub_len (b := b.erase x) h.2 (fun y hy => (List.mem_erase_of_ne (fun e => h.1 (by rw [← e]; exact hy))).2 (hs y (by simp [hy])))
  have h2 := List.length_erase_of_mem hx
  have h3 : 0 < b.length := List.length_pos_of_mem hx
  simp only [List.length_cons]
  omega
theorem nodup_app {a b : List Nat} : (a ++ b).Nodup ↔ a.Nodup ∧ b.Nodup ∧ ∀ x ∈ a, x ∉ b := by
 rw [List.nodup_append]
 constructor
 ·rintro ⟨h1, h2, h3⟩
  exact ⟨h1, h2, fun x hx hb => h3 x hx x hb rfl⟩
 ·rintro ⟨h1, h2, h3⟩
  exact ⟨h1, h2, fun x hx y hy e => h3 x hx (e ▸ hy)⟩
def DepI (D N : Nat) : Prop := ∀ h, h + 2 ≤ D → ∀ p : Pot, 72 * p.c (h + 1) ≤ p.A + p.R * N
structure MapI (m : Mp) (D : Nat) (E : List En) (ps : List PN) (N : Nat) : Prop where
 rep : Rep m D 0 E ps
 nd : (pgsOf ps ++ fars E).Nodup
 all : ∀ r, m r ≠ none → r ∈ pgsOf ps ++ fars E
 ch : ∀ x ∈ E, ChAt m x
 pot : ∀ p : Pot, p.sum ps ≤ p.A + p.R * N
 dep : DepI D N
structure HoI (m : Mp) (q : Nat) (up : List Fm) (pre es post : List En) (psc : List PN) (N : Nat) : Prop where
 ctx : Ctx m 0 q up pre post psc
 may : mayN ⟨true, es⟩
 inb : ∀ x ∈ es, InB up x.key
 al : ∃ b, m q = some b
 nd : (q :: pgsOf psc ++ fars (pre ++ es ++ post)).Nodup
 all : ∀ r, m r ≠ none → r ∈ q :: pgsOf psc ++ fars (pre ++ es ++ post)
 ch : ∀ x ∈ pre ++ es ++ post, ChAt m x
 pot : ∀ p : Pot, p.sum psc ≤ p.R * N
 dep : DepI up.length N
theorem MapI.hole {m : Mp} {D N q : Nat} {E pre es post : List En} {ps psl psc : List PN} {up : List Fm} (h : MapI m D E ps N) (hl : up.length = D) (hc : Ctx m 0 q up pre post psc) (hr : Rep m 0 q es psl) (he : E = pre ++ es ++ post) (hp : (psl ++ psc).Perm ps)
  (hi : ∀ x ∈ es, InB up x.key) : HoI m q up pre es post psc N := by
 obtain ⟨h1, rfl⟩ := hr
 subst he hl
 have hpp := (perm_pgs hp).symm
 have hsum := fun p : Pot => p.perm hp
 refine ⟨hc, h1.2.1, hi, ⟨_, h1.1⟩, ?_, ?_, h.ch, fun p => ?_, h.dep⟩
 ·exact ((hpp.append_right _).nodup_iff).1 h.nd
 ·intro r hr
  exact (hpp.append_right _).mem_iff.1 (h.all r hr)
 ·have h2 := h.pot p
  rw [← hsum p] at h2
  simp only [List.singleton_append, Pot.sum_cons, Pot.leaf] at h2
  omega
section
variable {m : Mp} {q N : Nat} {up : List Fm} {pre es post : List En} {psc : List PN}
theorem HoI.disj (h : HoI m q up pre es post psc N) : (∀ r ∈ fars (pre ++ es ++ post), r ≠ q ∧ r ∉ pgsOf psc) := by
 have := h.nd
 rw [nodup_app] at this
 intro r hr
 refine ⟨fun e => this.2.2 q (by simp) (e ▸ hr), fun hx => this.2.2 r (by simp [hx]) hr⟩
theorem HoI.ctx_upd (h : HoI m q up pre es post psc N) {r : Nat} (h2 : r ∉ pgsOf psc) (v : Option Bs) : Ctx (upd m r v) 0 q up pre post psc :=
 h.ctx.congr fun x hx => upd_ne m v (fun e => h2 (e ▸ mem_pgsOf hx))
theorem HoI.less (h : HoI m q up pre es post psc N) {a b : List En} {x : En} (he : es = a ++ x :: b) (hx : x.far < 0) : HoI m q up pre (a ++ b) post psc N := by
 have hs : (a ++ b).Sublist es := by
  rw [he]
  exact List.Sublist.append_left (List.sublist_cons_self x b) a
 have hf : fars (pre ++ es ++ post) = fars (pre ++ (a ++ b) ++ post) := by
  rw [he]
  simp [fars_cons_neg hx]
 refine ⟨h.ctx, mayN_sub h.may hs, fun y hy => h.inb y (hs.subset hy), h.al, hf ▸ h.nd, hf ▸ h.all, fun y hy => h.ch y ?_, h.pot, h.dep⟩
 simp only [List.mem_append] at hy ⊢
 rcases hy with (hy | hy) | hy
 ·exact .inl (.inl hy)
 ·exact .inl (.inr (hs.subset (List.mem_append.2 hy)))
 ·exact .inr hy
theorem perm_mid (pre a b post : List En) (x : En) : (pre ++ (a ++ x :: b) ++ post).Perm (x :: (pre ++ (a ++ b) ++ post)) := by
 simp only [List.append_assoc, List.cons_append]
 rw [← List.append_assoc, ← List.append_assoc pre a (b ++ post)]
 exact List.perm_middle
theorem HoI.lessC (h : HoI m q up pre es post psc N) {a b : List En} {x : En} (he : es = a ++ x :: b) (hx : 0 ≤ x.far) : HoI (upd m x.far.toNat none) q up pre (a ++ b) post psc N := by
 subst he
 have hs : (a ++ b).Sublist (a ++ x :: b) := List.Sublist.append_left (List.sublist_cons_self x b) a
 have hmem : x.far.toNat ∈ fars (pre ++ (a ++ x :: b) ++ post) := mem_fars.2 ⟨x, by simp, hx, rfl⟩
 obtain ⟨d1, d2⟩ := h.disj _ hmem
 have hpf := fars_perm (perm_mid pre a b post x)
 rw [fars_cons_pos hx] at hpf
 have hnd := h.nd
 have hpp : (q :: pgsOf psc ++ fars (pre ++ (a ++ x :: b) ++ post)).Perm (x.far.toNat :: (q :: pgsOf psc ++ fars (pre ++ (a ++ b) ++ post))) := (List.Perm.append_left _ hpf).trans List.perm_middle
 rw [hpp.nodup_iff, List.nodup_cons] at hnd
 refine ⟨h.ctx_upd d2 _, mayN_sub h.may hs, fun y hy => h.inb y (hs.subset hy), ?_, hnd.2, fun r hr => ?_, fun y hy hy0 => ?_, h.pot, h.dep⟩
 ·obtain ⟨c, hc⟩ := h.al
  exact ⟨c, by rw [upd_ne _ _ (fun e => d1 e.symm)]; exact hc⟩
 ·by_cases e : r = x.far.toNat
  ·subst e
   exact absurd (upd_same m _ none) hr
  ·rw [upd_ne _ _ e] at hr
   have := hpp.mem_iff.1 (h.all r hr)
   rcases List.mem_cons.1 this with h' | h'
   ·exact absurd h' e
   ·exact h'
 ·have hne : y.far.toNat ≠ x.far.toNat := fun e => hnd.1 (List.mem_append_right _ (mem_fars.2 ⟨y, hy, hy0, e⟩))
  rw [upd_ne _ _ hne]
  refine h.ch y ?_ hy0
  simp only [List.mem_append, List.mem_cons] at hy ⊢
  rcases hy with (hy | hy | hy) | hy
  ·exact .inl (.inl hy)
  ·exact .inl (.inr (.inl hy))
  ·exact .inl (.inr (.inr (.inr hy)))
  ·exact .inr hy
theorem may_ins {a b : List En} {x : En} (h : mayN ⟨true, a ++ b⟩) (hx : rightE true x) (ha : ∀ y ∈ a, y.key < x.key) (hb : ∀ y ∈ b, x.key < y.key) : mayN ⟨true, a ++ x :: b⟩ := by
 obtain ⟨h1, h2⟩ := h
 obtain ⟨g1, g2, g3⟩ := Asc.append.1 h2
 refine ⟨fun y hy => ?_, Asc.append.2 ⟨g1, Asc.cons.2 ⟨hb, g2⟩, fun y hy z hz => ?_⟩⟩
 ·simp only [List.mem_append, List.mem_cons] at hy
  rcases hy with hy | rfl | hy
  ·exact h1 y (by simp [hy])
  ·exact hx
  ·exact h1 y (by simp [hy])
 ·rcases List.mem_cons.1 hz with rfl | hz
  ·exact ha y hy
  ·exact g3 y hy z hz
theorem HoI.more (h : HoI m q up pre es post psc N) {a b : List En} {x : En} (he : es = a ++ b) (hx : x.far < 0) (hr : rightE true x) (ha : ∀ y ∈ a, y.key < x.key) (hb : ∀ y ∈ b, x.key < y.key) (hin : InB up x.key) : HoI m q up pre (a ++ x :: b) post psc N := by
 subst he
 have hf : fars (pre ++ (a ++ b) ++ post) = fars (pre ++ (a ++ x :: b) ++ post) := by simp [fars_cons_neg hx]
 refine ⟨h.ctx, may_ins h.may hr ha hb, fun y hy => ?_, h.al, hf ▸ h.nd, hf ▸ h.all, fun y hy => ?_, h.pot, h.dep⟩
 ·simp only [List.mem_append, List.mem_cons] at hy
  rcases hy with hy | rfl | hy
  ·exact h.inb y (by simp [hy])
  ·exact hin
  ·exact h.inb y (by simp [hy])
 ·rcases List.mem_cons.1 ((perm_mid pre a b post x).mem_iff.1 hy) with rfl | hy
  ·intro h0; omega
  ·exact h.ch y hy
theorem HoI.moreC (h : HoI m q up pre es post psc N) {a b : List En} {x : En} {v : Bs} (he : es = a ++ b) (hx : 0 ≤ x.far) (hm : m x.far.toNat = none) (hv : 40 < v.length) (hv2 : v.length ≤ 228) (hr : rightE true x) (ha : ∀ y ∈ a, y.key < x.key) (hb : ∀ y ∈ b, x.key < y.key) (hin : InB up x.key) :
  HoI (upd m x.far.toNat (some (chB v))) q up pre (a ++ x :: b) post psc N := by
 subst he
 have hpf := fars_perm (perm_mid pre a b post x)
 rw [fars_cons_pos hx] at hpf
 have hpp : (q :: pgsOf psc ++ fars (pre ++ (a ++ x :: b) ++ post)).Perm (x.far.toNat :: (q :: pgsOf psc ++ fars (pre ++ (a ++ b) ++ post))) := (List.Perm.append_left _ hpf).trans List.perm_middle
 have hq : q ≠ x.far.toNat := fun e => by
  obtain ⟨c, hc⟩ := h.al
  rw [e, hm] at hc
  cases hc
 have hpsc : x.far.toNat ∉ pgsOf psc := fun hx => by
  unfold pgsOf at hx
  obtain ⟨y, hy, e⟩ := List.mem_map.1 hx
  obtain ⟨c, hc⟩ := h.ctx.alloc y hy
  rw [e, hm] at hc
  cases hc
 have hfa : ∀ y ∈ pre ++ (a ++ b) ++ post, 0 ≤ y.far → y.far.toNat ≠ x.far.toNat := fun y hy h0 e => by
  obtain ⟨_, _, _, hc⟩ := h.ch y hy h0
  rw [e, hm] at hc
  cases hc
 refine ⟨h.ctx_upd hpsc _, may_ins h.may hr ha hb, fun y hy => ?_, ?_, ?_, fun r hr => ?_, fun y hy hy0 => ?_, h.pot, h.dep⟩
 ·simp only [List.mem_append, List.mem_cons] at hy
  rcases hy with hy | rfl | hy
  ·exact h.inb y (by simp [hy])
  ·exact hin
  ·exact h.inb y (by simp [hy])
 ·obtain ⟨c, hc⟩ := h.al
  exact ⟨c, by rw [upd_ne _ _ hq]; exact hc⟩
 ·rw [hpp.nodup_iff, List.nodup_cons]
  refine ⟨fun hx => ?_, h.nd⟩
  rcases List.mem_append.1 hx with hx | hx
  ·rcases List.mem_cons.1 hx with hx | hx
   ·exact hq hx.symm
   ·exact hpsc hx
  ·obtain ⟨y, hy, h0, e⟩ := mem_fars.1 hx
   exact hfa y hy h0 e
 ·rw [hpp.mem_iff]
  by_cases e : r = x.far.toNat
  ·simp [e]
  ·rw [upd_ne _ _ e] at hr
   exact List.mem_cons_of_mem _ (h.all r hr)
 ·rcases List.mem_cons.1 ((perm_mid pre a b post x).mem_iff.1 hy) with rfl | hy
  ·exact ⟨v, hv, hv2, upd_same _ _ _⟩
  ·rw [upd_ne _ _ (hfa y hy hy0)]
   exact h.ch y hy hy0
theorem HoI.sst (h : HoI m q up pre es post psc N) (hne : es ≠ []) (hb : nB es ≤ 302) : SSt m 0 q ⟨true, es⟩ up (pre ++ es ++ post) ((q, 0, nB es) :: psc) := by
 refine ⟨⟨pre, post, es, [], psc, h.ctx, ⟨rfl, rfl⟩, by simp, .inl hne, h.inb, rfl, rfl⟩, h.may, ?_, h.al, by simpa using hb⟩
 have := h.nd
 rw [nodup_app] at this
 simpa using this.1
theorem HoI.kst (h : HoI m q up pre es post psc N) (hb : nB es ≤ 223) : KSt m 0 q ⟨true, es⟩ up (pre ++ es ++ post) ((q, 0, nB es) :: psc) := by
 refine ⟨⟨pre, post, es, [], psc, h.ctx, ⟨rfl, rfl⟩, h.inb, rfl, rfl⟩, h.may, ?_, h.al, by simpa using hb⟩
 have := h.nd
 rw [nodup_app] at this
 simpa using this.1
theorem HoI.turn (h : HoI m q up pre es post psc N) {m' : Mp} {b : Nat} {ps' : List PN} (ht : Turn m (pgsOf ((q, 0, b) :: psc)) m' (pgsOf ps')) (hnd : (pgsOf ps').Nodup) :
  (pgsOf ps' ++ fars (pre ++ es ++ post)).Nodup ∧ (∀ r, m' r ≠ none → r ∈ pgsOf ps' ++ fars (pre ++ es ++ post)) ∧ ∀ r ∈ fars (pre ++ es ++ post), m' r = m r := by
 have hn := h.nd
 rw [nodup_app] at hn
 have hF : ∀ r ∈ fars (pre ++ es ++ post), r ∉ pgsOf ((q, 0, b) :: psc) ∧ r ∉ pgsOf ps' := fun r hr => by
  have h1 : r ∉ pgsOf ((q, 0, b) :: psc) := fun hx => hn.2.2 r (by simpa using hx) hr
  refine ⟨h1, fun hx => ?_⟩
  have h2 := ht.new_ r hx h1
  obtain ⟨x, hx, h0, e⟩ := mem_fars.1 hr
  obtain ⟨_, _, _, hc⟩ := h.ch x hx h0
  rw [e, h2] at hc
  cases hc
 refine ⟨nodup_app.2 ⟨hnd, hn.2.1, fun r h1 h2 => (hF r h2).2 h1⟩, fun r hr => ?_, fun r hr => ht.same r (hF r hr).1 (hF r hr).2⟩
 by_cases h1 : r ∈ pgsOf ps'
 ·exact List.mem_append_left _ h1
 ·by_cases h2 : r ∈ pgsOf ((q, 0, b) :: psc)
  ·exact absurd (ht.gone r h2 h1) hr
  ·rw [ht.same r h2 h1] at hr
   rcases List.mem_append.1 (h.all r hr) with h3 | h3
   ·exact absurd (by simpa using h3) h2
   ·exact List.mem_append_right _ h3
theorem HoI.done {m' : Mp} {D b : Nat} {ps' : List PN} (h : HoI m q up pre es post psc N) (hd : SDn m 0 up.length ((q, 0, b) :: psc) m' D (pre ++ es ++ post) ps') : MapI m' D (pre ++ es ++ post) ps' (N + 1) ∧ ∀ r ∈ fars (pre ++ es ++ post), m' r = m r := by
 obtain ⟨t1, t2, t3⟩ := h.turn hd.turn hd.nd
 have hsum : ∀ p : Pot, p.sum ((q, 0, b) :: psc) ≤ p.A + p.R * N := fun p => by
  rw [Pot.sum_cons, Pot.leaf]
  have := h.pot p
  omega
 refine ⟨⟨hd.rep, t1, t2, fun x hx h0 => ?_, fun p => ?_, ?_⟩, t3⟩
 ·rw [t3 _ (mem_fars.2 ⟨x, hx, h0, rfl⟩)]
  exact h.ch x hx h0
 ·have h1 := hd.pot p
  have h2 := hsum p
  rw [Nat.mul_succ]
  simp only [if_true] at h1
  omega
 ·intro g hg p
  rw [Nat.mul_succ]
  rcases hd.dep with rfl | ⟨rfl, h1⟩
  ·have := h.dep g hg p
   omega
  ·by_cases e : g + 2 ≤ up.length
   ·have := h.dep g e p
    omega
   ·have e2 : up.length = g + 1 := by omega
    rcases h1 with h1 | h1
    ·omega
    ·have h3 := h1 p
     have h2 := hsum p
     rw [e2] at h3
     simp only [if_true] at h3
     omega
theorem HoI.doneK {m' : Mp} {D b : Nat} {ps' : List PN} (h : HoI m q up pre es post psc N) (hd : KDn m up.length ((q, 0, b) :: psc) m' D (pre ++ es ++ post) ps') : MapI m' D (pre ++ es ++ post) ps' N ∧ ∀ r ∈ fars (pre ++ es ++ post), m' r = m r := by
 obtain ⟨t1, t2, t3⟩ := h.turn hd.turn hd.nd
 refine ⟨⟨hd.rep, t1, t2, fun x hx h0 => ?_, fun p => ?_, fun g hg p => ?_⟩, t3⟩
 ·rw [t3 _ (mem_fars.2 ⟨x, hx, h0, rfl⟩)]
  exact h.ch x hx h0
 ·have h1 := hd.pot p
  have := h.pot p
  rw [Pot.sum_cons, Pot.leaf] at h1
  omega
 ·exact h.dep g (by have := hd.dep; omega) p
end
end
section
theorem part_lt {E pre es post : List En} {k : Bs} (he : E = pre ++ es ++ post) (h1 : ∀ x ∈ pre, x.key < k) (h2 : ∀ x ∈ post, k < x.key) (ha : Asc es) :
  E.filter (fun x => decide (x.key < k)) = pre ++ es.take (cnt k es) := by
 rw [he, List.filter_append, List.filter_append, filter_lt ha, List.filter_eq_self.2 (by simpa using h1), List.filter_eq_nil_iff.2 (fun x hx => by simpa using blt_asymm (h2 x hx)), List.append_nil]
theorem part_gt {E pre es post : List En} {k : Bs} {is : Bool} (he : E = pre ++ es ++ post) (h1 : ∀ x ∈ pre, x.key < k) (h2 : ∀ x ∈ post, k < x.key) (ha : Asc es) (his : is = true ↔ hasK k es) :
  E.filter (fun x => decide (k < x.key)) = es.drop (cntE k es is) ++ post := by
 have e1 : post.filter (fun x => decide (k < x.key)) = post := List.filter_eq_self.2 (by simpa using h2)
 have e2 : pre.filter (fun x => decide (k < x.key)) = [] := List.filter_eq_nil_iff.2 (fun x hx => by simpa using blt_asymm (h1 x hx))
 rw [he, List.filter_append, List.filter_append, filter_gt ha k is his, e1, e2, List.nil_append]
theorem delM_eq {M : List KV} (h : AscM M) (k : Bs) : delM M k = M.filter (fun a => decide (a.1 < k)) ++ M.filter (fun a => decide (k < a.1)) := by
 induction M with
 | nil => rfl
 | cons a t ih =>
  obtain ⟨h1, h2⟩ := List.pairwise_cons.1 h
  have ih := ih h2
  unfold delM at ih ⊢
  rcases blt_tri a.1 k with h' | h' | h'
  ·rw [List.filter_cons_of_pos (by simp; exact fun e => blt_irrefl _ (e ▸ h')), List.filter_cons_of_pos (by simpa using h'), List.filter_cons_of_neg (by simpa using blt_asymm h'), List.cons_append, ih]
  ·have e1 : t.filter (fun a => decide (a.1 < k)) = [] := List.filter_eq_nil_iff.2 (fun b hb => by simpa using blt_asymm (h' ▸ h1 b hb))
   rw [List.filter_cons_of_neg (by simp [h']), List.filter_cons_of_neg (by simp [h', blt_irrefl]), List.filter_cons_of_neg (by simp [h', blt_irrefl]), ih]
  ·have e1 : t.filter (fun a => decide (a.1 < k)) = [] := List.filter_eq_nil_iff.2 (fun b hb => by simpa using blt_asymm (blt_trans h' (h1 b hb)))
   rw [List.filter_cons_of_pos (by simp; exact fun e => blt_irrefl _ (e ▸ h')), List.filter_cons_of_neg (by simpa using blt_asymm h'), List.filter_cons_of_pos (by simpa using h'), ih, e1]
   rfl
theorem getM_append (a b : List KV) (k : Bs) (h : ∀ x ∈ a, x.1 ≠ k) : getM (a ++ b) k = getM b k := by
 unfold getM
 rw [List.find?_append, List.find?_eq_none.2 (by simpa using h)]
 rfl
theorem getM_none {M : List KV} {k : Bs} (h : ∀ x ∈ M, x.1 ≠ k) : getM M k = none := by
 unfold getM
 rw [List.find?_eq_none.2 (by simpa using h)]
 rfl
theorem get_kvs {m : Mp} {E pre es post : List En} {k : Bs} (he : E = pre ++ es ++ post) (h1 : ∀ x ∈ pre, x.key < k) (h2 : ∀ x ∈ post, k < x.key) (ha : Asc es) :
  (∀ x, es[cnt k es]? = some x → x.key = k → getM (kvs m E) k = some (kvOf m x).2) ∧ (¬ hasK k es → getM (kvs m E) k = none) := by
 obtain ⟨g1, g2⟩ := cnt_split ha k
 have kne : ∀ (l : List En), (∀ x ∈ l, x.key ≠ k) → ∀ a ∈ kvs m l, a.1 ≠ k := fun l hl a hx => by
  obtain ⟨x, hx2, rfl⟩ := List.mem_map.1 hx
  exact hl x hx2
 have lt_ne : ∀ (l : List En), (∀ x ∈ l, x.key < k) → ∀ x ∈ l, x.key ≠ k := fun l hl x hx e => blt_irrefl k (e ▸ hl x hx)
 refine ⟨fun x hx hk => ?_, fun hn => ?_⟩
 ·have hlt := (List.getElem?_eq_some_iff.1 hx).1
  have hsp : es = es.take (cnt k es) ++ x :: es.drop (cnt k es + 1) := by
   conv => lhs; rw [← List.take_append_drop (cnt k es) es]
   rw [List.drop_eq_getElem_cons hlt, (List.getElem?_eq_some_iff.1 hx).2]
  rw [he, List.append_assoc, kvs_append, getM_append _ _ _ (kne _ (lt_ne _ h1)), kvs_append]
  rw [hsp, kvs_append, List.append_assoc, getM_append _ _ _ (kne _ (lt_ne _ g1)), kvs_cons, List.cons_append]
  unfold getM
  rw [List.find?_cons_of_pos (by show decide (x.key = k) = true; simpa using hk)]
  rfl
 ·rw [he]
  refine getM_none (kne _ fun x hx e => ?_)
  rcases List.mem_append.1 hx with hx | hx
  ·rcases List.mem_append.1 hx with hx | hx
   ·exact lt_ne _ h1 x hx e
   ·obtain ⟨j, hj, e2⟩ := List.mem_iff_getElem.1 hx
    by_cases hji : j < cnt k es
    ·have : x ∈ es.take (cnt k es) := List.mem_take_iff_getElem.2 ⟨j, by omega, e2⟩
     exact blt_irrefl k (e ▸ g1 x this)
    ·by_cases hje : j = cnt k es
     ·subst hje
      exact hn ⟨x, by rw [List.getElem?_eq_getElem hj, e2], e⟩
     ·have hlt : cnt k es < es.length := by omega
      have h4 : es[cnt k es] ∈ es.drop (cnt k es) := by
       rw [List.drop_eq_getElem_cons hlt]; exact List.mem_cons_self
      have h5 := g2 _ h4
      have h6 : es[cnt k es].key < es[j].key := (List.pairwise_iff_getElem.1 ha) _ _ hlt hj (by omega)
      rw [e2, e] at h6
      exact h5 h6
  ·exact blt_irrefl k (e ▸ h2 x hx)
/-! how many pages -/
theorem rep_count {m : Mp} : ∀ {d q : Nat} {es : List En} {ps : List PN}, Rep m d q es ps → es ≠ [] → ps.length ≤ (d + 1) * es.length
 | 0, q, es, ps, ⟨_, h⟩, hne => by
  subst h
  have := List.length_pos_iff.2 hne
  simp
  omega
 | d + 1, q, es, ps, ⟨cs, _, _, _, hco, hr, he, hp⟩, hne => by
  subst he hp
  have key : ∀ l : List Ch, (∀ c ∈ l, c ∈ cs) → (chPs l).length ≤ (d + 1) * (chEs l).length := fun l => by
   induction l with
   | nil => simp
   | cons c t ih =>
    intro hl
    have hc := hl c (by simp)
    have h1 := rep_count (hr c hc) (hco.1 c hc).1
    have h2 := ih (fun x hx => hl x (by simp [hx]))
    rw [chPs_cons, chEs_cons, List.length_append, List.length_append, Nat.mul_add]
    omega
  have h1 := key cs (fun _ h => h)
  have h2 := List.length_pos_iff.2 hne
  rw [List.length_cons, show (d + 1 + 1) * (chEs cs).length = (d + 1) * (chEs cs).length + (chEs cs).length by rw [Nat.succ_mul]]
  omega
theorem somes_le {pgs : List (Option Bs)} {l : List Nat} (h : ∀ r, pg pgs r ≠ none → r ∈ l) : somes pgs ≤ l.length := by
 have h1 : ∀ (a : List (Option Bs)) (o : Nat), somes a = ((List.range' o a.length).filter fun r => ((a[r - o]?).join).isSome).length := fun a => by
  induction a with
  | nil => intro o; rfl
  | cons x t ih =>
   intro o
   have e : ∀ r ∈ List.range' (o + 1) t.length, (((x :: t)[r - o]?).join).isSome = ((t[r - (o + 1)]?).join).isSome := fun r hr => by
    have := (List.mem_range'_1.1 hr).1
    rw [show r - o = (r - (o + 1)) + 1 by omega]
    rfl
   rw [List.length_cons, List.range'_succ, List.filter_cons, List.filter_congr e]
   have := ih (o + 1)
   cases x with
   | none =>
    simp [somes] at this ⊢
    omega
   | some b =>
    simp [somes] at this ⊢
    omega
 have h2 := h1 pgs 0
 rw [h2]
 refine nodup_sub_len ((List.nodup_range').filter _) fun r hr => h r ?_
 have := (List.mem_filter.1 hr).2
 unfold pg
 intro e
 rw [Nat.sub_zero] at this
 rw [e] at this
 cases this
def pot1 : Pot := ⟨33, fun _ => 1, 72, by omega, by omega, by intros; omega, by intros; omega⟩
def lam : Nat → Nat
 | 0 => 1000 | 1 => 1000 | 2 => 1846 | 3 => 3408 | 4 => 6291 | 5 => 11614 | 6 => 21441 | 7 => 39583 | 8 => 73076 | _ => 134909
theorem lam_step : ∀ h, 1 ≤ h → 39 * lam (h + 1) ≤ 72 * lam h
 | 0, h => by omega
 | 1, _ | 2, _ | 3, _ | 4, _ | 5, _ | 6, _ | 7, _ => by decide
 | 8, _ => by decide
 | h + 9, _ => by show 39 * 134909 ≤ 72 * 134909; omega
def pot2 : Pot := ⟨0, lam, 39000, by rw [show lam 1 = 1000 from rfl]; omega, by omega, fun h hh => by have := lam_step h hh; omega, by intros; omega⟩
def Roomy (N L C : Nat) : Prop := (N ≤ 100 ∧ C ≤ 60) ∨ (C = 0 ∧ L ≤ 28 ∧ N ≤ 245)
theorem MapI.deep {m : Mp} {D N : Nat} {E : List En} {ps : List PN} (h : MapI m D E ps N) (hN : N ≤ 248) : D ≤ 9 := by
 rcases Nat.lt_or_ge 9 D with hd | hd
 ·have : 72 * 134909 ≤ 0 + 39000 * N := h.dep 8 hd pot2
  omega
 ·exact hd
theorem MapI.room {pgs : List (Option Bs)} {D N L C : Nat} {E : List En} {ps : List PN} (h : MapI (pg pgs) D E ps N) (hL : E.length ≤ L) (hC : (fars E).length ≤ C) (hr : Roomy N L C) : somes pgs + D + 3 ≤ 300 ∧ D ≤ 9 := by
 have hD : D ≤ 9 := h.deep (by rcases hr with hr | hr <;> omega)
 refine ⟨?_, hD⟩
 have hs := somes_le h.all
 rw [List.length_append] at hs
 have hpl : (pgsOf ps).length = ps.length := by simp [pgsOf]
 rcases hr with ⟨h1, h2⟩ | ⟨h1, h2, h3⟩
 ·have hp := h.pot pot1
  have h33 : ∀ l : List PN, 33 * l.length ≤ pot1.sum l := fun l => by
   induction l with
   | nil => simp
   | cons x t ih =>
    rw [Pot.sum_cons, List.length_cons]
    have : 33 ≤ pot1.one x := Nat.le_add_right _ _
    omega
  have := h33 ps
  have hp2 : pot1.sum ps ≤ 33 + 72 * N := hp
  omega
 ·by_cases he : E = []
  ·subst he
   have : ps.length ≤ 1 := by
    match D, h.rep with
    | 0, ⟨_, h⟩ => rw [h]; simp
    | D + 1, ⟨cs, hc, _, _, hco, hr, he, _⟩ =>
     exfalso
     cases cs with
     | nil => exact hc rfl
     | cons c t =>
      rw [chEs_cons] at he
      exact (hco.1 c (by simp)).1 (List.append_eq_nil_iff.1 he.symm).1
   omega
  ·have h4 := rep_count h.rep he
   have h5 : (D + 1) * E.length ≤ 10 * 28 := Nat.mul_le_mul (by omega) (by omega)
   omega
end
end Go.Proofs.YtnnghcooidjlhaaGreat
