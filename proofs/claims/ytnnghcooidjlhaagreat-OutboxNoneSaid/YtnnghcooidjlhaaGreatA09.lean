/- Parts of the proof: Nh Ka Kb Ja Jb. -/
import Derived.Test.YtnnghcooidjlhaaGreatA01
import Derived.Test.YtnnghcooidjlhaaGreatA04
import Derived.Test.YtnnghcooidjlhaaGreatA06
import Derived.Test.YtnnghcooidjlhaaGreatA08
set_option linter.all false
section
set_option linter.unusedSimpArgs false
namespace Go.Proofs.YtnnghcooidjlhaaGreat
def pg (pgs : List (Option Bs)) : Mp := fun q => (pgs[q]?).join
theorem pg_some {pgs : List (Option Bs)} {q : Nat} {b : Bs} : pg pgs q = some b ↔ pgs[q]? = some (some b) := by
  unfold pg
  cases h : pgs[q]? with
  | none => simp
  | some o => cases o <;> simp
theorem pg_none {pgs : List (Option Bs)} {q : Nat} : pg pgs q = none ↔ pgs[q]? = some none ∨ pgs.length ≤ q := by
  unfold pg
  cases h : pgs[q]? with
  | none => simp [List.getElem?_eq_none_iff.1 h]
  | some o =>
    have : q < pgs.length := (List.getElem?_eq_some_iff.1 h).1
    cases o <;> simp <;> omega
theorem pg_set {pgs : List (Option Bs)} {q : Nat} {v : Option Bs} (h : q < pgs.length) : pg (pgs.set q v) = upd (pg pgs) q v := by
  funext r
  unfold pg upd
  rw [List.getElem?_set]
  by_cases e : r = q
  · subst e; simp [h]
  · rw [if_neg (Ne.symm e), if_neg e]
theorem pg_lt {pgs : List (Option Bs)} {q : Nat} {b : Bs} (h : pg pgs q = some b) : q < pgs.length := (List.getElem?_eq_some_iff.1 (pg_some.1 h)).1
def leads (k : Bs) (l : List En) : Nat :=
  match l[cnt k l]? with
  | some x => if x.key = k then cnt k l else cnt k l - 1
  | none => cnt k l - 1
theorem cnt_pos {l : List En} {x : En} {t : List En} (hl : l = x :: t) (hx : x.key = []) {k : Bs} (hk : ¬ (∃ y, l[cnt k l]? = some y ∧ y.key = k)) : 0 < cnt k l := by
  rcases Nat.eq_zero_or_pos (cnt k l) with h0 | h0
  · exfalso
    have hc : k = [] := by
      cases k with
      | nil => rfl
      | cons a r =>
        exfalso
        have : 0 < cnt (a :: r) l := by
          unfold cnt
          rw [hl, List.countP_cons_of_pos (by simp [hx])]
          omega
        omega
    refine hk ⟨x, ?_, by rw [hx, hc]⟩
    rw [h0, hl]; rfl
  · exact h0
theorem leads_split {cs : List Ch} (hne : cs ≠ []) (hf : FirstE cs) (ha : Asc (cs.map Ch.en)) (k : Bs) :
    ∃ L c R, cs = L ++ c :: R ∧ L.length = leads k (cs.map Ch.en) ∧ c.key ≤ k ∧ ∀ c' ∈ R, k < c'.key := by
  obtain ⟨h1, h2⟩ := cnt_split ha k
  have hlt : leads k (cs.map Ch.en) < cs.length ∧ (∀ y, (cs.map Ch.en)[leads k (cs.map Ch.en)]? = some y → y.key ≤ k) ∧ (∀ j y, leads k (cs.map Ch.en) < j → (cs.map Ch.en)[j]? = some y → k < y.key) := by
    have hcl := cnt_le k (cs.map Ch.en)
    simp only [List.length_map] at hcl
    have after : ∀ j y, cnt k (cs.map Ch.en) ≤ j → (cs.map Ch.en)[j]? = some y → ¬ y.key < k := fun j y hj hy => h2 y (by
      obtain ⟨hjl, e⟩ := List.getElem?_eq_some_iff.1 hy
      rw [← e]
      exact List.mem_iff_getElem.2 ⟨j - cnt k (cs.map Ch.en), by rw [List.length_drop]; omega, by rw [List.getElem_drop]; congr 1; omega⟩)
    by_cases hk : ∃ y, (cs.map Ch.en)[cnt k (cs.map Ch.en)]? = some y ∧ y.key = k
    · obtain ⟨y, hy, hyk⟩ := hk
      have e : leads k (cs.map Ch.en) = cnt k (cs.map Ch.en) := by
        unfold leads; rw [hy]; simp only; rw [if_pos hyk]
      rw [e]
      have hyl := (List.getElem?_eq_some_iff.1 hy).1
      refine ⟨by simpa using hyl, fun z hz => ?_, fun j z hj hz => ?_⟩
      · rw [hy] at hz; injection hz with hz; subst hz; rw [hyk]; exact ble_refl _
      · obtain ⟨hzl, e2⟩ := List.getElem?_eq_some_iff.1 hz
        have := List.pairwise_iff_getElem.1 ha _ j hyl hzl hj
        obtain ⟨_, e3⟩ := List.getElem?_eq_some_iff.1 hy
        rw [e3, e2, hyk] at this
        exact this
    · have hpos : 0 < cnt k (cs.map Ch.en) := by
        cases cs with
        | nil => exact absurd rfl hne
        | cons c t => exact cnt_pos (x := c.en) (t := t.map Ch.en) rfl (hf c (by simp)) hk
      have e : leads k (cs.map Ch.en) = cnt k (cs.map Ch.en) - 1 := by
        unfold leads
        cases hy : (cs.map Ch.en)[cnt k (cs.map Ch.en)]? with
        | none => rfl
        | some y =>
          simp only
          rw [if_neg (fun e => hk ⟨y, hy, e⟩)]
      rw [e]
      refine ⟨by omega, fun y hy => ?_, fun j y hj hy => ?_⟩
      · refine ble_of_lt (h1 y ?_)
        obtain ⟨hyl, e2⟩ := List.getElem?_eq_some_iff.1 hy
        rw [← e2]
        exact List.mem_iff_getElem.2 ⟨cnt k (cs.map Ch.en) - 1, by rw [List.length_take]; simp only [List.length_map] at *; omega, by rw [List.getElem_take]⟩
      · have g1 := after j y (by omega) hy
        rcases blt_tri y.key k with h | h | h
        · exact absurd h g1
        · exfalso
          by_cases hjc : j = cnt k (cs.map Ch.en)
          · subst hjc; exact hk ⟨y, hy, h⟩
          · obtain ⟨hyl, e2⟩ := List.getElem?_eq_some_iff.1 hy
            have hcl2 : cnt k (cs.map Ch.en) < (cs.map Ch.en).length := by omega
            have := List.pairwise_iff_getElem.1 ha _ j hcl2 hyl (by omega)
            rw [e2, h] at this
            exact after _ _ (Nat.le_refl _) (List.getElem?_eq_getElem hcl2) this
        · exact h
  obtain ⟨g1, g2, g3⟩ := hlt
  refine ⟨cs.take (leads k (cs.map Ch.en)), cs[leads k (cs.map Ch.en)], cs.drop (leads k (cs.map Ch.en) + 1), ?_, by rw [List.length_take]; omega, ?_, fun c' hc' => ?_⟩
  · rw [← List.drop_eq_getElem_cons g1, List.take_append_drop]
  · exact g2 (cs[leads k (cs.map Ch.en)]).en (by simp [g1])
  · obtain ⟨j, hj, e⟩ := List.mem_iff_getElem.1 hc'
    rw [List.length_drop] at hj
    rw [List.getElem_drop] at e
    refine g3 (leads k (cs.map Ch.en) + 1 + j) c'.en (by omega) ?_
    rw [List.getElem?_map, List.getElem?_eq_getElem (by omega)]
    rw [e]; rfl
end Go.Proofs.YtnnghcooidjlhaaGreat
end
section
set_option linter.unusedSimpArgs false
namespace Go.Proofs.YtnnghcooidjlhaaGreat
def chB (v : Bs) : Bs := pad (two 0 ++ two v.length ++ v)
def unCh (b : Bs) : Bs := (b.drop 4).take (un2 (b.getD 2 0) (b.getD 3 0))
theorem unCh_chB {v : Bs} (h : v.length ≤ 228) : unCh (chB v) = v := by
  have h2 : un2 (UInt8.ofNat (v.length / 256)) (UInt8.ofNat v.length) = v.length := un2_two (by omega)
  unfold unCh chB pad
  simp only [two, List.cons_append, List.nil_append, List.getD_cons_succ, List.getD_cons_zero, List.drop_succ_cons, List.drop_zero]
  rw [h2]
  simp
def kvOf (m : Mp) (x : En) : Bs × Bs := (x.key, if x.far < 0 then x.val else unCh ((m x.far.toNat).getD []))
def kvs (m : Mp) (E : List En) : List (Bs × Bs) := E.map (kvOf m)
def fars (E : List En) : List Nat := (E.filter fun x => decide (0 ≤ x.far)).map fun x => x.far.toNat
def ChAt (m : Mp) (x : En) : Prop := 0 ≤ x.far → ∃ v : Bs, 40 < v.length ∧ v.length ≤ 228 ∧ m x.far.toNat = some (chB v)
@[simp] theorem fars_nil : fars [] = [] := rfl
@[simp] theorem fars_append (a b : List En) : fars (a ++ b) = fars a ++ fars b := by simp [fars]
theorem fars_cons (x : En) (l : List En) : fars (x :: l) = (if 0 ≤ x.far then [x.far.toNat] else []) ++ fars l := by
  unfold fars
  by_cases h : 0 ≤ x.far <;> simp [h]
theorem fars_cons_neg {x : En} (h : x.far < 0) (l : List En) : fars (x :: l) = fars l := by
  rw [fars_cons, if_neg (by omega)]; rfl
theorem fars_cons_pos {x : En} (h : 0 ≤ x.far) (l : List En) : fars (x :: l) = x.far.toNat :: fars l := by
  rw [fars_cons, if_pos h]; rfl
theorem mem_fars {l : List En} {r : Nat} : r ∈ fars l ↔ ∃ x ∈ l, 0 ≤ x.far ∧ x.far.toNat = r := by
  simp [fars, and_assoc]
theorem fars_perm {a b : List En} (h : a.Perm b) : (fars a).Perm (fars b) := (h.filter _).map _
theorem fars_len_le (l : List En) : (fars l).length ≤ l.length := by
  unfold fars
  rw [List.length_map]
  exact List.length_filter_le _ _
/-! pairs by rising keys -/
abbrev KV := Bs × Bs
def setM (M : List KV) (k v : Bs) : List KV := M.filter (fun a => decide (a.1 < k)) ++ (k, v) :: M.filter (fun a => decide (k < a.1))
def delM (M : List KV) (k : Bs) : List KV := M.filter fun a => decide (a.1 ≠ k)
def getM (M : List KV) (k : Bs) : Option Bs := (M.find? fun a => decide (a.1 = k)).map Prod.snd
def AscM (M : List KV) : Prop := M.Pairwise fun a b => a.1 < b.1
theorem kvs_asc {m : Mp} {E : List En} (h : Asc E) : AscM (kvs m E) := by
  unfold AscM kvs
  rw [List.pairwise_map]
  exact h
theorem kvs_append (m : Mp) (a b : List En) : kvs m (a ++ b) = kvs m a ++ kvs m b := by simp [kvs]
theorem kvs_cons (m : Mp) (x : En) (l : List En) : kvs m (x :: l) = kvOf m x :: kvs m l := rfl
theorem kvs_filter (m : Mp) (E : List En) (p : Bs → Bool) : kvs m (E.filter fun x => p x.key) = (kvs m E).filter fun a => p a.1 := by
  unfold kvs
  rw [List.filter_map]
  rfl
theorem kvs_congr {m m' : Mp} {E : List En} (h : ∀ r ∈ fars E, m' r = m r) : kvs m' E = kvs m E := by
  unfold kvs
  refine List.map_congr_left fun x hx => ?_
  unfold kvOf
  by_cases h0 : x.far < 0
  · rw [if_pos h0, if_pos h0]
  · rw [if_neg h0, if_neg h0, h _ (mem_fars.2 ⟨x, hx, by omega, rfl⟩)]
/-! a node's entries about a key -/
theorem filter_lt {l : List En} (h : Asc l) (k : Bs) : l.filter (fun x => decide (x.key < k)) = l.take (cnt k l) := by
  obtain ⟨h1, h2⟩ := cnt_split h k
  conv => lhs; rw [← List.take_append_drop (cnt k l) l]
  rw [List.filter_append, List.filter_eq_self.2 (by simpa using h1), List.filter_eq_nil_iff.2 (by simpa using h2), List.append_nil]
def hasK (k : Bs) (l : List En) : Prop := ∃ x, l[cnt k l]? = some x ∧ x.key = k
def cntE (k : Bs) (l : List En) (is : Bool) : Nat := if is = true then cnt k l + 1 else cnt k l
theorem filter_gt {l : List En} (h : Asc l) (k : Bs) (is : Bool) (his : is = true ↔ hasK k l) : l.filter (fun x => decide (k < x.key)) = l.drop (cntE k l is) := by
  obtain ⟨h1, h2⟩ := cnt_split h k
  have e1 : (l.take (cnt k l)).filter (fun x => decide (k < x.key)) = [] := List.filter_eq_nil_iff.2 (fun x hx => by simpa using fun hk => blt_asymm hk (h1 x hx))
  conv => lhs; rw [← List.take_append_drop (cnt k l) l]
  rw [List.filter_append, e1, List.nil_append]
  unfold cntE
  have ha : Asc (l.drop (cnt k l)) := h.sublist (List.drop_sublist _ _)
  cases hd : l.drop (cnt k l) with
  | nil =>
    have : l.length ≤ cnt k l := List.drop_eq_nil_iff.1 hd
    have e : l.drop (cnt k l + 1) = [] := List.drop_eq_nil_iff.2 (by omega)
    split
    · rw [e]; rfl
    · rw [hd]; rfl
  | cons x t =>
    have hx : l[cnt k l]? = some x := by
      have := congrArg List.head? hd
      rw [List.head?_drop] at this
      exact this
    have ht : l.drop (cnt k l + 1) = t := by
      rw [← List.drop_drop, hd]; rfl
    rw [hd] at ha h2
    have ha' := Asc.cons.1 ha
    have hxk : ¬ x.key < k := h2 x (by simp)
    by_cases e : x.key = k
    · have : is = true := his.2 ⟨x, hx, e⟩
      rw [if_pos this, ht, List.filter_cons_of_neg (by simp [e, blt_irrefl]), List.filter_eq_self.2 (fun y hy => by simpa [← e] using ha'.1 y hy)]
    · have hn : ¬ is = true := fun hi => by
        obtain ⟨y, hy, hy2⟩ := his.1 hi
        rw [hx] at hy
        injection hy with hy
        exact e (hy ▸ hy2)
      have hkx : k < x.key := by
        rcases blt_tri x.key k with h' | h' | h'
        · exact absurd h' hxk
        · exact absurd h' e
        · exact h'
      rw [if_neg hn, hd, List.filter_eq_self.2 (fun y hy => by
        rcases List.mem_cons.1 hy with rfl | hy
        · simpa using hkx
        · simpa using blt_trans hkx (ha'.1 y hy))]
theorem nodup_sub_len : ∀ {a b : List Nat}, a.Nodup → (∀ x ∈ a, x ∈ b) → a.length ≤ b.length
  | [], _, _, _ => Nat.zero_le _
  | x :: t, b, h, hs => by
    rw [List.nodup_cons] at h
    have hx := hs x (by simp)
    have h1 := nodup_sub_len (b := b.erase x) h.2 (fun y hy => (List.mem_erase_of_ne (fun e => h.1 (by rw [← e]; exact hy))).2 (hs y (by simp [hy])))
    have h2 := List.length_erase_of_mem hx
    have h3 : 0 < b.length := List.length_pos_of_mem hx
    simp only [List.length_cons]
    omega
theorem nodup_app {a b : List Nat} : (a ++ b).Nodup ↔ a.Nodup ∧ b.Nodup ∧ ∀ x ∈ a, x ∉ b := by
  rw [List.nodup_append]
  constructor
  · rintro ⟨h1, h2, h3⟩
    exact ⟨h1, h2, fun x hx hb => h3 x hx x hb rfl⟩
  · rintro ⟨h1, h2, h3⟩
    exact ⟨h1, h2, fun x hx y hy e => h3 x hx (e ▸ hy)⟩
def DepI (D N : Nat) : Prop := ∀ h, h + 2 ≤ D → ∀ p : Pot, 72 * p.c (h + 1) ≤ p.A + p.R * N
structure MapI (m : Mp) (D : Nat) (E : List En) (ps : List PN) (N : Nat) : Prop where
  rep : Rep m D 0 E ps
  nd : (pgsOf ps ++ fars E).Nodup
  all : ∀ r, m r ≠ none → r ∈ pgsOf ps ++ fars E
  ch : ∀ x ∈ E, ChAt m x
  pot : ∀ p : Pot, p.sum ps ≤ p.A + p.R * N
  dep : DepI D N
structure HoI (m : Mp) (q : Nat) (up : List Fm) (pre es post : List En) (psc : List PN) (N : Nat) : Prop where
  ctx : Ctx m 0 q up pre post psc
  may : mayN ⟨true, es⟩
  inb : ∀ x ∈ es, InB up x.key
  al : ∃ b, m q = some b
  nd : (q :: pgsOf psc ++ fars (pre ++ es ++ post)).Nodup
  all : ∀ r, m r ≠ none → r ∈ q :: pgsOf psc ++ fars (pre ++ es ++ post)
  ch : ∀ x ∈ pre ++ es ++ post, ChAt m x
  pot : ∀ p : Pot, p.sum psc ≤ p.R * N
  dep : DepI up.length N
theorem MapI.hole {m : Mp} {D N q : Nat} {E pre es post : List En} {ps psl psc : List PN} {up : List Fm} (h : MapI m D E ps N) (hl : up.length = D) (hc : Ctx m 0 q up pre post psc) (hr : Rep m 0 q es psl) (he : E = pre ++ es ++ post) (hp : (psl ++ psc).Perm ps)
    (hi : ∀ x ∈ es, InB up x.key) : HoI m q up pre es post psc N := by
  obtain ⟨h1, rfl⟩ := hr
  subst he hl
  have hpp := (perm_pgs hp).symm
  have hsum := fun p : Pot => p.perm hp
  refine ⟨hc, h1.2.1, hi, ⟨_, h1.1⟩, ?_, ?_, h.ch, fun p => ?_, h.dep⟩
  · exact ((hpp.append_right _).nodup_iff).1 h.nd
  · intro r hr
    exact (hpp.append_right _).mem_iff.1 (h.all r hr)
  · have h2 := h.pot p
    rw [← hsum p] at h2
    simp only [List.singleton_append, Pot.sum_cons, Pot.leaf] at h2
    omega
section
variable {m : Mp} {q N : Nat} {up : List Fm} {pre es post : List En} {psc : List PN}
theorem HoI.disj (h : HoI m q up pre es post psc N) : (∀ r ∈ fars (pre ++ es ++ post), r ≠ q ∧ r ∉ pgsOf psc) := by
  have := h.nd
  rw [nodup_app] at this
  intro r hr
  refine ⟨fun e => this.2.2 q (by simp) (e ▸ hr), fun hx => this.2.2 r (by simp [hx]) hr⟩
theorem HoI.ctx_upd (h : HoI m q up pre es post psc N) {r : Nat} (h2 : r ∉ pgsOf psc) (v : Option Bs) : Ctx (upd m r v) 0 q up pre post psc :=
  h.ctx.congr fun x hx => upd_ne m v (fun e => h2 (e ▸ mem_pgsOf hx))
theorem nodup_app_eq {l : List Nat} (h : l.Nodup) : l.Pairwise (· ≠ ·) := h
theorem fars_inj {a b : List En} {x : En} (hx : 0 ≤ x.far) (h : (fars (a ++ x :: b)).Nodup) : ∀ y ∈ a ++ b, 0 ≤ y.far → y.far.toNat ≠ x.far.toNat := by
  intro y hy h0 e
  have h2 : (fars (x :: (a ++ b))).Nodup := (fars_perm List.perm_middle).nodup_iff.1 h
  rw [fars_cons_pos hx, List.nodup_cons] at h2
  exact h2.1 (mem_fars.2 ⟨y, hy, h0, e⟩)
theorem HoI.less (h : HoI m q up pre es post psc N) {a b : List En} {x : En} (he : es = a ++ x :: b) (hx : x.far < 0) : HoI m q up pre (a ++ b) post psc N := by
  have hs : (a ++ b).Sublist es := by
    rw [he]
    exact List.Sublist.append_left (List.sublist_cons_self x b) a
  have hf : fars (pre ++ es ++ post) = fars (pre ++ (a ++ b) ++ post) := by
    rw [he]
    simp [fars_cons_neg hx]
  refine ⟨h.ctx, mayN_sub h.may hs, fun y hy => h.inb y (hs.subset hy), h.al, hf ▸ h.nd, hf ▸ h.all, fun y hy => h.ch y ?_, h.pot, h.dep⟩
  simp only [List.mem_append] at hy ⊢
  rcases hy with (hy | hy) | hy
  · exact .inl (.inl hy)
  · exact .inl (.inr (hs.subset (List.mem_append.2 hy)))
  · exact .inr hy
theorem perm_mid (pre a b post : List En) (x : En) : (pre ++ (a ++ x :: b) ++ post).Perm (x :: (pre ++ (a ++ b) ++ post)) := by
  simp only [List.append_assoc, List.cons_append]
  rw [← List.append_assoc, ← List.append_assoc pre a (b ++ post)]
  exact List.perm_middle
theorem HoI.lessC (h : HoI m q up pre es post psc N) {a b : List En} {x : En} (he : es = a ++ x :: b) (hx : 0 ≤ x.far) : HoI (upd m x.far.toNat none) q up pre (a ++ b) post psc N := by
  subst he
  have hs : (a ++ b).Sublist (a ++ x :: b) := List.Sublist.append_left (List.sublist_cons_self x b) a
  have hmem : x.far.toNat ∈ fars (pre ++ (a ++ x :: b) ++ post) := mem_fars.2 ⟨x, by simp, hx, rfl⟩
  obtain ⟨d1, d2⟩ := h.disj _ hmem
  have hpf := fars_perm (perm_mid pre a b post x)
  rw [fars_cons_pos hx] at hpf
  have hnd := h.nd
  have hpp : (q :: pgsOf psc ++ fars (pre ++ (a ++ x :: b) ++ post)).Perm (x.far.toNat :: (q :: pgsOf psc ++ fars (pre ++ (a ++ b) ++ post))) := (List.Perm.append_left _ hpf).trans List.perm_middle
  rw [hpp.nodup_iff, List.nodup_cons] at hnd
  refine ⟨h.ctx_upd d2 _, mayN_sub h.may hs, fun y hy => h.inb y (hs.subset hy), ?_, hnd.2, fun r hr => ?_, fun y hy hy0 => ?_, h.pot, h.dep⟩
  · obtain ⟨c, hc⟩ := h.al
    exact ⟨c, by rw [upd_ne _ _ (fun e => d1 e.symm)]; exact hc⟩
  · by_cases e : r = x.far.toNat
    · subst e
      exact absurd (upd_same m _ none) hr
    · rw [upd_ne _ _ e] at hr
      have := hpp.mem_iff.1 (h.all r hr)
      rcases List.mem_cons.1 this with h' | h'
      · exact absurd h' e
      · exact h'
  · have hne : y.far.toNat ≠ x.far.toNat := fun e => hnd.1 (List.mem_append_right _ (mem_fars.2 ⟨y, hy, hy0, e⟩))
    rw [upd_ne _ _ hne]
    refine h.ch y ?_ hy0
    simp only [List.mem_append, List.mem_cons] at hy ⊢
    rcases hy with (hy | hy | hy) | hy
    · exact .inl (.inl hy)
    · exact .inl (.inr (.inl hy))
    · exact .inl (.inr (.inr (.inr hy)))
    · exact .inr hy
theorem may_ins {a b : List En} {x : En} (h : mayN ⟨true, a ++ b⟩) (hx : rightE true x) (ha : ∀ y ∈ a, y.key < x.key) (hb : ∀ y ∈ b, x.key < y.key) : mayN ⟨true, a ++ x :: b⟩ := by
  obtain ⟨h1, h2⟩ := h
  obtain ⟨g1, g2, g3⟩ := Asc.append.1 h2
  refine ⟨fun y hy => ?_, Asc.append.2 ⟨g1, Asc.cons.2 ⟨hb, g2⟩, fun y hy z hz => ?_⟩⟩
  · simp only [List.mem_append, List.mem_cons] at hy
    rcases hy with hy | rfl | hy
    · exact h1 y (by simp [hy])
    · exact hx
    · exact h1 y (by simp [hy])
  · rcases List.mem_cons.1 hz with rfl | hz
    · exact ha y hy
    · exact g3 y hy z hz
theorem HoI.more (h : HoI m q up pre es post psc N) {a b : List En} {x : En} (he : es = a ++ b) (hx : x.far < 0) (hr : rightE true x) (ha : ∀ y ∈ a, y.key < x.key) (hb : ∀ y ∈ b, x.key < y.key) (hin : InB up x.key) : HoI m q up pre (a ++ x :: b) post psc N := by
  subst he
  have hf : fars (pre ++ (a ++ b) ++ post) = fars (pre ++ (a ++ x :: b) ++ post) := by simp [fars_cons_neg hx]
  refine ⟨h.ctx, may_ins h.may hr ha hb, fun y hy => ?_, h.al, hf ▸ h.nd, hf ▸ h.all, fun y hy => ?_, h.pot, h.dep⟩
  · simp only [List.mem_append, List.mem_cons] at hy
    rcases hy with hy | rfl | hy
    · exact h.inb y (by simp [hy])
    · exact hin
    · exact h.inb y (by simp [hy])
  · rcases List.mem_cons.1 ((perm_mid pre a b post x).mem_iff.1 hy) with rfl | hy
    · intro h0; omega
    · exact h.ch y hy
theorem HoI.moreC (h : HoI m q up pre es post psc N) {a b : List En} {x : En} {v : Bs} (he : es = a ++ b) (hx : 0 ≤ x.far) (hm : m x.far.toNat = none) (hv : 40 < v.length) (hv2 : v.length ≤ 228) (hr : rightE true x) (ha : ∀ y ∈ a, y.key < x.key) (hb : ∀ y ∈ b, x.key < y.key) (hin : InB up x.key) :
    HoI (upd m x.far.toNat (some (chB v))) q up pre (a ++ x :: b) post psc N := by
  subst he
  have hpf := fars_perm (perm_mid pre a b post x)
  rw [fars_cons_pos hx] at hpf
  have hpp : (q :: pgsOf psc ++ fars (pre ++ (a ++ x :: b) ++ post)).Perm (x.far.toNat :: (q :: pgsOf psc ++ fars (pre ++ (a ++ b) ++ post))) := (List.Perm.append_left _ hpf).trans List.perm_middle
  have hq : q ≠ x.far.toNat := fun e => by
    obtain ⟨c, hc⟩ := h.al
    rw [e, hm] at hc
    cases hc
  have hpsc : x.far.toNat ∉ pgsOf psc := fun hx => by
    unfold pgsOf at hx
    obtain ⟨y, hy, e⟩ := List.mem_map.1 hx
    obtain ⟨c, hc⟩ := h.ctx.alloc y hy
    rw [e, hm] at hc
    cases hc
  have hfa : ∀ y ∈ pre ++ (a ++ b) ++ post, 0 ≤ y.far → y.far.toNat ≠ x.far.toNat := fun y hy h0 e => by
    obtain ⟨_, _, _, hc⟩ := h.ch y hy h0
    rw [e, hm] at hc
    cases hc
  refine ⟨h.ctx_upd hpsc _, may_ins h.may hr ha hb, fun y hy => ?_, ?_, ?_, fun r hr => ?_, fun y hy hy0 => ?_, h.pot, h.dep⟩
  · simp only [List.mem_append, List.mem_cons] at hy
    rcases hy with hy | rfl | hy
    · exact h.inb y (by simp [hy])
    · exact hin
    · exact h.inb y (by simp [hy])
  · obtain ⟨c, hc⟩ := h.al
    exact ⟨c, by rw [upd_ne _ _ hq]; exact hc⟩
  · rw [hpp.nodup_iff, List.nodup_cons]
    refine ⟨fun hx => ?_, h.nd⟩
    rcases List.mem_append.1 hx with hx | hx
    · rcases List.mem_cons.1 hx with hx | hx
      · exact hq hx.symm
      · exact hpsc hx
    · obtain ⟨y, hy, h0, e⟩ := mem_fars.1 hx
      exact hfa y hy h0 e
  · rw [hpp.mem_iff]
    by_cases e : r = x.far.toNat
    · simp [e]
    · rw [upd_ne _ _ e] at hr
      exact List.mem_cons_of_mem _ (h.all r hr)
  · rcases List.mem_cons.1 ((perm_mid pre a b post x).mem_iff.1 hy) with rfl | hy
    · exact ⟨v, hv, hv2, upd_same _ _ _⟩
    · rw [upd_ne _ _ (hfa y hy hy0)]
      exact h.ch y hy hy0
theorem HoI.sst (h : HoI m q up pre es post psc N) (hne : es ≠ []) (hb : nB es ≤ 302) : SSt m 0 q ⟨true, es⟩ up (pre ++ es ++ post) ((q, 0, nB es) :: psc) := by
  refine ⟨⟨pre, post, es, [], psc, h.ctx, ⟨rfl, rfl⟩, by simp, .inl hne, h.inb, rfl, rfl⟩, h.may, ?_, h.al, by simpa using hb⟩
  have := h.nd
  rw [nodup_app] at this
  simpa using this.1
theorem HoI.kst (h : HoI m q up pre es post psc N) (hb : nB es ≤ 223) : KSt m 0 q ⟨true, es⟩ up (pre ++ es ++ post) ((q, 0, nB es) :: psc) := by
  refine ⟨⟨pre, post, es, [], psc, h.ctx, ⟨rfl, rfl⟩, h.inb, rfl, rfl⟩, h.may, ?_, h.al, by simpa using hb⟩
  have := h.nd
  rw [nodup_app] at this
  simpa using this.1
theorem HoI.turn (h : HoI m q up pre es post psc N) {m' : Mp} {b : Nat} {ps' : List PN} (ht : Turn m (pgsOf ((q, 0, b) :: psc)) m' (pgsOf ps')) (hnd : (pgsOf ps').Nodup) :
    (pgsOf ps' ++ fars (pre ++ es ++ post)).Nodup ∧ (∀ r, m' r ≠ none → r ∈ pgsOf ps' ++ fars (pre ++ es ++ post)) ∧ ∀ r ∈ fars (pre ++ es ++ post), m' r = m r := by
  have hn := h.nd
  rw [nodup_app] at hn
  have hF : ∀ r ∈ fars (pre ++ es ++ post), r ∉ pgsOf ((q, 0, b) :: psc) ∧ r ∉ pgsOf ps' := fun r hr => by
    have h1 : r ∉ pgsOf ((q, 0, b) :: psc) := fun hx => hn.2.2 r (by simpa using hx) hr
    refine ⟨h1, fun hx => ?_⟩
    have h2 := ht.new_ r hx h1
    obtain ⟨x, hx, h0, e⟩ := mem_fars.1 hr
    obtain ⟨_, _, _, hc⟩ := h.ch x hx h0
    rw [e, h2] at hc
    cases hc
  refine ⟨nodup_app.2 ⟨hnd, hn.2.1, fun r h1 h2 => (hF r h2).2 h1⟩, fun r hr => ?_, fun r hr => ht.same r (hF r hr).1 (hF r hr).2⟩
  by_cases h1 : r ∈ pgsOf ps'
  · exact List.mem_append_left _ h1
  · by_cases h2 : r ∈ pgsOf ((q, 0, b) :: psc)
    · exact absurd (ht.gone r h2 h1) hr
    · rw [ht.same r h2 h1] at hr
      rcases List.mem_append.1 (h.all r hr) with h3 | h3
      · exact absurd (by simpa using h3) h2
      · exact List.mem_append_right _ h3
theorem HoI.done {m' : Mp} {D b : Nat} {ps' : List PN} (h : HoI m q up pre es post psc N) (hd : SDn m 0 up.length ((q, 0, b) :: psc) m' D (pre ++ es ++ post) ps') : MapI m' D (pre ++ es ++ post) ps' (N + 1) ∧ ∀ r ∈ fars (pre ++ es ++ post), m' r = m r := by
  obtain ⟨t1, t2, t3⟩ := h.turn hd.turn hd.nd
  have hsum : ∀ p : Pot, p.sum ((q, 0, b) :: psc) ≤ p.A + p.R * N := fun p => by
    rw [Pot.sum_cons, Pot.leaf]
    have := h.pot p
    omega
  refine ⟨⟨hd.rep, t1, t2, fun x hx h0 => ?_, fun p => ?_, ?_⟩, t3⟩
  · rw [t3 _ (mem_fars.2 ⟨x, hx, h0, rfl⟩)]
    exact h.ch x hx h0
  · have h1 := hd.pot p
    have h2 := hsum p
    rw [Nat.mul_succ]
    simp only [if_true] at h1
    omega
  · intro g hg p
    rw [Nat.mul_succ]
    rcases hd.dep with rfl | ⟨rfl, h1⟩
    · have := h.dep g hg p
      omega
    · by_cases e : g + 2 ≤ up.length
      · have := h.dep g e p
        omega
      · have e2 : up.length = g + 1 := by omega
        rcases h1 with h1 | h1
        · omega
        · have h3 := h1 p
          have h2 := hsum p
          rw [e2] at h3
          simp only [if_true] at h3
          omega
theorem HoI.doneK {m' : Mp} {D b : Nat} {ps' : List PN} (h : HoI m q up pre es post psc N) (hd : KDn m up.length ((q, 0, b) :: psc) m' D (pre ++ es ++ post) ps') : MapI m' D (pre ++ es ++ post) ps' N ∧ ∀ r ∈ fars (pre ++ es ++ post), m' r = m r := by
  obtain ⟨t1, t2, t3⟩ := h.turn hd.turn hd.nd
  refine ⟨⟨hd.rep, t1, t2, fun x hx h0 => ?_, fun p => ?_, fun g hg p => ?_⟩, t3⟩
  · rw [t3 _ (mem_fars.2 ⟨x, hx, h0, rfl⟩)]
    exact h.ch x hx h0
  · have h1 := hd.pot p
    have := h.pot p
    rw [Pot.sum_cons, Pot.leaf] at h1
    omega
  · exact h.dep g (by have := hd.dep; omega) p
end
end Go.Proofs.YtnnghcooidjlhaaGreat
end
section
set_option linter.unusedSimpArgs false
namespace Go.Proofs.YtnnghcooidjlhaaGreat
theorem part_lt {E pre es post : List En} {k : Bs} (he : E = pre ++ es ++ post) (h1 : ∀ x ∈ pre, x.key < k) (h2 : ∀ x ∈ post, k < x.key) (ha : Asc es) :
    E.filter (fun x => decide (x.key < k)) = pre ++ es.take (cnt k es) := by
  rw [he, List.filter_append, List.filter_append, filter_lt ha, List.filter_eq_self.2 (by simpa using h1), List.filter_eq_nil_iff.2 (fun x hx => by simpa using blt_asymm (h2 x hx)), List.append_nil]
theorem part_gt {E pre es post : List En} {k : Bs} {is : Bool} (he : E = pre ++ es ++ post) (h1 : ∀ x ∈ pre, x.key < k) (h2 : ∀ x ∈ post, k < x.key) (ha : Asc es) (his : is = true ↔ hasK k es) :
    E.filter (fun x => decide (k < x.key)) = es.drop (cntE k es is) ++ post := by
  have e1 : post.filter (fun x => decide (k < x.key)) = post := List.filter_eq_self.2 (by simpa using h2)
  have e2 : pre.filter (fun x => decide (k < x.key)) = [] := List.filter_eq_nil_iff.2 (fun x hx => by simpa using blt_asymm (h1 x hx))
  rw [he, List.filter_append, List.filter_append, filter_gt ha k is his, e1, e2, List.nil_append]
theorem kvs_sub {m m' : Mp} {E : List En} (h : ∀ r ∈ fars E, m' r = m r) (p : Bs → Bool) : kvs m' (E.filter fun x => p x.key) = (kvs m E).filter fun a => p a.1 := by
  rw [← kvs_filter]
  refine kvs_congr fun r hr => h r ?_
  obtain ⟨x, hx, h0, e⟩ := mem_fars.1 hr
  exact mem_fars.2 ⟨x, (List.mem_filter.1 hx).1, h0, e⟩
theorem delM_eq {M : List KV} (h : AscM M) (k : Bs) : delM M k = M.filter (fun a => decide (a.1 < k)) ++ M.filter (fun a => decide (k < a.1)) := by
  induction M with
  | nil => rfl
  | cons a t ih =>
    obtain ⟨h1, h2⟩ := List.pairwise_cons.1 h
    have ih := ih h2
    unfold delM at ih ⊢
    rcases blt_tri a.1 k with h' | h' | h'
    · rw [List.filter_cons_of_pos (by simp; exact fun e => blt_irrefl _ (e ▸ h')), List.filter_cons_of_pos (by simpa using h'), List.filter_cons_of_neg (by simpa using blt_asymm h'), List.cons_append, ih]
    · have e1 : t.filter (fun a => decide (a.1 < k)) = [] := List.filter_eq_nil_iff.2 (fun b hb => by simpa using blt_asymm (h' ▸ h1 b hb))
      rw [List.filter_cons_of_neg (by simp [h']), List.filter_cons_of_neg (by simp [h', blt_irrefl]), List.filter_cons_of_neg (by simp [h', blt_irrefl]), ih]
    · have e1 : t.filter (fun a => decide (a.1 < k)) = [] := List.filter_eq_nil_iff.2 (fun b hb => by simpa using blt_asymm (blt_trans h' (h1 b hb)))
      rw [List.filter_cons_of_pos (by simp; exact fun e => blt_irrefl _ (e ▸ h')), List.filter_cons_of_neg (by simpa using blt_asymm h'), List.filter_cons_of_pos (by simpa using h'), ih, e1]
      rfl
theorem getM_append (a b : List KV) (k : Bs) (h : ∀ x ∈ a, x.1 ≠ k) : getM (a ++ b) k = getM b k := by
  unfold getM
  rw [List.find?_append, List.find?_eq_none.2 (by simpa using h)]
  rfl
theorem getM_none {M : List KV} {k : Bs} (h : ∀ x ∈ M, x.1 ≠ k) : getM M k = none := by
  unfold getM
  rw [List.find?_eq_none.2 (by simpa using h)]
  rfl
theorem get_kvs {m : Mp} {E pre es post : List En} {k : Bs} (he : E = pre ++ es ++ post) (h1 : ∀ x ∈ pre, x.key < k) (h2 : ∀ x ∈ post, k < x.key) (ha : Asc es) :
    (∀ x, es[cnt k es]? = some x → x.key = k → getM (kvs m E) k = some (kvOf m x).2) ∧ (¬ hasK k es → getM (kvs m E) k = none) := by
  obtain ⟨g1, g2⟩ := cnt_split ha k
  have kne : ∀ (l : List En), (∀ x ∈ l, x.key ≠ k) → ∀ a ∈ kvs m l, a.1 ≠ k := fun l hl a hx => by
    obtain ⟨x, hx2, rfl⟩ := List.mem_map.1 hx
    exact hl x hx2
  have lt_ne : ∀ (l : List En), (∀ x ∈ l, x.key < k) → ∀ x ∈ l, x.key ≠ k := fun l hl x hx e => blt_irrefl k (e ▸ hl x hx)
  refine ⟨fun x hx hk => ?_, fun hn => ?_⟩
  · have hlt := (List.getElem?_eq_some_iff.1 hx).1
    have hsp : es = es.take (cnt k es) ++ x :: es.drop (cnt k es + 1) := by
      conv => lhs; rw [← List.take_append_drop (cnt k es) es]
      rw [List.drop_eq_getElem_cons hlt, (List.getElem?_eq_some_iff.1 hx).2]
    rw [he, List.append_assoc, kvs_append, getM_append _ _ _ (kne _ (lt_ne _ h1)), kvs_append]
    rw [hsp, kvs_append, List.append_assoc, getM_append _ _ _ (kne _ (lt_ne _ g1)), kvs_cons, List.cons_append]
    unfold getM
    rw [List.find?_cons_of_pos (by show decide (x.key = k) = true; simpa using hk)]
    rfl
  · rw [he]
    refine getM_none (kne _ fun x hx e => ?_)
    rcases List.mem_append.1 hx with hx | hx
    · rcases List.mem_append.1 hx with hx | hx
      · exact lt_ne _ h1 x hx e
      · obtain ⟨j, hj, e2⟩ := List.mem_iff_getElem.1 hx
        by_cases hji : j < cnt k es
        · have : x ∈ es.take (cnt k es) := List.mem_take_iff_getElem.2 ⟨j, by omega, e2⟩
          exact blt_irrefl k (e ▸ g1 x this)
        · by_cases hje : j = cnt k es
          · subst hje
            exact hn ⟨x, by rw [List.getElem?_eq_getElem hj, e2], e⟩
          · have hlt : cnt k es < es.length := by omega
            have h4 : es[cnt k es] ∈ es.drop (cnt k es) := by
              rw [List.drop_eq_getElem_cons hlt]; exact List.mem_cons_self
            have h5 := g2 _ h4
            have h6 : es[cnt k es].key < es[j].key := (List.pairwise_iff_getElem.1 ha) _ _ hlt hj (by omega)
            rw [e2, e] at h6
            exact h5 h6
    · exact blt_irrefl k (e ▸ h2 x hx)
/-! how many pages -/
theorem rep_count {m : Mp} : ∀ {d q : Nat} {es : List En} {ps : List PN}, Rep m d q es ps → es ≠ [] → ps.length ≤ (d + 1) * es.length
  | 0, q, es, ps, ⟨_, h⟩, hne => by
    subst h
    have := List.length_pos_iff.2 hne
    simp
    omega
  | d + 1, q, es, ps, ⟨cs, _, _, _, hco, hr, he, hp⟩, hne => by
    subst he hp
    have key : ∀ l : List Ch, (∀ c ∈ l, c ∈ cs) → (chPs l).length ≤ (d + 1) * (chEs l).length := fun l => by
      induction l with
      | nil => simp
      | cons c t ih =>
        intro hl
        have hc := hl c (by simp)
        have h1 := rep_count (hr c hc) (hco.1 c hc).1
        have h2 := ih (fun x hx => hl x (by simp [hx]))
        rw [chPs_cons, chEs_cons, List.length_append, List.length_append, Nat.mul_add]
        omega
    have h1 := key cs (fun _ h => h)
    have h2 := List.length_pos_iff.2 hne
    rw [List.length_cons, show (d + 1 + 1) * (chEs cs).length = (d + 1) * (chEs cs).length + (chEs cs).length by rw [Nat.succ_mul]]
    omega
theorem somes_le {pgs : List (Option Bs)} {l : List Nat} (h : ∀ r, pg pgs r ≠ none → r ∈ l) : somes pgs ≤ l.length := by
  have h1 : ∀ (a : List (Option Bs)) (o : Nat), somes a = ((List.range' o a.length).filter fun r => ((a[r - o]?).join).isSome).length := fun a => by
    induction a with
    | nil => intro o; rfl
    | cons x t ih =>
      intro o
      have e : ∀ r ∈ List.range' (o + 1) t.length, (((x :: t)[r - o]?).join).isSome = ((t[r - (o + 1)]?).join).isSome := fun r hr => by
        have := (List.mem_range'_1.1 hr).1
        rw [show r - o = (r - (o + 1)) + 1 by omega]
        rfl
      rw [List.length_cons, List.range'_succ, List.filter_cons, List.filter_congr e]
      have := ih (o + 1)
      cases x with
      | none =>
        simp [somes] at this ⊢
        omega
      | some b =>
        simp [somes] at this ⊢
        omega
  have h2 := h1 pgs 0
  rw [h2]
  refine nodup_sub_len ((List.nodup_range').filter _) fun r hr => h r ?_
  have := (List.mem_filter.1 hr).2
  unfold pg
  intro e
  rw [Nat.sub_zero] at this
  rw [e] at this
  cases this
def pot1 : Pot := ⟨33, fun _ => 1, 72, by omega, by omega, by intros; omega, by intros; omega⟩
def lam : Nat → Nat
  | 0 => 1000 | 1 => 1000 | 2 => 1846 | 3 => 3408 | 4 => 6291 | 5 => 11614 | 6 => 21441 | 7 => 39583 | 8 => 73076 | _ => 134909
theorem lam_step : ∀ h, 1 ≤ h → 39 * lam (h + 1) ≤ 72 * lam h
  | 0, h => by omega
  | 1, _ | 2, _ | 3, _ | 4, _ | 5, _ | 6, _ | 7, _ => by decide
  | 8, _ => by decide
  | h + 9, _ => by show 39 * 134909 ≤ 72 * 134909; omega
def pot2 : Pot := ⟨0, lam, 39000, by rw [show lam 1 = 1000 from rfl]; omega, by omega, fun h hh => by have := lam_step h hh; omega, by intros; omega⟩
def Roomy (N L C : Nat) : Prop := (N ≤ 100 ∧ C ≤ 60) ∨ (C = 0 ∧ L ≤ 28 ∧ N ≤ 245)
theorem MapI.deep {m : Mp} {D N : Nat} {E : List En} {ps : List PN} (h : MapI m D E ps N) (hN : N ≤ 248) : D ≤ 9 := by
  rcases Nat.lt_or_ge 9 D with hd | hd
  · have : 72 * 134909 ≤ 0 + 39000 * N := h.dep 8 hd pot2
    omega
  · exact hd
theorem MapI.room {pgs : List (Option Bs)} {D N L C : Nat} {E : List En} {ps : List PN} (h : MapI (pg pgs) D E ps N) (hL : E.length ≤ L) (hC : (fars E).length ≤ C) (hr : Roomy N L C) : somes pgs + D + 3 ≤ 300 ∧ D ≤ 9 := by
  have hD : D ≤ 9 := h.deep (by rcases hr with hr | hr <;> omega)
  refine ⟨?_, hD⟩
  have hs := somes_le h.all
  rw [List.length_append] at hs
  have hpl : (pgsOf ps).length = ps.length := by simp [pgsOf]
  rcases hr with ⟨h1, h2⟩ | ⟨h1, h2, h3⟩
  · have hp := h.pot pot1
    have h33 : ∀ l : List PN, 33 * l.length ≤ pot1.sum l := fun l => by
      induction l with
      | nil => simp
      | cons x t ih =>
        rw [Pot.sum_cons, List.length_cons]
        have : 33 ≤ pot1.one x := Nat.le_add_right _ _
        omega
    have := h33 ps
    have hp2 : pot1.sum ps ≤ 33 + 72 * N := hp
    omega
  · by_cases he : E = []
    · subst he
      have : ps.length ≤ 1 := by
        match D, h.rep with
        | 0, ⟨_, h⟩ => rw [h]; simp
        | D + 1, ⟨cs, hc, _, _, hco, hr, he, _⟩ =>
          exfalso
          cases cs with
          | nil => exact hc rfl
          | cons c t =>
            rw [chEs_cons] at he
            exact (hco.1 c (by simp)).1 (List.append_eq_nil_iff.1 he.symm).1
      omega
    · have h4 := rep_count h.rep he
      have h5 : (D + 1) * E.length ≤ 10 * 28 := Nat.mul_le_mul (by omega) (by omega)
      omega
end Go.Proofs.YtnnghcooidjlhaaGreat
end
section
set_option linter.unusedSimpArgs false
set_option maxRecDepth 100000
namespace Go.Proofs.YtnnghcooidjlhaaGreat
open Go.RowKit Go.Lib
abbrev Inf (e : TypeId) (z : Value) (size bytes : Nat) : Prop := (Tryz.prog.info? e).map (fun i => (i.zero, i.size, i.bytes)) = some (some z, size, bytes)
theorem app_own {ops : Array Oper} {rest : List Oper} {o : Oper} {a : Act} {Q : Exit → Act → World → Prop} (hgd : o.guard = none) (s x : Operand) (t : TypeId)
    (ho : o.op = .call { callee := .builtin .append, args := #[s, x], argTypes := #[t, t] }) {α : Type} (enc : α → List Value) {e : TypeId} {z : Value} {size bytes : Nat} (hi : Inf e z size bytes) (ht : Tryz.prog.underlying t = some (.slice e))
    (hzs : z.cells.size = size) (hsz : 0 < size) (hby : bytes ≤ 1000) (hk : ∀ x, (enc x).length = size) (hone : ∀ x, ∀ u ∈ enc x, u.oneCell' = true) {B : Nat} {W : World} {v : Value} {l : List α} {n : Nat} (x0 : α) (hown : W.ownsRow B e size v n (rowV enc l)) (hn : n ≤ 100000) (hB : B ≤ W.heap.size)
    (hs : a.eval s = v) (hx : a.eval x = .slice (some ⟨W.heap.size, 0, none⟩) 1 1)
    (h : ∀ v' w', w'.ownsRow B e size v' (n + 1) (rowV enc (l ++ [x0])) → Kp v.ownBlock.toList W w' → wpList Tryz.prog ops Q rest (a.put o.dst v') w') : wpList Tryz.prog ops Q (o :: rest) a (W.alloc (.cells (enc x0).toArray e)) := by
  obtain ⟨i0, hi0, hz0, hz1, hz2⟩ := info_parts hi
  refine wpList_append_own _ hgd s x t ho B e i0 z size bytes ht hi0 hz0 hz1 hz2 hzs hsz v n _ hs (hown.alloc _) ⟨W.heap.size, 0, none⟩ 1 1 (enc x0) hx (by rw [hk, Nat.one_mul]) (news_of (Blk.new W e (enc x0).toArray)) (hone x0) (by unfold maxLen; omega) ?_ (by simp; omega) ?_
  · have : (n + 1) * bytes ≤ 100001 * 1000 := Nat.mul_le_mul (by omega) hby
    omega
  · intro v' w' h1 h2 _
    refine h v' w' (by rw [rowV_append, rowV_cons, rowV_nil, List.append_nil]; exact h1) ?_
    exact ((Kp.refl _ W).alloc _).grown h2 (fun g hg => .inl (Option.mem_toList.2 hg))
theorem ctwo_any (w : World) (n : Nat) (hn : n < 65536) : Calls Tryz.prog 231 #[.int .i64 n] w fun e w' => e = .returned (.string (S (two n))) ∧ Below w.heap.size w w' := by
  have hC : (convert 129 9 (.slice (some ⟨w.heap.size, 0, none⟩) 2 2)).run Tryz.prog (w.alloc (.cells #[.int .u8 ((n : Int) / 256), .int .u8 ((n : Int) % 256)] 5)) = .ok (.string (S (two n))) (w.alloc (.cells #[.int .u8 ((n : Int) / 256), .int .u8 ((n : Int) % 256)] 5)) := by
    have hB := Blk.new w 5 #[.int .u8 ((n : Int) / 256), .int .u8 ((n : Int) % 256)]
    refine run_convert_bytes_back _ 129 9 5 ⟨w.heap.size, 0, none⟩ 2 (two n) Tryz.underlying129 Tryz.underlying5 Tryz.underlying9 fun j hj => ?_
    match j with
    | 0 =>
      refine (hB.cell 0).trans ?_
      simp [two]
      omega
    | 1 =>
      refine (hB.cell 1).trans ?_
      simp [two]
    | j + 2 => exact absurd hj (by simp [two])
  go_enter Tryz.func231, Tryz.ntmps231
  go_wp2
  go_ret
  exact ⟨rfl, (Below.refl _ w).alloc (Nat.le_refl _) _⟩
theorem need_any (w : World) (n : Nat) (hn : n ≤ 228) : Calls Tryz.prog 230 #[.int .i64 n] w fun e w' => e = .returned (.int .i64 1) ∧ w = w' := by
  go_enter Tryz.func230, Tryz.ntmps230
  go_wp2
  · go_ret
    exact ⟨rfl, rfl⟩
  · go_ret
    refine ⟨?_, rfl⟩
    have : ((n : Int) + 228 - 1) / 228 = 1 := by omega
    rw [this]
    rfl
theorem need_most (w : World) : Calls Tryz.prog 230 #[.int .i64 1024] w fun e w' => e = .returned (.int .i64 5) ∧ w = w' := by
  go_enter Tryz.func230, Tryz.ntmps230
  go_wp2
  go_ret
  exact ⟨rfl, rfl⟩
theorem chB_length {v : Bs} (hv : v.length ≤ 228) : (chB v).length = 232 := pad_length (by simp; omega)
theorem chB_get {v : Bs} (hv : v.length ≤ 228) : (chB v)[0]? = some 0 ∧ (chB v)[1]? = some 0 ∧ (chB v)[2]? = some (UInt8.ofNat (v.length / 256)) ∧ (chB v)[3]? = some (UInt8.ofNat v.length) ∧ ((chB v).drop 4).take v.length = v := by
  refine ⟨rfl, rfl, rfl, rfl, ?_⟩
  unfold chB pad
  simp only [two, List.cons_append, List.nil_append, List.drop_succ_cons, List.drop_zero]
  simp
section
variable {w : World} {P : PL} {O : List Nat} {pgs : List (Option Bs)}
set_option maxHeartbeats 1000000 in
theorem cread_any (hp : PoI w P O pgs) {q : Nat} {v : Bs} (hq : pgs[q]? = some (some (chB v))) (hv : v.length ≤ 228) :
    Calls Tryz.prog 251 #[.pointer (some ⟨P.p, 0, none⟩), .int .i64 q] w fun e w' => e = .returned (.tuple #[.agg #[.int .i64 (-1), .string (S v)], .int .i64 0]) ∧ Kp O w w' ∧ PoI w' P O pgs := by
  have hno : w.heap.size ∉ O := fun hx => by have := hp.lts _ hx; omega
  have hbA : Below w.heap.size w (w.alloc (.cells #[.int .i64 0, .string ⟨#[]⟩] 372)) := (Below.refl _ w).alloc (Nat.le_refl _) _
  have HG := hid (pi_get (hp.below hbA) hq)
  have hblk := Blk.new w 372 #[.int .i64 0, .string ⟨#[]⟩]
  have hL := chB_length hv
  obtain ⟨g0, g1, g2, g3, g4⟩ := chB_get hv
  generalize chB v = L at HG hL g0 g1 g2 g3 g4
  obtain ⟨b2, hb2⟩ : ∃ b, b = UInt8.ofNat (v.length / 256) := ⟨_, rfl⟩
  obtain ⟨b3, hb3⟩ : ∃ b, b = UInt8.ofNat v.length := ⟨_, rfl⟩
  rw [← hb2] at g2
  rw [← hb3] at g3
  have d0 : ∀ h, L[0]'h = 0 := fun h => by rw [List.getElem?_eq_getElem h] at g0; exact Option.some.inj g0
  have d1 : ∀ h, L[1]'h = 0 := fun h => by rw [List.getElem?_eq_getElem h] at g1; exact Option.some.inj g1
  have d2 : ∀ h, L[2]'h = b2 := fun h => by rw [List.getElem?_eq_getElem h] at g2; exact Option.some.inj g2
  have d3 : ∀ h, L[3]'h = b3 := fun h => by rw [List.getElem?_eq_getElem h] at g3; exact Option.some.inj g3
  have hor0 : bits .or .i64 0 0 = 0 := by decide
  have hor : bits .or .i64 ((b2.toNat : Int) * 256) (b3.toNat : Int) = (v.length : Int) := by rw [or_two, hb2, hb3, un2_two (by omega)]
  have h82 := b2.toNat_lt
  have h83 := b3.toNat_lt
  have w4 : IntKind.i64.wrap (b2.toNat : Int) = (b2.toNat : Int) := by rw [IntKind.wrap_i64]; omega
  have w5 : IntKind.i64.wrap (b3.toNat : Int) = (b3.toNat : Int) := by rw [IntKind.wrap_i64]; omega
  have w6 : IntKind.i64.wrap ((b2.toNat : Int) * 256) = (b2.toNat : Int) * 256 := by rw [IntKind.wrap_i64]; omega
  have hvi : (v.length : Int) ≤ 228 := by omega
  have HNO := hid hno
  have HB := hid hblk
  have HBA := hid hbA
  have G4 := hid g4
  clear hp hno hblk hq g0 g1 g2 g3 hb2 hb3 hbA g4
  go_enter Tryz.func251, Tryz.ntmps251
  go_wp2_with fail
  refine HG.out.mono ?_
  rintro e W1 ⟨rfl, hk1, hp1⟩
  have hR := HB.out.kp hk1 HNO.out
  have hK : Kp O w W1 := (Kp.of_below HBA.out).trans hk1
  have HR := hid hR
  have HP1 := hid hp1
  have HK := hid hK
  have r0 : W1.cell? ⟨w.heap.size, 0, none⟩ = some (.int .i64 0) := hR.cell 0
  have r1 : W1.cell? ⟨w.heap.size, 1, none⟩ = some (.string ⟨#[]⟩) := hR.cell 1
  have f0 := hR.frozen 0
  have f1 := hR.frozen 1
  clear hR hk1 hp1 hK
  go_wp2
  go_quiet (fail)
  go_wp2
  rw [G4.out]
  have hR3 := ((HR.out.drewN nq).set_ 0 (.int .i64 (-1))).set_ 1 (.string (S v))
  have q0 := hR3.cell 0
  have q1 := hR3.cell 1
  simp only [List.setIfInBounds_toArray, List.set_cons_zero, List.set_cons_succ, List.getElem?_toArray, List.getElem?_cons_zero, List.getElem?_cons_succ] at q0 q1
  have hkk : Kp O w (((W1.drewN nq).setCell ⟨w.heap.size, 0, none⟩ (.int .i64 (-1))).setCell ⟨w.heap.size, 1, none⟩ (.string (S v))) := ((HK.out.drewN nq).setCell (.inr (Nat.le_refl _)) _).setCell (.inr (Nat.le_refl _)) _
  refine bodyPost_ret (v := .tuple #[.agg #[.int .i64 (-1), .string (S v)], .int .i64 0]) (by simp [results, Tryz.results251, go_sem, q0, q1]) rfl ⟨rfl, hkk, ?_⟩
  refine HP1.out.of_blocks fun b hb => ?_
  have hb1 : b ≠ w.heap.size := fun e => HNO.out (e ▸ hb)
  rw [Below.heap_setCell _ ⟨w.heap.size, 1, none⟩ _ b hb1, Below.heap_setCell _ ⟨w.heap.size, 0, none⟩ _ b hb1]
  rfl
theorem piece_any {W : World} {B : Nat} {v : Bs} (h : W.cell? ⟨B, 0, none⟩ = some (.string (S v))) (hv : v.length ≤ 228) :
    Calls Tryz.prog 229 #[.int .i64 0, .pointer (some ⟨B, 0, none⟩)] W fun e w' => e = .returned (.string (S v)) ∧ W = w' := by
  have hvi : (v.length : Int) ≤ 228 := by omega
  go_enter Tryz.func229, Tryz.ntmps229
  go_wp2
  · go_ret
    exact ⟨rfl, rfl⟩
  · rw [List.take_of_length_le hv]
    go_ret
    exact ⟨rfl, rfl⟩
end
end Go.Proofs.YtnnghcooidjlhaaGreat
end
section
set_option linter.unusedSimpArgs false
set_option maxRecDepth 100000
namespace Go.Proofs.YtnnghcooidjlhaaGreat
open Go.RowKit Go.Lib
theorem infInt : Inf 3 (.int .i64 0) 1 8 := inf3
theorem infU8 : Inf 5 (.int .u8 0) 1 1 := inf5
def intC (n : Int) : List Value := [.int .i64 n]
theorem intC_len (n : Int) : (intC n).length = 1 := rfl
theorem intC_one (n : Int) : ∀ u ∈ intC n, u.oneCell' = true := by intro u hu; simp [intC] at hu; subst hu; rfl
section
variable {w : World} {P : PL} {O : List Nat} {pgs : List (Option Bs)}
set_option maxHeartbeats 2000000 in
theorem cput_any (hp : PoI w P O pgs) {v : Bs} (hv : v.length ≤ 228) (hsm : somes pgs < 300) :
    Calls Tryz.prog 198 #[.pointer (some ⟨P.p, 0, none⟩), .string (S v)] w fun e w' => ∃ (q : Nat) (O' : List Nat), e = .returned (.tuple #[.int .i64 q, .int .i64 0]) ∧ q ≤ pgs.length ∧ (pgs[q]? = some none ∨ q = pgs.length) ∧
      PoI w' P O' (newAt pgs q (chB v)) ∧ Kp O w w' ∧ Gr O w.heap.size O' := by
  have hbA : Below w.heap.size w (w.alloc (.cells #[.string (S v)] 9)) := (Below.refl _ w).alloc (Nat.le_refl _) _
  have hblk := Blk.new w 9 #[.string (S v)]
  have HPC := hid (fun W (hW : Below w.heap.size (w.alloc (.cells #[.string (S v)] 9)) W) => piece_any (W := W) (B := w.heap.size) (v := v))
  have HN := hid (fun W (hW : Below (w.alloc (.cells #[.string (S v)] 9)).heap.size (w.alloc (.cells #[.string (S v)] 9)) W) => pi_new ((hp.below hbA).below hW) (two 0 ++ two v.length ++ v) (by simp; omega) hsm)
  have HT0 : Hid (∀ W, Calls Tryz.prog 231 #[.int .i64 0] W fun e w' => e = .returned (.string (S (two 0))) ∧ Below W.heap.size W w') := hid (fun W => by simpa using ctwo_any W 0 (by omega))
  have HT1 := hid (fun W => ctwo_any W v.length (by omega))
  have HND := hid (fun W => need_any W v.length hv)
  have c0 : (w.alloc (.cells #[.string (S v)] 9)).cell? ⟨w.heap.size, 0, none⟩ = some (.string (S v)) := hblk.cell 0
  have hvi : (v.length : Int) ≤ 228 := by omega
  have HB := hid hblk
  have HBA := hid hbA
  clear hp hblk hbA
  go_enter Tryz.func198, Tryz.ntmps198
  go_wp2_with (go_at_call 230; (with_reducible refine (HND.out _).mono ?_); rintro e w1 ⟨rfl, rfl⟩)
  go_loopg [9, 7, 8] 1 (fun gg s9 s7 s8 wr => (gg = 1 ∧ s9 = .int .i64 0 ∧ s7 = .slice none 0 0 ∧ s8 = .int .i64 (-1) ∧ wr = w.alloc (.cells #[.string (S v)] 9)) ∨
    (∃ (q : Nat) (O' : List Nat), s9 = .int .i64 (-1) ∧ s8 = .int .i64 q ∧ Hid (q ≤ pgs.length ∧ (pgs[q]? = some none ∨ q = pgs.length) ∧ PoI wr P O' (newAt pgs q (chB v)) ∧ Kp O w wr ∧ Gr O w.heap.size O')))
  case atStart => exact .inl ⟨rfl, rfl, rfl, rfl, rfl⟩
  case round =>
    rcases hrel with ⟨rfl, rfl, rfl, rfl, rfl⟩ | ⟨q, O', rfl, rfl, hF⟩
    · have h0 : Int.toNat 0 = 0 := rfl
      go_wp2_with (first | (go_at_call 229; (with_reducible refine (HPC.out _ (Below.refl _ _) c0 hv).mono ?_); rintro e w1 ⟨rfl, rfl⟩) | fail)
      (with_reducible refine (HT0.out _).mono ?_)
      rintro e W1 ⟨rfl, hb1⟩
      have HB1 := hid hb1
      clear hb1
      go_wp2_with fail
      (with_reducible refine (HT1.out _).mono ?_)
      rintro e W2 ⟨rfl, hb2⟩
      have hb12 := HB1.out.trans (hb2.mono HB1.out.size)
      have HN2 := HN.out W2 hb12
      rw [List.append_assoc] at HN2
      have HN2 := hid HN2
      have HB12 := hid hb12
      clear hb2 hb12
      go_wp2_with fail
      (with_reducible refine HN2.out.mono ?_)
      rintro e W3 ⟨q, O', rfl, hq1, hq2, hp3, hk3, hg3⟩
      have hc : pad (two 0 ++ (two v.length ++ v)) = chB v := by unfold chB; rw [List.append_assoc]
      rw [hc] at hp3
      have hk02 : Below w.heap.size w W2 := HBA.out.trans (HB12.out.mono HBA.out.size)
      have hF : Hid (q ≤ pgs.length ∧ (pgs[q]? = some none ∨ q = pgs.length) ∧ PoI W3 P O' (newAt pgs q (chB v)) ∧ Kp O w W3 ∧ Gr O w.heap.size O') := hid ⟨hq1, hq2, hp3, (Kp.of_below hk02).trans hk3, hg3.mono hk02.size⟩
      clear hq1 hq2 hp3 hk3 hg3 hc hk02
      go_wp2_with (with_reducible refine stopAt .append rfl ?_)
      with_reducible refine goOn ?_
      refine app_own rfl _ _ _ rfl intC infInt Tryz.underlying27 rfl (by decide) (by omega) intC_len intC_one (W := W3) (B := W3.heap.size) (l := []) (n := 0) (q : Int) (World.ownsRow_nil W3 W3.heap.size 3 1) (by omega) (Nat.le_refl _) rfl rfl ?_
      intro v' W4 hO4 hk4
      have hF4 : Hid (q ≤ pgs.length ∧ (pgs[q]? = some none ∨ q = pgs.length) ∧ PoI W4 P O' (newAt pgs q (chB v)) ∧ Kp O w W4 ∧ Gr O w.heap.size O') := by
        obtain ⟨h1, h2, h3, h4, h5⟩ := hF.out
        have hk4' : Kp [] W3 W4 := hk4
        exact hid ⟨h1, h2, h3.below hk4'.nil_below, h4.trans (Kp.of_below hk4'.nil_below), h5⟩
      clear hF hO4 hk4
      go_wp2
      go_roundg 0
      case measure => omega
      case rel => exact .inr ⟨q, O', rfl, rfl, hF4⟩
    · go_wp2
      go_ret2
      obtain ⟨h1, h2, h3, h4, h5⟩ := hF.out
      exact ⟨q, O', rfl, h1, h2, h3, h4, h5⟩
set_option maxHeartbeats 2000000 in
theorem cwalk_any (hp : PoI w P O pgs) {q : Nat} {v : Bs} (hq : pgs[q]? = some (some (chB v))) (hv : v.length ≤ 228) :
    Calls Tryz.prog 228 #[.pointer (some ⟨P.p, 0, none⟩), .int .i64 q] w fun e w' => ∃ v1, e = .returned (.tuple #[v1, .string (S v), .int .i64 0]) ∧ w'.ownsRow w.heap.size 3 1 v1 1 (rowV intC [(q : Int)]) ∧ Kp O w w' ∧ PoI w' P O pgs := by
  have HR := hid (cread_any hp hq hv)
  have HLT := hid hp.lts
  have HND := hid (fun W => need_most W)
  have hvi : (v.length : Int) ≤ 228 := by omega
  obtain ⟨i0, hi0, hz0, hz1, hz2⟩ := info_parts infU8
  clear hp hq
  go_enter Tryz.func228, Tryz.ntmps228
  go_wp2_with (go_at_call 230; (with_reducible refine (HND.out _).mono ?_); rintro e w1 ⟨rfl, rfl⟩)
  go_loopg [7, 8, 9, 16] 0 (fun gg s7 s8 s9 s16 wr => s7 = .slice none 0 0 ∧ s8 = .slice none 0 0 ∧ s9 = .int .i64 q ∧ s16 = .int .i64 0 ∧ w = wr)
  case atStart => exact ⟨rfl, rfl, rfl, rfl, rfl⟩
  case round =>
    obtain ⟨rfl, rfl, rfl, rfl, rfl⟩ := hrel
    go_wp2_with fail
    (with_reducible refine HR.out.mono ?_)
    rintro e W1 ⟨rfl, hk1, hp1⟩
    have H1 := hid (⟨hk1, hp1⟩ : Kp O w W1 ∧ PoI W1 P O pgs)
    have hs1 := hk1.size
    clear hk1 hp1
    go_wp2_with (with_reducible refine stopAt .append rfl ?_)
    with_reducible refine goOn ?_
    obtain ⟨W2, hW2⟩ : ∃ W2, W2 = W1.alloc (.cells #[.int .i64 (-1), .string (S v)] 372) := ⟨_, rfl⟩
    have hL2 : Blk W2 W1.heap.size 372 #[.int .i64 (-1), .string (S v)] := by rw [hW2]; exact Blk.new W1 _ _
    have hb2 : Below W1.heap.size W1 W2 := by rw [hW2]; exact (Below.refl _ W1).alloc (Nat.le_refl _) _
    have hs2 : W2.heap.size = W1.heap.size + 1 := by rw [hW2]; simp
    rw [← hW2, ← hs2]
    clear hW2
    refine app_own rfl _ _ _ rfl intC infInt Tryz.underlying27 rfl (by decide) (by omega) intC_len intC_one (v := .slice none 0 0) (W := W2) (B := w.heap.size) (l := []) (n := 0) (q : Int) (World.ownsRow_nil W2 w.heap.size 3 1) (by omega) (by omega) rfl rfl ?_
    intro v1 W3 hO3 hk3
    have hb3 : Below W2.heap.size W2 W3 := Kp.nil_below (show Kp [] W2 W3 from hk3)
    have hL3 := hL2.below hb3 hL2.lt
    have l1 : W3.cell? ⟨W1.heap.size, 1, none⟩ = some (.string (S v)) := hL3.cell 1
    have hs3 := hb3.size
    have hlt3 := hL3.lt
    have H3 := hid (⟨hO3, hb2.trans (hb3.mono (by omega)), hL3⟩ : W3.ownsRow w.heap.size 3 1 v1 (0 + 1) (rowV intC ([] ++ [(q : Int)])) ∧ Below W1.heap.size W1 W3 ∧ Blk W3 W1.heap.size 372 #[.int .i64 (-1), .string (S v)])
    clear hO3 hk3 hb3 hL3 hL2 hb2
    go_wp2_with (with_reducible refine stopAt .append rfl ?_)
    with_reducible refine goOn ?_
    refine wpList_append_own_string _ rfl _ _ 129 9 rfl W3.heap.size 5 i0 Tryz.underlying129 Tryz.underlying9 hi0 hz0 hz1 hz2 (.slice none 0 0) 0 [] rfl (World.ownsRow_nil W3 W3.heap.size 5 1) (S v) rfl (by rw [S_size]; unfold maxLen; omega) (by rw [S_size]; omega) (Nat.le_refl _) ?_
    intro v2 W4 hO4 hg4 _
    rw [S_size, strCells_S, List.nil_append, Nat.zero_add] at hO4
    have hcv : ∀ n, (convert 129 9 v2).run Tryz.prog (W4.drewN n) = .ok (.string (S v)) (W4.drewN n) := fun n => own_string (w := W4.drewN n) (row_of hO4 (fun _ _ => rfl))
    obtain ⟨tp2, tc2, rfl⟩ := own_slice2 hO4
    have hb4 : Below W3.heap.size W3 W4 := ⟨hg4.os, hg4.tape, hg4.output, hg4.size, fun b hb => hg4.block b hb (by intro e; cases e)⟩
    obtain ⟨hO3, hb13, hL3⟩ := H3.out
    have hL4 := hL3.below hb4 hL3.lt
    have m0 : W4.cell? ⟨W1.heap.size, 0, none⟩ = some (.int .i64 (-1)) := hL4.cell 0
    have H4 := hid (⟨row_of hO3 (fun b hb => hb4.block b (hO3.lt b hb).2), hb13.trans (hb4.mono hb13.size)⟩ : W4.ownsRow w.heap.size 3 1 v1 (0 + 1) (rowV intC ([] ++ [(q : Int)])) ∧ Below W1.heap.size W1 W4)
    have hlt4 := hL4.lt
    clear hO3 hb13 hL3 hL4 hb4 hg4 hO4 H3
    go_wp2
    go_quiet (fail)
    go_wp2
    go_ret3
    obtain ⟨h1, h2⟩ := H4.out
    obtain ⟨h3, h4⟩ := H1.out
    have h2' : Below W1.heap.size W1 (W4.drewN nq) := below_drewN h2 nq
    exact ⟨v1, rfl, row_of h1 (fun _ _ => rfl), h3.trans (Kp.of_below h2'), h4.below h2'⟩
set_option maxHeartbeats 1000000 in
theorem cget_any (hp : PoI w P O pgs) {q : Nat} {v : Bs} (hq : pgs[q]? = some (some (chB v))) (hv : v.length ≤ 228) :
    Calls Tryz.prog 207 #[.pointer (some ⟨P.p, 0, none⟩), .int .i64 q] w fun e w' => e = .returned (.tuple #[.string (S v), .int .i64 0]) ∧ Kp O w w' ∧ PoI w' P O pgs := by
  have HW := hid (cwalk_any hp hq hv)
  clear hp hq
  go_enter Tryz.func207, Tryz.ntmps207
  go_wp2_with fail
  (with_reducible refine HW.out.mono ?_)
  rintro e W1 ⟨v1, rfl, _, hk1, hp1⟩
  have H1 := hid (⟨hk1, hp1⟩ : Kp O w W1 ∧ PoI W1 P O pgs)
  clear hk1 hp1
  go_wp2
  go_ret2
  exact ⟨rfl, H1.out.1, H1.out.2⟩
set_option maxHeartbeats 2000000 in
theorem cdrop_any (hp : PoI w P O pgs) {q : Nat} {v : Bs} (hq : pgs[q]? = some (some (chB v))) (hv : v.length ≤ 228) :
    Calls Tryz.prog 197 #[.pointer (some ⟨P.p, 0, none⟩), .int .i64 q] w fun e w' => e = .returned (.int .i64 0) ∧ Kp O w w' ∧ PoI w' P O (pgs.set q none) := by
  have HW := hid (cwalk_any hp hq hv)
  have HQ := hid hq
  clear hp hq
  go_enter Tryz.func197, Tryz.ntmps197
  go_wp2_with fail
  (with_reducible refine HW.out.mono ?_)
  rintro e W1 ⟨v1, rfl, hO1, hk1, hp1⟩
  obtain ⟨g, c, rfl, hg1, hg2, hg3⟩ := own_form hO1 (by omega)
  have l0 : W1.cell? ⟨g, 0, none⟩ = some (.int .i64 q) := own_at hO1 rfl (j := 0) rfl
  have HD := hid (pi_drop hp1 HQ.out)
  have HK1 := hid hk1
  clear hO1 hk1 hp1 hg3
  go_wp2
  go_loopg [23] 1 (fun gg s23 wr => (gg = 1 ∧ s23 = .int .i64 0 ∧ W1 = wr) ∨ (s23 = .int .i64 1 ∧ Hid (Kp O W1 wr ∧ PoI wr P O (pgs.set q none))))
  case atStart => exact .inl ⟨rfl, rfl, rfl⟩
  case round =>
    rcases hrel with ⟨rfl, rfl, rfl⟩ | ⟨rfl, hF⟩
    · go_wp2_with fail
      (with_reducible refine HD.out.mono ?_)
      rintro e W2 ⟨rfl, hk2, hp2⟩
      have hF : Hid (Kp O W1 W2 ∧ PoI W2 P O (pgs.set q none)) := hid ⟨hk2, hp2⟩
      clear hk2 hp2
      go_wp2
      go_roundg 0
      case measure => omega
      case rel => exact .inr ⟨rfl, hF⟩
    · go_wp2
      go_ret
      exact ⟨rfl, HK1.out.trans hF.out.1, hF.out.2⟩
end
end Go.Proofs.YtnnghcooidjlhaaGreat
end
