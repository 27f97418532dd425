/- Parts of the proof: Kvh Kvi Kvj Kvk Kvl. -/
import Derived.Test.YtfkoaooceickiaaGreatH07
set_option linter.all false
set_option maxRecDepth 100000
namespace Go.Proofs.YtfkoaooceickiaaGreat
section
noncomputable section
namespace Kv
open Go.RowKit
variable {P : Program}
def splL {α : Type} (l : List α) (o : Nat) (vs : List α) : List α := l.take o ++ (vs ++ l.drop (o + vs.length))
theorem splL_get {α : Type} {l : List α} {o : Nat} {vs : List α} (h : o + vs.length ≤ l.length) (x : Nat) : (splL l o vs)[x]? = if x < o then l[x]? else if x < o + vs.length then vs[x - o]? else l[x]? := by
  unfold splL
  by_cases h1 : x < o
  · rw [if_pos h1, List.getElem?_append_left (by simp; omega), List.getElem?_take_of_lt h1]
  · rw [if_neg h1, List.getElem?_append_right (by simp; omega)]
    have e : (l.take o).length = o := by simp; omega
    rw [e]
    by_cases h2 : x < o + vs.length
    · rw [if_pos h2, List.getElem?_append_left (by omega)]
    · rw [if_neg h2, List.getElem?_append_right (by omega), List.getElem?_drop]
      congr 1; omega
theorem splL_length {α : Type} {l : List α} {o : Nat} {vs : List α} (h : o + vs.length ≤ l.length) : (splL l o vs).length = l.length := by
  simp [splL]; omega
theorem splC_eq (c : Array Value) (o : Nat) (vs : List Value) : (splC c o vs).toList = splL c.toList o vs := rfl
theorem spl_splL (l : List AV) (k : Nat) (m : List AV) : spl l k m = splL l k m := spl_eq l k m
def chunk {α : Type} (l : List α) (u k : Nat) : List α := (l.drop (k * u)).take u
theorem chunk_get {α : Type} (l : List α) (u k m : Nat) : (chunk l u k)[m]? = if m < u then l[k * u + m]? else none := by
  unfold chunk
  rw [List.getElem?_take]
  split
  · rw [List.getElem?_drop]
  · rfl
theorem chunk_length {α : Type} {l : List α} {u k n : Nat} (hk : k < n) (h : u * n ≤ l.length) : (chunk l u k).length = u := by
  have : (k + 1) * u ≤ n * u := Nat.mul_le_mul_right _ hk
  rw [Nat.add_mul, Nat.mul_comm n] at this
  simp [chunk]; omega
theorem chunk_spl {α : Type} {l : List α} {u i j n : Nat} {vs : List α} (hi : i < n) (hl : u * n ≤ l.length) (hj : j + vs.length ≤ u) (k : Nat) :
    chunk (splL l (i * u + j) vs) u k = if k = i then splL (chunk l u i) j vs else chunk l u k := by
  have h1 : (i + 1) * u ≤ n * u := Nat.mul_le_mul_right _ hi
  rw [Nat.add_mul, Nat.mul_comm n] at h1
  have hb : i * u + j + vs.length ≤ l.length := by omega
  apply List.ext_getElem?
  intro m
  rw [chunk_get, splL_get hb]
  by_cases e : k = i
  · subst e
    rw [if_pos rfl, splL_get (by rw [chunk_length hi hl]; exact hj), chunk_get]
    by_cases hm : m < u
    · rw [if_pos hm, if_pos hm]
      by_cases c1 : m < j
      · rw [if_pos c1, if_pos (by omega)]
      · rw [if_neg c1, if_neg (by omega)]
        by_cases c2 : m < j + vs.length
        · rw [if_pos c2, if_pos (by omega)]
          congr 1; omega
        · rw [if_neg c2, if_neg (by omega)]
    · rw [if_neg hm, if_neg hm, if_neg (by omega), if_neg (by omega)]
  · rw [if_neg e, chunk_get]
    by_cases hm : m < u
    · rw [if_pos hm, if_pos hm]
      rcases Nat.lt_or_gt_of_ne e with h | h
      · have : (k + 1) * u ≤ i * u := Nat.mul_le_mul_right _ h
        rw [Nat.add_mul] at this
        rw [if_pos (by omega)]
      · have : (i + 1) * u ≤ k * u := Nat.mul_le_mul_right _ h
        rw [Nat.add_mul] at this
        rw [if_neg (by omega), if_neg (by omega)]
    · rw [if_neg hm, if_neg hm]
theorem VRs.spl {ρ : Ren} {a b : List AV} {v w : List Value} {o : Nat} (h : VRs ρ a v) (k : VRs ρ b w) : VRs ρ (splL a o b) (splL v o w) := by
  unfold splL
  have := VRs.length _ _ k
  rw [this]
  exact (h.take o).append (k.append (h.drop _))
theorem all_sca_spl {a b : List AV} {o : Nat} (h : a.all sca = true) (k : b.all sca = true) : (splL a o b).all sca = true :=
  all_sca_app (all_sca_take o h) (all_sca_app k (all_sca_drop _ h))
theorem VR_byte_inv {ρ : Ren} {b : Nat} {v : Value} (h : VR ρ (.int 4 b) v) : v = .int .u8 (b : Nat) ∧ b < 256 := by
  obtain ⟨h1, h2, _⟩ := h
  have : toI 4 b = (b : Int) := by unfold toI; rw [if_neg (fun h => absurd h.1 (by decide))]
  rw [this] at h1
  exact ⟨h1, h2⟩
theorem VRs_bytes_inv' {ρ : Ren} : ∀ (l : List Nat) (v : List Value), VRs ρ (l.map (AV.int 4)) v → v = l.map fun b => Value.int .u8 (b : Nat)
  | [], v, h => h
  | b :: l, v, ⟨x, y, e, h1, h2⟩ => by rw [e, (VR_byte_inv h1).1, VRs_bytes_inv' l y h2]; rfl
theorem VRs_bytes_inv {ρ : Ren} {l x : Nat} {v : List Value} (h : VRs ρ (bytesL l x) v) : v = byC l x := by
  rw [bytesL_eq] at h
  exact VRs_bytes_inv' _ _ h
theorem UR.cell {ρ : Ren} {u : Nat} {a : AV} {cs : List Value} (h : UR ρ u a cs) {j : Nat} (hj : j < u) : ∃ v, cs[j]? = some v ∧ VR ρ (cellAt a j) v ∧ sca (cellAt a j) = true := by
  have hl := VRs.length _ _ h.vs
  obtain ⟨x, y, e1, e2, e3⟩ := VRs.get j h.vs (by rw [hl, h.len]; exact hj)
  have e : cellAt a j = x := by
    have h1 : ∀ b : AV, cellsL b = [b] → a = b → cellAt b j = b → cellAt a j = x := fun b hb e hc => by
      subst e
      rw [hb] at e1
      cases j with
      | zero => injection e1 with e1; rw [hc, e1]
      | succ j => cases e1
    cases a
    case agg l => show nth l j = x; rw [nth_eq]; rw [show l[j]? = some x from e1]; rfl
    case ba l z =>
      have h2 : (bytesL l z)[j]? = some x := e1
      have hlt : j < l := by
        have := (List.getElem?_eq_some_iff.1 h2).1
        rw [bytesL_eq, List.length_map, bys_length] at this
        exact this
      rw [bytesL_eq, List.getElem?_map, bys_byt hlt] at h2
      injection h2
    all_goals exact h1 _ rfl rfl rfl
  rw [e]
  exact ⟨y, e2, e3, List.all_eq_true.1 h.sc x (List.mem_of_getElem? e1)⟩
theorem cellsA_ok {l : List AV} {j c : Nat} (h : cellsA l j c (.agg l) ≠ .un) : j + c ≤ l.length ∧ cellsA l j c (.agg l) = .agg ((l.drop j).take c) := by
  unfold cellsA at h ⊢
  simp only [brec_beq, brec_ble, len_eq, tak_eq, drp_eq] at h ⊢
  by_cases h0 : j = 0
  · subst h0
    rw [if_pos rfl] at h ⊢
    by_cases h1 : c = l.length
    · rw [if_pos h1]
      subst h1
      exact ⟨by omega, by simp⟩
    · rw [if_neg h1] at h ⊢
      by_cases h2 : c ≤ l.length
      · rw [if_pos h2]; exact ⟨by omega, by simp⟩
      · rw [if_neg h2] at h; exact absurd rfl h
  · rw [if_neg h0] at h ⊢
    by_cases h2 : Nat.add j c ≤ l.length
    · rw [if_pos h2]; exact ⟨h2, rfl⟩
    · rw [if_neg h2] at h; exact absurd rfl h
theorem UR.cells {ρ : Ren} {u : Nat} {a : AV} {cs : List Value} (h : UR ρ u a cs) {j c : Nat} (hj : j < u) (hu : aggAt a j c ≠ .un) : j + c ≤ u ∧ ∃ l, aggAt a j c = .agg l ∧ VRs ρ l ((cs.drop j).take c) ∧ l.all sca = true := by
  have hl := VRs.length _ _ h.vs
  rw [h.len] at hl
  have h1 : ∀ b : AV, cellsL b = [b] → a = b → aggAt b j c = @Bool.rec (fun _ => AV) .un (.agg [b]) (Nat.beq c 1) → j + c ≤ u ∧ ∃ l, aggAt a j c = .agg l ∧ VRs ρ l ((cs.drop j).take c) ∧ l.all sca = true := fun b hb e hc => by
    subst e
    rw [hc, brec_beq] at hu ⊢
    rw [hb] at hl
    have hv := h.vs
    have hs := h.sc
    rw [hb] at hv hs
    have : 1 = u := hl
    by_cases h1 : c = 1
    · rw [if_pos h1]
      have : j = 0 := by omega
      subst this; subst h1
      refine ⟨by omega, _, rfl, ?_, hs⟩
      have := VRs.length _ _ hv
      rw [List.drop_zero, List.take_of_length_le (by rw [← this]; simp)]
      exact hv
    · rw [if_neg h1] at hu; exact absurd rfl hu
  cases a
  case agg l =>
    obtain ⟨e1, e2⟩ := cellsA_ok (l := l) (j := j) (c := c) hu
    have hl : l.length = u := hl
    refine ⟨by omega, _, e2, (h.vs.drop j).take c, all_sca_take _ (all_sca_drop _ h.sc)⟩
  case ba l x => exact absurd rfl hu
  all_goals exact h1 _ rfl rfl rfl
theorem r_isAgg {t : TypeId} {d : TypeDesc} (hd : P.underlying t = some d) (w : World) : (isAgg t).run P w = .ok (isAggD d) w := by
  unfold isAgg
  rw [rb (r_underlying hd w)]
  cases d <;> rfl
theorem r_loadVar_sc {t : TypeId} {d : TypeDesc} (hd : P.underlying t = some d) (ha : isAggD d = false) (a : Addr) (w : World) : (loadVar t a).run P w = (load a).run P w := by
  unfold loadVar
  rw [rb (r_isAgg hd w), ha]; rfl
theorem r_loadVar_ag {t : TypeId} {i : TypeInfo} {d : TypeDesc} (hi : P.info? t = some i) (hd : P.underlying t = some d) (ha : isAggD d = true) {w : World} {b : Nat} {c : Array Value} {ty : TypeId} {fr : Nat × Nat} (hb : w.heap[b]? = some (.cells c ty fr)) {o : Nat} (h : o + i.size ≤ c.size) :
    (loadVar t ⟨b, o, none⟩).run P w = .ok (.agg ((c.toList.drop o).take i.size).toArray) w := by
  unfold loadVar
  rw [rb (r_isAgg hd w), ha]
  simp only [if_true]
  rw [rb (r_sizeOf hi w)]
  rw [rb (r_loadCells hb h)]; rfl
theorem divmod (o u : Nat) : o / u * u + o % u = o := by rw [Nat.mul_comm]; exact Nat.div_add_mod o u
theorem ld_ok {t : TypeId} {i : TypeInfo} {d : TypeDesc} {ty : Ty} (F : TyF P t i d ty) {ρ : Ren} {κ b o : Nat} {blk : Blk} {ob : Obj} {w : World} (hb : w.heap[b]? = some ob) (hB : BR ρ κ blk ob) (hu : (ldC ty).f blk o ≠ .un) :
    ∃ v, (loadVar t ⟨b, o, none⟩).run P w = .ok v w ∧ VR ρ ((ldC ty).f blk o) v := by
  cases ty with
  | no => have := F.pos; exact absurd this (by simp [Ty.cells])
  | sc z =>
    have ha : isAggD d = false := F.agg
    rw [r_loadVar_sc F.hd ha]
    cases blk with
    | dead => exact absurd rfl hu
    | si l x p => exact absurd rfl hu
    | row u n tt =>
      obtain ⟨c, tid, fr, rfl, h1, h2, h3, h4, h5, h6⟩ := hB
      have e : (ldC (.sc z)).f (.row u n tt) o = if n ≤ o / u then .un else cellAt (tt.get (o / u)) (o % u) := brec_ble _ _ _ _
      rw [e] at hu ⊢
      by_cases hn : n ≤ o / u
      · rw [if_pos hn] at hu; exact absurd rfl hu
      · rw [if_neg hn]
        obtain ⟨v, e1, e2, _⟩ := (h6 (o / u) (by omega)).cell (Nat.mod_lt o h3)
        have e3 := chunk_get c.toList u (o / u) (o % u)
        rw [if_pos (Nat.mod_lt o h3), divmod] at e3
        change (chunk c.toList u (o / u))[o % u]? = some v at e1
        rw [e3] at e1
        exact ⟨v, r_load hb (by rw [← Array.getElem?_toList]; exact e1), e2⟩
    | «by» l x =>
      obtain ⟨c, tid, fr, rfl, h1, h2, h3, h4, h5⟩ := hB
      have e : (ldC (.sc z)).f (.by l x) o = if l ≤ o then .un else .int 4 (byt l x o) := brec_ble _ _ _ _
      rw [e] at hu ⊢
      by_cases hn : l ≤ o
      · rw [if_pos hn] at hu; exact absurd rfl hu
      · rw [if_neg hn]
        have hlt : o < l := by omega
        have e3 : (c.toList.take l)[o]? = (byC l x)[o]? := by rw [h5]
        rw [List.getElem?_take_of_lt hlt, byC, List.getElem?_map, bys_byt hlt] at e3
        exact ⟨_, r_load hb (by rw [← Array.getElem?_toList]; exact e3), VR_byte ρ (byt_lt l x o)⟩
  | ag k z =>
    have ha : isAggD d = true := F.agg
    have hk : i.size = k := F.size
    cases blk with
    | dead => exact absurd rfl hu
    | si l x p => exact absurd rfl hu
    | «by» l x => exact absurd rfl hu
    | row u n tt =>
      obtain ⟨c, tid, fr, rfl, h1, h2, h3, h4, h5, h6⟩ := hB
      have e : (ldC (.ag k z)).f (.row u n tt) o = if n ≤ o / u then .un else aggAt (tt.get (o / u)) (o % u) k := brec_ble _ _ _ _
      rw [e] at hu ⊢
      by_cases hn : n ≤ o / u
      · rw [if_pos hn] at hu; exact absurd rfl hu
      · rw [if_neg hn] at hu ⊢
        obtain ⟨e1, l, e2, e3, e4⟩ := (h6 (o / u) (by omega)).cells (Nat.mod_lt o h3) hu
        have hm : (o / u + 1) * u ≤ n * u := Nat.mul_le_mul_right _ (by omega)
        rw [Nat.add_mul, Nat.mul_comm n] at hm
        have hd := divmod o u
        refine ⟨_, r_loadVar_ag F.hi F.hd ha hb (by rw [hk]; omega), ?_⟩
        rw [e2, hk]
        refine ⟨_, rfl, ?_, e4⟩
        have e5 : ((chunk c.toList u (o / u)).drop (o % u)).take k = (c.toList.drop o).take k := by
          unfold chunk
          rw [List.drop_take, List.drop_drop, List.take_take, divmod, Nat.min_eq_left (by omega)]
        rw [← e5]
        exact e3
  | ba m =>
    have ha : isAggD d = true := F.agg
    have hk : i.size = m := F.size
    cases blk with
    | dead => exact absurd rfl hu
    | si l x p => exact absurd rfl hu
    | «by» l x =>
      obtain ⟨c, tid, fr, rfl, h1, h2, h3, h4, h5⟩ := hB
      have e : (ldC (.ba m)).f (.by l x) o = if o + m ≤ l then .ba m (sub l x o (o + m)) else .un := brec_ble _ _ _ _
      rw [e] at hu ⊢
      by_cases hn : o + m ≤ l
      · rw [if_pos hn]
        refine ⟨_, r_loadVar_ag F.hi F.hd ha hb (by rw [hk]; omega), _, rfl, ?_, ?_⟩
        · have e1 := bys_sub (l := l) (x := x) (i := o) (j := o + m) (by omega) hn
          rw [show o + m - o = m by omega] at e1
          unfold byC
          rw [e1, List.map_drop, List.map_take]
          change _ = ((byC l x).take (o + m)).drop o
          rw [← h5, List.take_take, Nat.min_eq_left hn, List.drop_take, show o + m - o = m by omega, hk]
        · have := sub_lt l x o (o + m)
          rwa [show o + m - o = m by omega] at this
      · rw [if_neg hn] at hu; exact absurd rfl hu
    | row u n tt =>
      obtain ⟨c, tid, fr, rfl, h1, h2, h3, h4, h5, h6⟩ := hB
      have e : (ldC (.ba m)).f (.row u n tt) o = if n ≤ o / u then .un else ldU (tt.get (o / u)) (o % u) (.ba m) := brec_ble _ _ _ _
      rw [e] at hu ⊢
      by_cases hn : n ≤ o / u
      · rw [if_pos hn] at hu; exact absurd rfl hu
      · rw [if_neg hn] at hu ⊢
        have hU := h6 (o / u) (by omega)
        generalize tt.get (o / u) = a at *
        cases a <;> first | (exact absurd rfl hu) | skip
        next l x =>
        have e : ldU (.ba l x) (o % u) (.ba m) = if o % u = 0 then (if l = m then .ba l x else .un) else .un := by
          show @Bool.rec (fun _ => AV) _ (@Bool.rec (fun _ => AV) _ _ (Nat.beq l m)) (Nat.beq (o % u) 0) = _
          rw [brec_beq, brec_beq]
        rw [e] at hu ⊢
        by_cases h0 : o % u = 0
        · rw [if_pos h0] at hu ⊢
          by_cases hlm : l = m
          · rw [if_pos hlm]
            subst hlm
            have hlu : l = u := by
              have := VRs.length _ _ hU.vs
              rw [hU.len] at this
              rw [← this]
              show l = (bytesL l x).length
              rw [bytesL_eq, List.length_map, bys_length]
            subst hlu
            have hm : (o / l + 1) * l ≤ n * l := Nat.mul_le_mul_right _ (by omega)
            rw [Nat.add_mul, Nat.mul_comm n] at hm
            have hd := divmod o l
            refine ⟨_, r_loadVar_ag F.hi F.hd ha hb (by rw [hk]; omega), _, rfl, ?_, hU.by_ l x rfl⟩
            rw [hk]
            have hv := hU.vs
            change VRs ρ (bytesL l x) _ at hv
            have e5 : (c.toList.drop (o / l * l)).take l = (c.toList.drop o).take l := by rw [show o / l * l = o by omega]
            rw [e5] at hv
            exact VRs_bytes_inv hv
          · rw [if_neg hlm] at hu; exact absurd rfl hu
        · rw [if_neg h0] at hu; exact absurd rfl hu
end Kv
end
end
section
noncomputable section
namespace Kv
open Go.RowKit
variable {P : Program}
theorem VRs_one {ρ : Ren} {l : List AV} {vs : List Value} (h : VRs ρ l vs) (hs : l.all sca = true) : ∀ x ∈ vs, oneV x = true := by
  intro x hx
  obtain ⟨n, hn⟩ := List.mem_iff_getElem?.1 hx
  have hl := VRs.length _ _ h
  obtain ⟨a, y, e1, e2, e3⟩ := VRs.get n h (by rw [hl]; exact (List.getElem?_eq_some_iff.1 hn).1)
  rw [hn] at e2
  injection e2 with e2
  rw [e2]
  exact (VR_cells e3 (List.all_eq_true.1 hs a (List.mem_of_getElem? e1))).2
theorem VR_size {ρ : Ren} {a : AV} {v : Value} (h : VR ρ a v) (ht : ∀ l, a ≠ .tup l) : VRs ρ (cellsL a) v.cells.toList ∧ v.cells.toList.length = size a ∧ (cellsL a).all sca = true ∧ (∀ l x, a = .ba l x → x < 256 ^ l) := by
  have h1 : sca a = true → VRs ρ (cellsL a) v.cells.toList ∧ v.cells.toList.length = size a ∧ (cellsL a).all sca = true ∧ (∀ l x, a = .ba l x → x < 256 ^ l) := fun hs => by
    rw [sca_cellsL hs, (VR_cells h hs).1]
    refine ⟨⟨v, [], rfl, h, rfl⟩, ?_, by simp [hs], fun l x e => by rw [e] at hs; cases hs⟩
    cases a <;> first | rfl | cases hs
  cases a
  case agg l =>
    obtain ⟨cs, rfl, k, m⟩ := h
    exact ⟨k, (VRs.length _ _ k).symm.trans (len_eq l).symm, m, (fun _ _ e => by cases e)⟩
  case ba l x =>
    obtain ⟨cs, rfl, k, m⟩ := h
    refine ⟨?_, ?_, sca_bytesL l x, (fun _ _ e => by injection e with e1 e2; subst e1; subst e2; exact m)⟩
    · show VRs ρ (bytesL l x) cs.toList
      rw [k]; exact VRs_bytesL ρ l x
    · show cs.toList.length = l
      rw [k, byC, List.length_map, bys_length]
  case tup l => exact absurd rfl (ht l)
  case un => exact h.elim
  all_goals exact h1 rfl
def stS (a : AV) (j : Nat) (v : AV) : AV :=
  match a with
  | .agg m => if j < m.length then .agg (m.set j v) else .un
  | .ba m x => (match v with | .int 4 y => .ba m (spb m x j 1 y) | _ => .un)
  | .tup _ => .un
  | .un => .un
  | _ => v
theorem stU_sca {a v : AV} (hs : sca v = true) (j : Nat) : stU a j v = stS a j v := by
  unfold stU stS
  cases v <;> first
    | (cases hs; done)
    | (cases a <;> first | rfl | (simp only; rw [brec_ble, len_eq, setn_eq]; rfl))
theorem stU_agg (m l : List AV) (j : Nat) : stU (.agg m) j (.agg l) = if l.length = m.length then (if j = 0 then .agg l else .un) else (if j + l.length ≤ m.length then .agg (splL m j l) else .un) := by
  show @Bool.rec (fun _ => AV) _ _ _ = _
  rw [brec_beq, brec_beq, brec_ble, len_eq, len_eq, spl_splL]; rfl
theorem stU_ba (m y l x j : Nat) : stU (.ba m y) j (.ba l x) = if j = 0 then (if l = m then .ba l x else .un) else .un := by
  show @Bool.rec (fun _ => AV) _ _ _ = _
  rw [brec_beq, brec_beq]
theorem splL_all {α : Type} {l vs : List α} (h : vs.length = l.length) : splL l 0 vs = vs := by
  simp [splL, h]
theorem splL_set {α : Type} {l : List α} {j : Nat} (v : α) (h : j < l.length) : splL l j [v] = l.set j v := by
  apply List.ext_getElem?
  intro x
  rw [splL_get (by simp; omega), List.getElem?_set]
  by_cases e : j = x
  · subst e
    rw [if_neg (by omega), if_pos (by simp), if_pos rfl, if_pos h]; simp
  · rw [if_neg e]
    by_cases c : x < j
    · rw [if_pos c]
    · rw [if_neg c, if_neg (by simp; omega)]
theorem stU_ok {ρ : Ren} {u : Nat} {a v : AV} {cs : List Value} {v' : Value} (h : UR ρ u a cs) (hv : VR ρ v v') {j : Nat} (hj : j < u) (hu : stU a j v ≠ .un) :
    j + v'.cells.toList.length ≤ u ∧ UR ρ u (stU a j v) (splL cs j v'.cells.toList) ∧ (∀ x ∈ v'.cells.toList, oneV x = true) := by
  have hla := VRs.length _ _ h.vs
  rw [h.len] at hla
  have ht : ∀ l, v ≠ .tup l := fun l e => by subst e; exact hu rfl
  obtain ⟨k1, k2, k3, k4⟩ := VR_size hv ht
  suffices hg : j + v'.cells.toList.length ≤ u ∧ UR ρ u (stU a j v) (splL cs j v'.cells.toList) from ⟨hg.1, hg.2, VRs_one k1 k3⟩
  have hsc : sca v = true → j + v'.cells.toList.length ≤ u ∧ UR ρ u (stU a j v) (splL cs j v'.cells.toList) := fun hs => by
    rw [stU_sca hs] at hu ⊢
    rw [(VR_cells hv hs).1]
    rw [show (#[v'] : Array Value).toList = [v'] from rfl]
    refine ⟨by simp; omega, ?_⟩
    rw [splL_set _ (by rw [h.len]; exact hj)]
    have hone : ∀ b : AV, cellsL b = [b] → a = b → stS b j v = v → UR ρ u (stS a j v) (cs.set j v') := fun b hb e hc => by
      subst e
      rw [hc]
      rw [hb] at hla
      have hu1 : 1 = u := hla
      have hj0 : j = 0 := by omega
      subst hj0
      have hcs := h.len
      rw [← hu1] at hcs ⊢
      obtain ⟨c, rfl⟩ := List.length_eq_one_iff.1 hcs
      exact UR_sca hv hs
    cases a
    case agg m =>
      have hm : m.length = u := hla
      have e : stS (.agg m) j v = .agg (m.set j v) := if_pos (by omega)
      rw [e]
      exact ⟨h.vs.set j hv, by rw [List.length_set, h.len], all_sca_set h.sc hs, (fun _ _ e => by cases e)⟩
    case ba m x =>
      have hm : m = u := by
        rw [← hla]
        show m = (bytesL m x).length
        rw [bytesL_eq, List.length_map, bys_length]
      subst hm
      have e : ∃ y, v = .int 4 y := by
        change (match v with | .int 4 y => AV.ba m (spb m x j 1 y) | _ => AV.un) ≠ .un at hu
        split at hu
        · next y => exact ⟨y, rfl⟩
        · exact absurd rfl hu
      obtain ⟨y, rfl⟩ := e
      obtain ⟨e1, e2⟩ := VR_byte_inv hv
      subst e1
      have hc := VRs_bytes_inv h.vs
      subst hc
      have e : stS (.ba m x) j (.int 4 y) = .ba m (spb m x j 1 y) := rfl
      rw [e]
      have hy : y < 256 ^ 1 := by rw [Nat.pow_one]; exact e2
      have h1 := bys_spb (l := m) (x := x) (i := j) (m := 1) (y := y) (by omega) hy
      have h2 : (byC m x).set j (.int .u8 (y : Nat)) = byC m (spb m x j 1 y) := by
        unfold byC
        rw [h1, ← splL_set _ (by simp [bys_length]; omega)]
        unfold splL
        simp only [List.map_append, List.map_take, List.map_drop, List.length_cons, List.length_nil]
        congr 2
        simp [bys, Nat.mod_eq_of_lt e2]
      rw [h2]
      exact UR_ba (spb_lt (by omega) hy)
    case tup l => exact absurd rfl hu
    case un => exact absurd rfl hu
    all_goals exact hone _ rfl rfl rfl
  cases v
  case agg l =>
    cases a
    case agg m =>
      have hm : m.length = u := hla
      obtain ⟨cs', rfl, kk, _⟩ := hv
      have hlen := VRs.length _ _ kk
      rw [stU_agg] at hu ⊢
      show j + cs'.toList.length ≤ u ∧ UR ρ u _ (splL cs j cs'.toList)
      by_cases c1 : l.length = m.length
      · rw [if_pos c1] at hu ⊢
        by_cases c2 : j = 0
        · rw [if_pos c2]
          subst c2
          refine ⟨by omega, ?_⟩
          rw [splL_all (by rw [h.len]; omega)]
          have := UR_agg kk k3
          rwa [show l.length = u by omega] at this
        · rw [if_neg c2] at hu; exact absurd rfl hu
      · rw [if_neg c1] at hu ⊢
        by_cases c2 : j + l.length ≤ m.length
        · rw [if_pos c2]
          refine ⟨by omega, ?_⟩
          have h3 : (splL m j l).all sca = true := all_sca_spl h.sc k3
          have h4 := UR_agg (h.vs.spl (o := j) kk) h3
          change UR ρ (splL m j l).length (.agg (splL m j l)) _ at h4
          rwa [splL_length c2, hm] at h4
        · rw [if_neg c2] at hu; exact absurd rfl hu
    all_goals exact absurd rfl hu
  case ba l x =>
    cases a
    case ba m y =>
      obtain ⟨cs', rfl, kk, kx⟩ := hv
      rw [stU_ba] at hu ⊢
      show j + cs'.toList.length ≤ u ∧ UR ρ u _ (splL cs j cs'.toList)
      have hm : m = u := by
        rw [← hla]
        show m = (bytesL m y).length
        rw [bytesL_eq, List.length_map, bys_length]
      by_cases c1 : j = 0
      · rw [if_pos c1] at hu ⊢
        by_cases c2 : l = m
        · rw [if_pos c2]
          have hl : cs'.toList.length = l := by rw [kk, byC, List.length_map, bys_length]
          subst c1
          refine ⟨by omega, ?_⟩
          rw [splL_all (by rw [h.len]; omega), kk, ← hm, ← c2]
          exact UR_ba kx
        · rw [if_neg c2] at hu; exact absurd rfl hu
      · rw [if_neg c1] at hu; exact absurd rfl hu
    all_goals exact absurd rfl hu
  case tup l => exact absurd rfl (ht l)
  case un => exact hv.elim
  all_goals exact hsc rfl
end Kv
end
end
section
noncomputable section
namespace Kv
open Go.RowKit
variable {P : Program}
theorem byC_length (l x : Nat) : (byC l x).length = l := by rw [byC, List.length_map, bys_length]
theorem by_spl {ρ : Ren} {κ l x o m y : Nat} {c : Array Value} {tid : TypeId} {fr : Nat × Nat} (hB : BR ρ κ (.by l x) (.cells c tid fr)) (h : o + m ≤ l) (hy : y < 256 ^ m) :
    BR ρ κ (.by l (spb l x o m y)) (.cells (splC c o (byC m y)) tid fr) := by
  obtain ⟨c', tid', fr', e, h1, h2, h3, h4, h5⟩ := hB
  injection e with e1 e2 e3
  subst e1; subst e2; subst e3
  refine ⟨_, _, _, rfl, ?_, h2, h3, spb_lt h hy, ?_⟩
  · rw [splC_size (by rw [byC_length]; omega), h1]
  · have hs : byC l (spb l x o m y) = splL (byC l x) o (byC m y) := by
      unfold byC splL
      rw [bys_spb h hy]
      simp only [List.map_append, List.map_take, List.map_drop, List.length_map, bys_length]
    rw [hs, ← h5, splC_eq]
    apply List.ext_getElem?
    intro i
    have hcl : c.toList.length = κ := by rw [Array.length_toList, h1]
    rw [List.getElem?_take, splL_get (by rw [byC_length]; omega), splL_get (by rw [byC_length, List.length_take]; omega), byC_length]
    by_cases hi : i < l
    · rw [if_pos hi, List.getElem?_take_of_lt hi]
    · rw [if_neg hi, if_neg (by omega), if_neg (by omega), List.getElem?_take, if_neg hi]
theorem row_spl {ρ : Ren} {κ u n i j : Nat} {t : RT AV} {a : AV} {vs : List Value} {c : Array Value} {tid : TypeId} {fr : Nat × Nat} (hB : BR ρ κ (.row u n t) (.cells c tid fr)) (hi : i < n) (hj : j + vs.length ≤ u)
    (ha : UR ρ u a (splL (chunk c.toList u i) j vs)) : BR ρ κ (.row u n (t.set i a)) (.cells (splC c (i * u + j) vs) tid fr) := by
  obtain ⟨c', tid', fr', e, h1, h2, h3, h4, ⟨s, h5, h5'⟩, h6⟩ := hB
  injection e with e1 e2 e3
  subst e1; subst e2; subst e3
  have hcl : c.toList.length = κ := by rw [Array.length_toList, h1]
  have hm : (i + 1) * u ≤ n * u := Nat.mul_le_mul_right _ hi
  rw [Nat.add_mul, Nat.mul_comm n] at hm
  refine ⟨_, _, _, rfl, ?_, h2, h3, h4, ⟨s, RT.wf_set _ _ _ _ h5, h5'⟩, fun k hk => ?_⟩
  · rw [splC_size (by omega), h1]
  · have e := chunk_spl (l := c.toList) (vs := vs) hi (by rw [hcl]; exact h4) hj k
    change UR ρ u _ (chunk _ u k)
    rw [splC_eq, e, RT.get_set _ _ _ _ _ h5 (by omega) (by omega)]
    by_cases ek : k = i
    · rw [if_pos ek, if_pos ek]; exact ha
    · rw [if_neg ek, if_neg ek]; exact h6 k hk
theorem st_row (u n : Nat) (t : RT AV) (o : Nat) (v : AV) : (st (.row u n t) o v = .dead) ∨ (o / u < n ∧ stU (t.get (o / u)) (o % u) v ≠ .un ∧ st (.row u n t) o v = .row u n (t.set (o / u) (stU (t.get (o / u)) (o % u) v))) := by
  have e : st (.row u n t) o v = if n ≤ o / u then .dead else (match stU (t.get (o / u)) (o % u) v with | .un => .dead | w => .row u n (t.set (o / u) w)) := brec_ble _ _ _ _
  rw [e]
  by_cases h : n ≤ o / u
  · rw [if_pos h]; exact .inl rfl
  · rw [if_neg h]
    generalize stU (t.get (o / u)) (o % u) v = a
    cases a
    case un => exact .inl rfl
    all_goals exact .inr ⟨by omega, (fun e => by cases e), rfl⟩
theorem st_by_int (l x o c y : Nat) : st (.by l x) o (.int c y) = if c = 4 then (if l ≤ o then .dead else .by l (spb l x o 1 y)) else .dead := by
  by_cases h : c = 4
  · subst h
    rw [if_pos rfl]
    exact brec_ble _ _ _ _
  · rw [if_neg h]
    unfold st
    simp only
    split
    · next e => injection e with e1 e2; exact absurd e1 h
    · next e => cases e
    · rfl
theorem st_by_ba (l x o m y : Nat) : st (.by l x) o (.ba m y) = if o + m ≤ l then .by l (spb l x o m y) else .dead := brec_ble _ _ _ _
theorem st_ok {ρ : Ren} {κ o : Nat} {blk : Blk} {ob : Obj} {v : AV} {v' : Value} (hB : BR ρ κ blk ob) (hv : VR ρ v v') (hd : st blk o v ≠ .dead) :
    ∃ c tid fr, ob = .cells c tid fr ∧ c.size = κ ∧ NF fr κ ∧ o + v'.cells.toList.length ≤ κ ∧ (∀ x ∈ v'.cells.toList, oneV x = true) ∧ BR ρ κ (st blk o v) (.cells (splC c o v'.cells.toList) tid fr) ∧ (∀ l, v ≠ .tup l) := by
  cases blk with
  | dead => exact absurd rfl hd
  | si l x p => exact absurd rfl hd
  | row u n t =>
    rcases st_row u n t o v with h | ⟨h1, h2, h3⟩
    · exact absurd h hd
    · obtain ⟨c, tid, fr, rfl, k1, k2, k3, k4, k5, k6⟩ := id hB
      obtain ⟨g1, g2, g3⟩ := stU_ok (k6 (o / u) h1) hv (Nat.mod_lt o k3) h2
      have hm : (o / u + 1) * u ≤ n * u := Nat.mul_le_mul_right _ h1
      rw [Nat.add_mul, Nat.mul_comm n] at hm
      have hdm := divmod o u
      refine ⟨c, tid, fr, rfl, k1, k2.nf, by omega, g3, ?_, fun l e => h2 (by rw [e]; rfl)⟩
      rw [h3]
      have := row_spl (vs := v'.cells.toList) hB h1 g1 g2
      rwa [hdm] at this
  | «by» l x =>
    obtain ⟨c, tid, fr, rfl, k1, k2, k3, k4, k5⟩ := id hB
    cases v
    case int cc y =>
      rw [st_by_int] at hd ⊢
      by_cases h4 : cc = 4
      · subst h4
        rw [if_pos rfl] at hd ⊢
        by_cases h5 : l ≤ o
        · rw [if_pos h5] at hd; exact absurd rfl hd
        · rw [if_neg h5]
          obtain ⟨rfl, e2⟩ := VR_byte_inv hv
          refine ⟨c, tid, fr, rfl, k1, k2, by show o + 1 ≤ κ; omega, ?_, ?_, (fun l e => by cases e)⟩
          · intro z hz
            have : z = .int .u8 (y : Nat) := by simpa [Value.cells] using hz
            rw [this]; rfl
          · have := by_spl (o := o) (m := 1) (y := y) hB (by omega) (by rw [Nat.pow_one]; exact e2)
            have e : byC 1 y = (Value.cells (.int .u8 (y : Nat))).toList := by
              simp [byC, bys, Value.cells, Nat.mod_eq_of_lt e2]
            rwa [e] at this
      · rw [if_neg h4] at hd; exact absurd rfl hd
    case ba m y =>
      rw [st_by_ba] at hd ⊢
      by_cases h5 : o + m ≤ l
      · rw [if_pos h5]
        obtain ⟨cs, rfl, e2, e3⟩ := hv
        have := by_spl (o := o) (m := m) (y := y) hB h5 e3
        rw [← e2] at this
        refine ⟨c, tid, fr, rfl, k1, k2, ?_, ?_, this, (fun l e => by cases e)⟩
        · show o + cs.toList.length ≤ κ
          rw [e2, byC_length]; omega
        · exact VRs_one (ρ := ρ) (l := bytesL m y) (by show VRs ρ _ cs.toList; rw [e2]; exact VRs_bytesL ρ m y) (sca_bytesL m y)
      · rw [if_neg h5] at hd; exact absurd rfl hd
    all_goals exact absurd rfl hd
theorem boxB_ok {t : TypeId} {i : TypeInfo} {d : TypeDesc} {ty : Ty} (F : TyF P t i d ty) {ρ : Ren} {v : AV} {v' : Value} (hv : VR ρ v v') (hd : boxB ty v ≠ .dead) (tid : TypeId) :
    BR ρ v'.cells.size (boxB ty v) (.cells v'.cells tid (0, 0)) := by
  have hNF : NF (0, 0) v'.cells.size := fun o _ => by simp
  have hrow : ∀ u, UR ρ u v v'.cells.toList → 0 < u → BR ρ v'.cells.size (.row u 1 (.l v)) (.cells v'.cells tid (0, 0)) := fun u hU hp => by
    have hl := hU.len
    rw [Array.length_toList] at hl
    refine ⟨_, _, _, rfl, rfl, rfl, hp, by omega, ⟨1, rfl, by omega⟩, fun k hk => ?_⟩
    have : k = 0 := by omega
    subst this
    rw [Nat.zero_mul, List.drop_zero, List.take_of_length_le (by rw [Array.length_toList]; omega)]
    exact hU
  cases ty with
  | no => exact absurd rfl hd
  | sc z =>
    have e : boxB (.sc z) v = if sca v = true then .row 1 1 (.l v) else .dead := brec _ _ _
    rw [e] at hd ⊢
    by_cases h : sca v = true
    · rw [if_pos h]
      refine hrow 1 ?_ (by omega)
      rw [(VR_cells hv h).1]
      exact UR_sca hv h
    · rw [if_neg h] at hd; exact absurd rfl hd
  | ag n z =>
    cases v
    case agg l =>
      have e : boxB (.ag n z) (.agg l) = if len l = n then .row n 1 (.l (.agg l)) else .dead := brec_beq _ _ _ _
      rw [e] at hd ⊢
      by_cases h : len l = n
      · rw [if_pos h]
        obtain ⟨cs, rfl, e2, e3⟩ := hv
        refine hrow n ?_ F.pos
        have := UR_agg e2 e3
        rw [len_eq] at h
        rwa [h] at this
      · rw [if_neg h] at hd; exact absurd rfl hd
    all_goals exact absurd rfl hd
  | ba n =>
    cases v
    case ba l x =>
      have e : boxB (.ba n) (.ba l x) = if l = n then .by l x else .dead := brec_beq _ _ _ _
      rw [e] at hd ⊢
      by_cases h : l = n
      · rw [if_pos h]
        obtain ⟨cs, rfl, e2, e3⟩ := hv
        refine ⟨_, _, _, rfl, rfl, hNF, ?_, e3, ?_⟩
        · show l ≤ cs.size
          rw [← Array.length_toList, e2, byC_length]; exact Nat.le_refl l
        · show cs.toList.take l = byC l x
          rw [e2, List.take_of_length_le (by rw [byC_length]; exact Nat.le_refl l)]
      · rw [if_neg h] at hd; exact absurd rfl hd
    all_goals exact absurd rfl hd
end Kv
end
end
section
noncomputable section
namespace Kv
open Go.RowKit
variable {P : Program}
theorem c8 {c : Nat} (h : c < 8) : c = 0 ∨ c = 1 ∨ c = 2 ∨ c = 3 ∨ c = 4 ∨ c = 5 ∨ c = 6 ∨ c = 7 := by omega
def bitsN (c : Nat) : Nat := Nat.shiftLeft 8 (Nat.land c 3)
theorem bits_eq {c : Nat} (h : c < 8) : (kindOf c).bits = bitsN c := by rcases c8 h with rfl | rfl | rfl | rfl | rfl | rfl | rfl | rfl <;> rfl
theorem signed_eq {c : Nat} (h : c < 8) : (kindOf c).signed = sgnN c := by rcases c8 h with rfl | rfl | rfl | rfl | rfl | rfl | rfl | rfl <;> rfl
theorem mdN_eq (c : Nat) : mdN c = 2 ^ bitsN c := rfl
theorem toI_emod {c x : Nat} : toI c x % (mdN c : Int) = (x : Int) % mdN c := by
  unfold toI
  split
  · rw [Int.sub_emod_right]
  · rfl
theorem toI_range {c x : Nat} (hx : x < mdN c) : (sgnN c = true ∧ hfN c ≤ x ∧ toI c x = (x : Int) - mdN c) ∨ (toI c x = x ∧ (sgnN c = true → x < hfN c)) := by
  unfold toI
  split
  · next h => exact .inl ⟨h.1, h.2, rfl⟩
  · next h => exact .inr ⟨rfl, fun h1 => Nat.lt_of_not_le fun h2 => h ⟨h1, h2⟩⟩
theorem wrap_toI {c : Nat} (hc : c < 8) (n : Int) : (kindOf c).wrap n = toI c (n % (mdN c : Int)).toNat := by
  have hp : (0 : Int) < mdN c := by have := mdN_pos c; omega
  have h0 := Int.emod_nonneg n (show (mdN c : Int) ≠ 0 by omega)
  have hh := hfN_le c
  unfold IntKind.wrap toI
  simp only [bits_eq hc, signed_eq hc]
  have e : ((2 : Int) ^ bitsN c) = mdN c := by rw [mdN_eq]; simp
  rw [e]
  have e2 : sgnN c = true → ((2 : Int) ^ (bitsN c - 1)) = hfN c := fun hs => by
    have : hfN c = 2 ^ (bitsN c - 1) := by unfold hfN; rw [hs]; rfl
    rw [this]; simp
  by_cases hs : sgnN c = true
  · rw [e2 hs, hs]
    simp only [Bool.true_and, ge_iff_le, decide_eq_true_eq, true_and]
    by_cases h1 : (hfN c : Int) ≤ n % (mdN c : Int)
    · rw [if_pos h1, if_pos (by omega), Int.toNat_of_nonneg h0]
    · rw [if_neg h1, if_neg (by omega), Int.toNat_of_nonneg h0]
  · rw [if_neg (by simp [hs]), if_neg (by simp [hs]), Int.toNat_of_nonneg h0]
theorem wrap_of {c : Nat} (hc : c < 8) {n : Int} {x : Nat} (hx : x < mdN c) (h : n % (mdN c : Int) = x) : (kindOf c).wrap n = toI c x := by
  rw [wrap_toI hc, h]; rfl
structure IR (c x : Nat) (v : Value) : Prop where
  v : v = .int (kindOf c) (toI c x)
  lt : x < mdN c
  c : c < 8
theorem VR_int {ρ : Ren} {c x : Nat} {v : Value} : VR ρ (.int c x) v ↔ IR c x v := ⟨fun h => ⟨h.1, h.2.1, h.2.2⟩, fun h => ⟨h.v, h.lt, h.c⟩⟩
theorem kindOf_inj {c j : Nat} (hc : c < 8) (hj : j < 8) : kindOf c = kindOf j ↔ c = j := by
  constructor
  · intro h
    rcases c8 hc with rfl | rfl | rfl | rfl | rfl | rfl | rfl | rfl <;> rcases c8 hj with rfl | rfl | rfl | rfl | rfl | rfl | rfl | rfl <;> first | rfl | cases h
  · intro h; rw [h]
theorem natmod (x m : Nat) : ((x % m : Nat) : Int) = (x : Int) % m := Int.natCast_emod x m
def ArI (ρ : Ren) (op : BinOp) (c : Nat) (a b : Int) (r : AV) : Prop := ∀ (w : World), ∃ v, (binOp op 0 (.int (kindOf c) a) (.int (kindOf c) b)).run P w = .ok v w ∧ VR ρ r v
section
variable {ρ : Ren} {c x y : Nat}
theorem ar_add (hc : c < 8) (hx : x < mdN c) (hy : y < mdN c) (t : TypeId) (w : World) : ∃ v, (binOp .add t (.int (kindOf c) (toI c x)) (.int (kindOf c) (toI c y))).run P w = .ok v w ∧ VR ρ (.int c (Nat.mod (Nat.add x y) (mdN c))) v := by
  refine ⟨.int (kindOf c) ((kindOf c).wrap (toI c x + toI c y)), by simp only [binOp, Op.intArith, ne_eq, not_true_eq_false, if_false]; rfl, ?_⟩
  refine VR_int.2 ⟨?_, Nat.mod_lt _ (mdN_pos c), hc⟩
  congr 1
  refine wrap_of hc (Nat.mod_lt _ (mdN_pos c)) ?_
  show _ = (((x + y) % mdN c : Nat) : Int)
  rw [natmod, Int.add_emod, toI_emod, toI_emod, ← Int.add_emod]; simp
theorem ar_sub (hc : c < 8) (hx : x < mdN c) (hy : y < mdN c) (t : TypeId) (w : World) : ∃ v, (binOp .sub t (.int (kindOf c) (toI c x)) (.int (kindOf c) (toI c y))).run P w = .ok v w ∧ VR ρ (.int c (Nat.mod (Nat.add x (Nat.sub (mdN c) y)) (mdN c))) v := by
  refine ⟨.int (kindOf c) ((kindOf c).wrap (toI c x - toI c y)), by simp only [binOp, Op.intArith, ne_eq, not_true_eq_false, if_false]; rfl, ?_⟩
  refine VR_int.2 ⟨?_, Nat.mod_lt _ (mdN_pos c), hc⟩
  congr 1
  refine wrap_of hc (Nat.mod_lt _ (mdN_pos c)) ?_
  show _ = (((x + (mdN c - y)) % mdN c : Nat) : Int)
  rw [natmod, Int.sub_emod, toI_emod, toI_emod, ← Int.sub_emod]
  have : ((x + (mdN c - y) : Nat) : Int) = (x : Int) - y + mdN c := by omega
  rw [this, Int.add_emod_right]
theorem ar_mul (hc : c < 8) (hx : x < mdN c) (hy : y < mdN c) (t : TypeId) (w : World) : ∃ v, (binOp .mul t (.int (kindOf c) (toI c x)) (.int (kindOf c) (toI c y))).run P w = .ok v w ∧ VR ρ (.int c (Nat.mod (Nat.mul x y) (mdN c))) v := by
  refine ⟨.int (kindOf c) ((kindOf c).wrap (toI c x * toI c y)), by simp only [binOp, Op.intArith, ne_eq, not_true_eq_false, if_false]; rfl, ?_⟩
  refine VR_int.2 ⟨?_, Nat.mod_lt _ (mdN_pos c), hc⟩
  congr 1
  refine wrap_of hc (Nat.mod_lt _ (mdN_pos c)) ?_
  show _ = (((x * y) % mdN c : Nat) : Int)
  rw [natmod, Int.mul_emod, toI_emod, toI_emod, ← Int.mul_emod]; simp
theorem ofInt_toI (hc : c < 8) (hx : x < mdN c) : BitVec.ofInt (kindOf c).bits (toI c x) = BitVec.ofNat (kindOf c).bits x := by
  apply BitVec.eq_of_toNat_eq
  rw [BitVec.toNat_ofInt, BitVec.toNat_ofNat, bits_eq hc, ← mdN_eq, toI_emod, ← natmod]; rfl
theorem ofNat_toNat (hc : c < 8) (hx : x < mdN c) : (BitVec.ofNat (kindOf c).bits x).toNat = x := by
  rw [BitVec.toNat_ofNat, bits_eq hc, ← mdN_eq, Nat.mod_eq_of_lt hx]
theorem wrap_nat (hc : c < 8) {z : Nat} (hz : z < mdN c) : (kindOf c).wrap (z : Nat) = toI c z := wrap_of hc hz (by rw [← natmod, Nat.mod_eq_of_lt hz])
theorem bit_lt (hc : c < 8) (b : BitVec (kindOf c).bits) : b.toNat < mdN c := by
  have h := b.isLt
  have e : 2 ^ (kindOf c).bits = mdN c := by rw [bits_eq hc, mdN_eq]
  omega
theorem ar_bits (op : BinOp) (hc : c < 8) (hx : x < mdN c) (hy : y < mdN c) (z : Nat) (t : TypeId) (w : World)
    (hop : (op = .and ∧ z = x &&& y) ∨ (op = .or ∧ z = x ||| y) ∨ (op = .xor ∧ z = x ^^^ y) ∨ (op = .andNot ∧ z = x ^^^ (x &&& y))) : ∃ v, (binOp op t (.int (kindOf c) (toI c x)) (.int (kindOf c) (toI c y))).run P w = .ok v w ∧ VR ρ (.int c z) v := by
  have key : ∀ b : BitVec (kindOf c).bits, b.toNat = z → VR ρ (.int c z) (.int (kindOf c) ((kindOf c).wrap b.toNat)) := fun b hb => by
    have h1 := bit_lt hc b
    rw [hb] at h1 ⊢
    exact VR_int.2 ⟨by rw [wrap_nat hc h1], h1, hc⟩
  rcases hop with ⟨rfl, rfl⟩ | ⟨rfl, rfl⟩ | ⟨rfl, rfl⟩ | ⟨rfl, rfl⟩
  · exact ⟨_, by simp only [binOp, Op.intBits, ne_eq, not_true_eq_false, if_false]; rfl, key (BitVec.ofInt _ (toI c x) &&& BitVec.ofInt _ (toI c y)) (by rw [ofInt_toI hc hx, ofInt_toI hc hy, BitVec.toNat_and, ofNat_toNat hc hx, ofNat_toNat hc hy])⟩
  · exact ⟨_, by simp only [binOp, Op.intBits, ne_eq, not_true_eq_false, if_false]; rfl, key (BitVec.ofInt _ (toI c x) ||| BitVec.ofInt _ (toI c y)) (by rw [ofInt_toI hc hx, ofInt_toI hc hy, BitVec.toNat_or, ofNat_toNat hc hx, ofNat_toNat hc hy])⟩
  · exact ⟨_, by simp only [binOp, Op.intBits, ne_eq, not_true_eq_false, if_false]; rfl, key (BitVec.ofInt _ (toI c x) ^^^ BitVec.ofInt _ (toI c y)) (by rw [ofInt_toI hc hx, ofInt_toI hc hy, BitVec.toNat_xor, ofNat_toNat hc hx, ofNat_toNat hc hy])⟩
  · refine ⟨_, by simp only [binOp, Op.intBits, ne_eq, not_true_eq_false, if_false]; rfl, key (BitVec.ofInt _ (toI c x) &&& ~~~ BitVec.ofInt _ (toI c y)) ?_⟩
    have e : ∀ a b : BitVec (kindOf c).bits, a &&& ~~~ b = a ^^^ (a &&& b) := fun a b => by
      apply BitVec.eq_of_getLsbD_eq
      intro i hi
      simp only [BitVec.getLsbD_and, BitVec.getLsbD_not, BitVec.getLsbD_xor, hi, decide_true, Bool.true_and]
      cases a.getLsbD i <;> cases b.getLsbD i <;> rfl
    rw [e, ofInt_toI hc hx, ofInt_toI hc hy, BitVec.toNat_xor, BitVec.toNat_and, ofNat_toNat hc hx, ofNat_toNat hc hy]
theorem toI_inj (hx : x < mdN c) (hy : y < mdN c) : toI c x = toI c y ↔ x = y := by
  constructor
  · intro h
    have := congrArg (· % (mdN c : Int)) h
    simp only [toI_emod] at this
    rw [← natmod, ← natmod, Nat.mod_eq_of_lt hx, Nat.mod_eq_of_lt hy] at this
    omega
  · intro h; rw [h]
def ordN (c x : Nat) : Nat := if sgnN c = true then (x + hfN c) % mdN c else x
theorem ordN_lt (hx : x < mdN c) (hy : y < mdN c) : toI c x < toI c y ↔ ordN c x < ordN c y := by
  have hh := hfN_le c
  unfold ordN
  rcases toI_range hx with ⟨s1, h1, e1⟩ | ⟨e1, h1⟩ <;> rcases toI_range hy with ⟨s2, h2, e2⟩ | ⟨e2, h2⟩ <;> rw [e1, e2]
  · rw [if_pos s1] at hh ⊢
    rw [if_pos s1, Nat.mod_eq_sub_mod (by omega), Nat.mod_eq_of_lt (by omega), Nat.mod_eq_sub_mod (show mdN c ≤ y + hfN c by omega), Nat.mod_eq_of_lt (by omega)]
    omega
  · have := h2 s1
    rw [if_pos s1] at hh ⊢
    rw [if_pos s1, Nat.mod_eq_sub_mod (by omega), Nat.mod_eq_of_lt (by omega), Nat.mod_eq_of_lt (show y + hfN c < mdN c by omega)]
    omega
  · have := h1 s2
    rw [if_pos s2] at hh ⊢
    rw [if_pos s2, Nat.mod_eq_of_lt (show x + hfN c < mdN c by omega), Nat.mod_eq_sub_mod (show mdN c ≤ y + hfN c by omega), Nat.mod_eq_of_lt (by omega)]
    omega
  · by_cases hs : sgnN c = true
    · have := h1 hs
      have := h2 hs
      rw [if_pos hs] at hh ⊢
      rw [if_pos hs, Nat.mod_eq_of_lt (by omega), Nat.mod_eq_of_lt (by omega)]
      omega
    · rw [if_neg hs, if_neg hs]; omega
theorem ar_cmp (op : BinOp) (hc : c < 8) (hx : x < mdN c) (hy : y < mdN c) (b : Bool) (t : TypeId) (w : World)
    (hop : (op = .eql ∧ (b = true ↔ x = y)) ∨ (op = .neq ∧ (b = true ↔ x ≠ y)) ∨ (op = .lss ∧ (b = true ↔ ordN c x < ordN c y)) ∨ (op = .leq ∧ (b = true ↔ ordN c x ≤ ordN c y)) ∨ (op = .gtr ∧ (b = true ↔ ordN c y < ordN c x)) ∨ (op = .geq ∧ (b = true ↔ ordN c y ≤ ordN c x))) :
    ∃ v, (binOp op t (.int (kindOf c) (toI c x)) (.int (kindOf c) (toI c y))).run P w = .ok v w ∧ VR ρ (.bl b) v := by
  have hi := toI_inj hx hy
  have h1 := ordN_lt hx hy
  have h2 := ordN_lt hy hx
  refine ⟨.bool b, ?_, rfl⟩
  rcases hop with ⟨rfl, h⟩ | ⟨rfl, h⟩ | ⟨rfl, h⟩ | ⟨rfl, h⟩ | ⟨rfl, h⟩ | ⟨rfl, h⟩ <;> simp only [binOp, Op.intCmp, ne_eq, not_true_eq_false, if_false] <;> rw [rp] <;> congr 2 <;> rw [Bool.eq_iff_iff, h]
  · rw [beq_iff_eq]; exact hi
  · rw [bne_iff_ne]; exact not_congr hi
  · rw [decide_eq_true_eq]; exact h1
  · rw [decide_eq_true_eq]; omega
  · rw [decide_eq_true_eq]; exact h2
  · rw [decide_eq_true_eq]; omega
end
end Kv
end
end
section
noncomputable section
namespace Kv
open Go.RowKit
variable {P : Program}
section
variable {ρ : Ren} {c x y : Nat}
theorem toI_nat (hx : x < mdN c) (h : sgnN c = true → x < hfN c) : toI c x = x := by
  rcases toI_range hx with ⟨s1, h1, e1⟩ | ⟨e1, h1⟩
  · have := h s1; omega
  · exact e1
theorem ar_quo (hc : c < 8) (hx : x < mdN c) (hy : y < mdN c) (h0 : y ≠ 0) (h1 : sgnN c = true → x < hfN c) (h2 : sgnN c = true → y < hfN c) (t : TypeId) (w : World) :
    ∃ v, (binOp .quo t (.int (kindOf c) (toI c x)) (.int (kindOf c) (toI c y))).run P w = .ok v w ∧ VR ρ (.int c (Nat.div x y)) v := by
  have hd : x / y ≤ x := Nat.div_le_self x y
  refine ⟨.int (kindOf c) ((kindOf c).wrap ((toI c x).tdiv (toI c y))), ?_, VR_int.2 ⟨?_, Nat.lt_of_le_of_lt hd hx, hc⟩⟩
  · simp only [binOp, Op.intDiv, ne_eq, not_true_eq_false, if_false]
    rw [if_neg (by rw [toI_nat hy h2]; omega)]; rfl
  · rw [toI_nat hx h1, toI_nat hy h2]
    have : ((x : Int).tdiv (y : Int)) = ((x / y : Nat) : Int) := by rw [Int.tdiv_eq_ediv_of_nonneg (by omega)]; rfl
    rw [this, wrap_nat hc (Nat.lt_of_le_of_lt hd hx)]; rfl
theorem ar_rem (hc : c < 8) (hx : x < mdN c) (hy : y < mdN c) (h0 : y ≠ 0) (h1 : sgnN c = true → x < hfN c) (h2 : sgnN c = true → y < hfN c) (t : TypeId) (w : World) :
    ∃ v, (binOp .rem t (.int (kindOf c) (toI c x)) (.int (kindOf c) (toI c y))).run P w = .ok v w ∧ VR ρ (.int c (Nat.mod x y)) v := by
  have hd : x % y ≤ x := Nat.mod_le x y
  refine ⟨.int (kindOf c) ((toI c x).tmod (toI c y)), ?_, VR_int.2 ⟨?_, Nat.lt_of_le_of_lt hd hx, hc⟩⟩
  · simp only [binOp, Op.intDiv, ne_eq, not_true_eq_false, if_false]
    rw [if_neg (by rw [toI_nat hy h2]; omega)]; rfl
  · rw [toI_nat hx h1, toI_nat hy h2]
    have : ((x : Int).tmod (y : Int)) = ((x % y : Nat) : Int) := by rw [Int.tmod_eq_emod_of_nonneg (by omega)]; rfl
    rw [this]
    congr 1
    exact (toI_nat (Nat.lt_of_le_of_lt hd hx) (fun hs => Nat.lt_of_le_of_lt hd (h1 hs))).symm
theorem ar_shl {j : Nat} (hc : c < 8) (hx : x < mdN c) (hj : j < 8) (hy : y < mdN j) (h2 : sgnN j = true → y < hfN j) (t : TypeId) (w : World) :
    ∃ v, (binOp .shl t (.int (kindOf c) (toI c x)) (.int (kindOf j) (toI j y))).run P w = .ok v w ∧ VR ρ (.int c (Nat.mod (Nat.shiftLeft x (Nat.min y (bitsN c))) (mdN c))) v := by
  refine ⟨.int (kindOf c) ((kindOf c).wrap (toI c x * 2 ^ (min y (bitsN c)))), ?_, VR_int.2 ⟨?_, Nat.mod_lt _ (mdN_pos c), hc⟩⟩
  · simp only [binOp, Op.shift]
    rw [toI_nat hy h2, if_neg (by omega), bits_eq hc]; rfl
  · congr 1
    refine wrap_of hc (Nat.mod_lt _ (mdN_pos c)) ?_
    show _ = (((x <<< (min y (bitsN c))) % mdN c : Nat) : Int)
    rw [natmod, Nat.shiftLeft_eq, Int.mul_emod, toI_emod, ← Int.mul_emod]; simp
theorem ar_shr {j : Nat} (hc : c < 8) (hx : x < mdN c) (hj : j < 8) (hy : y < mdN j) (h2 : sgnN j = true → y < hfN j) (h1 : sgnN c = true → x < hfN c) (t : TypeId) (w : World) :
    ∃ v, (binOp .shr t (.int (kindOf c) (toI c x)) (.int (kindOf j) (toI j y))).run P w = .ok v w ∧ VR ρ (.int c (Nat.shiftRight x (Nat.min y (bitsN c)))) v := by
  have hd : x >>> (min y (bitsN c)) ≤ x := by rw [Nat.shiftRight_eq_div_pow]; exact Nat.div_le_self _ _
  refine ⟨.int (kindOf c) ((toI c x).fdiv (2 ^ (min y (bitsN c)))), ?_, VR_int.2 ⟨?_, Nat.lt_of_le_of_lt hd hx, hc⟩⟩
  · simp only [binOp, Op.shift]
    rw [toI_nat hy h2, if_neg (by omega), bits_eq hc]; rfl
  · congr 1
    rw [toI_nat hx h1]
    have : toI c (Nat.shiftRight x (Nat.min y (bitsN c))) = ((x >>> (min y (bitsN c)) : Nat) : Int) := toI_nat (Nat.lt_of_le_of_lt hd hx) (fun hs => Nat.lt_of_le_of_lt hd (h1 hs))
    rw [this, Nat.shiftRight_eq_div_pow, Int.fdiv_eq_ediv_of_nonneg _ (by exact_mod_cast Nat.zero_le _)]
    simp
end
theorem onInt_ne {v : AV} {φ : Nat → Nat → AV} (h : onIntA v φ ≠ .un) : ∃ c x, v = .int c x := by cases v <;> first | exact ⟨_, _, rfl⟩ | exact absurd rfl h
theorem onStr_ne {v : AV} {φ : Nat → Nat → AV} (h : onStrA v φ ≠ .un) : ∃ c x, v = .str c x := by cases v <;> first | exact ⟨_, _, rfl⟩ | exact absurd rfl h
theorem onFl_ne {v : AV} {φ : Nat → AV} (h : onFlA v φ ≠ .un) : ∃ x, v = .fl x := by cases v <;> first | exact ⟨_, rfl⟩ | exact absurd rfl h
theorem onBl_ne {v : AV} {φ : Bool → AV} (h : onBlA v φ ≠ .un) : ∃ x, v = .bl x := by cases v <;> first | exact ⟨_, rfl⟩ | exact absurd rfl h
theorem onPtr_ne {v : AV} {φ : Nat → Nat → AV} (h : onPtrA v φ ≠ .un) : ∃ c x, v = .ptr c x := by cases v <;> first | exact ⟨_, _, rfl⟩ | exact absurd rfl h
theorem onAgg_ne {v : AV} {φ : List AV → AV} (h : onAggA v φ ≠ .un) : ∃ l, v = .agg l := by cases v <;> first | exact ⟨_, rfl⟩ | exact absurd rfl h
theorem onTup_ne {v : AV} {φ : List AV → AV} (h : onTupA v φ ≠ .un) : ∃ l, v = .tup l := by cases v <;> first | exact ⟨_, rfl⟩ | exact absurd rfl h
def B2 (P : Program) (ρ : Ren) (op : BinOp) (f : BC) : Prop := ∀ (t : TypeId) (a b : AV) (a' b' : Value) (w : World), VR ρ a a' → VR ρ b b' → f a b ≠ .un → ∃ v, (binOp op t a' b').run P w = .ok v w ∧ VR ρ (f a b) v
theorem ints_ok {ρ : Ren} {op : BinOp} {c : Nat} {f : Nat → Nat → AV} (h : ∀ x y, c < 8 → x < mdN c → y < mdN c → f x y ≠ .un → ∀ t w, ∃ v, (binOp op t (.int (kindOf c) (toI c x)) (.int (kindOf c) (toI c y))).run P w = .ok v w ∧ VR ρ (f x y) v) : B2 P ρ op (ints c f).f := by
  intro t a b a' b' w ha hb hu
  obtain ⟨k, x, rfl⟩ := onInt_ne hu
  have hu : onIntA b (fun j y => @Bool.rec (fun _ => AV) .un (@Bool.rec (fun _ => AV) .un (f x y) (Nat.beq j c)) (Nat.beq k c)) ≠ .un := hu
  obtain ⟨j, y, rfl⟩ := onInt_ne hu
  have e : (ints c f).f (.int k x) (.int j y) = if k = c then (if j = c then f x y else .un) else .un := by
    show @Bool.rec (fun _ => AV) .un (@Bool.rec (fun _ => AV) .un (f x y) (Nat.beq j c)) (Nat.beq k c) = _
    rw [brec_beq, brec_beq]
  have hq : (ints c f).f (.int k x) (.int j y) ≠ .un := hu
  clear hu
  rw [e] at hq ⊢
  by_cases h1 : k = c
  · rw [if_pos h1] at hq ⊢
    by_cases h2 : j = c
    · rw [if_pos h2] at hq ⊢
      subst h1; subst h2
      obtain ⟨v1, l1, c1⟩ := VR_int.1 ha
      obtain ⟨v2, l2, _⟩ := VR_int.1 hb
      subst v1; subst v2
      exact h x y c1 l1 l2 hq t w
    · rw [if_neg h2] at hq; exact absurd rfl hq
  · rw [if_neg h1] at hq; exact absurd rfl hq
theorem ordC_ok {ρ : Ren} {op : BinOp} {c : Nat} {f : Nat → Nat → AV} (h : ∀ x y, c < 8 → x < mdN c → y < mdN c → f (ordN c x) (ordN c y) ≠ .un → ∀ t w, ∃ v, (binOp op t (.int (kindOf c) (toI c x)) (.int (kindOf c) (toI c y))).run P w = .ok v w ∧ VR ρ (f (ordN c x) (ordN c y)) v) : B2 P ρ op (ordC c f).f := by
  have e : ordC c f = if sgnN c = true then ints c (fun x y => f ((x + hfN c) % mdN c) ((y + hfN c) % mdN c)) else ints c f := brec _ _ _
  unfold ordN at h
  by_cases hs : sgnN c = true
  · rw [e, if_pos hs]
    simp only [if_pos hs] at h
    exact ints_ok h
  · rw [e, if_neg hs]
    simp only [if_neg hs] at h
    exact ints_ok h
theorem divC_ok {ρ : Ren} {op : BinOp} {c : Nat} {f : Nat → Nat → Nat} (h : ∀ x y, c < 8 → x < mdN c → y < mdN c → y ≠ 0 → (sgnN c = true → x < hfN c) → (sgnN c = true → y < hfN c) → ∀ t w, ∃ v, (binOp op t (.int (kindOf c) (toI c x)) (.int (kindOf c) (toI c y))).run P w = .ok v w ∧ VR ρ (.int c (f x y)) v) : B2 P ρ op (divC c f).f := by
  refine ints_ok fun x y hc hx hy hu t w => ?_
  rw [brec_beq] at hu ⊢
  by_cases h0 : y = 0
  · rw [if_pos h0] at hu; exact absurd rfl hu
  · rw [if_neg h0, brec] at hu ⊢
    by_cases hs : sgnN c = true
    · rw [if_pos hs, brec_ble] at hu ⊢
      by_cases h1 : hfN c ≤ x
      · rw [if_pos h1] at hu; exact absurd rfl hu
      · rw [if_neg h1, brec_ble] at hu ⊢
        by_cases h2 : hfN c ≤ y
        · rw [if_pos h2] at hu; exact absurd rfl hu
        · rw [if_neg h2]
          exact h x y hc hx hy h0 (fun _ => by omega) (fun _ => by omega) t w
    · rw [if_neg hs]
      exact h x y hc hx hy h0 (fun h => absurd h hs) (fun h => absurd h hs) t w
theorem shC_ok {ρ : Ren} {op : BinOp} {c : Nat} {f : Nat → Nat → AV} (h : ∀ x y j, c < 8 → x < mdN c → j < 8 → y < mdN j → (sgnN j = true → y < hfN j) → f x (min y (bitsN c)) ≠ .un → ∀ t w, ∃ v, (binOp op t (.int (kindOf c) (toI c x)) (.int (kindOf j) (toI j y))).run P w = .ok v w ∧ VR ρ (f x (min y (bitsN c))) v) : B2 P ρ op (shC c f).f := by
  intro t a b a' b' w ha hb hu
  obtain ⟨k, x, rfl⟩ := onInt_ne hu
  have hu : onIntA b (fun j y => @Bool.rec (fun _ => AV) .un (@Bool.rec (fun _ => AV) (f x (Nat.min y (Nat.shiftLeft 8 (Nat.land c 3)))) .un (@Bool.rec (fun _ => Bool) false (Nat.ble (hfN j) y) (sgnN j))) (Nat.beq k c)) ≠ .un := hu
  obtain ⟨j, y, rfl⟩ := onInt_ne hu
  have e : (shC c f).f (.int k x) (.int j y) = if k = c then (if (if sgnN j = true then Nat.ble (hfN j) y else false) = true then .un else f x (min y (bitsN c))) else .un := by
    show @Bool.rec (fun _ => AV) .un (@Bool.rec (fun _ => AV) (f x (Nat.min y (Nat.shiftLeft 8 (Nat.land c 3)))) .un (@Bool.rec (fun _ => Bool) false (Nat.ble (hfN j) y) (sgnN j))) (Nat.beq k c) = _
    rw [brec_beq, brec, brec]; rfl
  have hq : (shC c f).f (.int k x) (.int j y) ≠ .un := hu
  clear hu
  rw [e] at hq ⊢
  by_cases h1 : k = c
  · rw [if_pos h1] at hq ⊢
    subst h1
    by_cases h2 : (if sgnN j = true then Nat.ble (hfN j) y else false) = true
    · rw [if_pos h2] at hq; exact absurd rfl hq
    · rw [if_neg h2] at hq ⊢
      obtain ⟨v1, l1, c1⟩ := VR_int.1 ha
      obtain ⟨v2, l2, c2⟩ := VR_int.1 hb
      subst v1; subst v2
      refine h x y j c1 l1 c2 l2 (fun hs => ?_) hq t w
      rw [if_pos hs, ble_iff] at h2; omega
  · rw [if_neg h1] at hq; exact absurd rfl hq
theorem not_eq' (b : Bool) : not b = !b := by cases b <;> rfl
theorem binI_ok {ρ : Ren} (op : BinOp) (c : Nat) : B2 P ρ op (binI op c).f := by
  cases op
  case add => exact ints_ok fun x y hc hx hy _ t w => ar_add hc hx hy t w
  case sub => exact ints_ok fun x y hc hx hy _ t w => ar_sub hc hx hy t w
  case mul => exact ints_ok fun x y hc hx hy _ t w => ar_mul hc hx hy t w
  case quo => exact divC_ok fun x y hc hx hy h0 h1 h2 t w => ar_quo hc hx hy h0 h1 h2 t w
  case rem => exact divC_ok fun x y hc hx hy h0 h1 h2 t w => ar_rem hc hx hy h0 h1 h2 t w
  case and => exact ints_ok fun x y hc hx hy _ t w => ar_bits .and hc hx hy _ t w (.inl ⟨rfl, rfl⟩)
  case or => exact ints_ok fun x y hc hx hy _ t w => ar_bits .or hc hx hy _ t w (.inr (.inl ⟨rfl, rfl⟩))
  case xor => exact ints_ok fun x y hc hx hy _ t w => ar_bits .xor hc hx hy _ t w (.inr (.inr (.inl ⟨rfl, rfl⟩)))
  case andNot => exact ints_ok fun x y hc hx hy _ t w => ar_bits .andNot hc hx hy _ t w (.inr (.inr (.inr ⟨rfl, rfl⟩)))
  case shl => exact shC_ok fun x y j hc hx hj hy h2 _ t w => ar_shl hc hx hj hy h2 t w
  case shr =>
    refine shC_ok fun x y j hc hx hj hy h2 hu t w => ?_
    rw [brec, brec] at hu ⊢
    by_cases h1 : (if sgnN c = true then Nat.ble (hfN c) x else false) = true
    · rw [if_pos h1] at hu; exact absurd rfl hu
    · rw [if_neg h1]
      exact ar_shr hc hx hj hy h2 (fun hs => by rw [if_pos hs, ble_iff] at h1; omega) t w
  case eql => exact ints_ok fun x y hc hx hy _ t w => ar_cmp .eql hc hx hy _ t w (.inl ⟨rfl, beq_iff x y⟩)
  case neq => exact ints_ok fun x y hc hx hy _ t w => ar_cmp .neq hc hx hy _ t w (.inr (.inl ⟨rfl, by rw [not_eq', Bool.not_eq_true', Bool.eq_false_iff, ne_eq, beq_iff]⟩))
  case lss => exact ordC_ok fun x y hc hx hy _ t w => ar_cmp .lss hc hx hy _ t w (.inr (.inr (.inl ⟨rfl, ble_iff _ _⟩)))
  case leq => exact ordC_ok fun x y hc hx hy _ t w => ar_cmp .leq hc hx hy _ t w (.inr (.inr (.inr (.inl ⟨rfl, ble_iff _ _⟩))))
  case gtr => exact ordC_ok fun x y hc hx hy _ t w => ar_cmp .gtr hc hx hy _ t w (.inr (.inr (.inr (.inr (.inl ⟨rfl, ble_iff _ _⟩)))))
  case geq => exact ordC_ok fun x y hc hx hy _ t w => ar_cmp .geq hc hx hy _ t w (.inr (.inr (.inr (.inr (.inr ⟨rfl, ble_iff _ _⟩)))))
end Kv
end
end
end Go.Proofs.YtfkoaooceickiaaGreat
