/- Parts of the proof: Kwu Kwv Kww Kwx. -/
import Derived.Test.YtfkoaooceickiaaGreatH14
set_option linter.all false
set_option maxRecDepth 100000
namespace Go.Proofs.YtfkoaooceickiaaGreat
section
noncomputable section
namespace Kv
open Go.RowKit
variable {P : Program}
section
variable {ρ : Ren} {w : World} {h : HP} {r : RG} {a : Act}
theorem put_same (l : List Nat) (a : Act) (dst : Option Tmp) (v1 v' : Value) (d1 ds : List Deferred) (e : ({ maskA l a with defers := d1 } : Act).put dst v1 = ({ maskA l a with defers := ds } : Act).put dst v') : ({ a with defers := d1 } : Act).put dst v1 = ({ a with defers := ds } : Act).put dst v' := by
  have hd : d1 = ds := by
    have := congrArg Act.defers e
    rwa [put_defers, put_defers] at this
  subst hd
  cases dst with
  | none => rfl
  | some d =>
    have ht : (maskT l a.tmps).setIfInBounds d v1 = (maskT l a.tmps).setIfInBounds d v' := congrArg Act.tmps e
    have hz : (maskT l a.tmps).size = a.tmps.size := by simp [maskT]
    show ({ tmps := a.tmps.setIfInBounds d v1, defers := d1 } : Act) = { tmps := a.tmps.setIfInBounds d v', defers := d1 }
    rcases Nat.lt_or_ge d a.tmps.size with h | h
    · have hlt : d < (maskT l a.tmps).size := by rw [hz]; exact h
      have this : ((maskT l a.tmps).setIfInBounds d v1)[d]? = ((maskT l a.tmps).setIfInBounds d v')[d]? := by rw [ht]
      rw [Array.getElem?_setIfInBounds_self_of_lt hlt, Array.getElem?_setIfInBounds_self_of_lt hlt] at this
      injection this with this
      rw [this]
    · rw [Array.setIfInBounds_eq_of_size_le h, Array.setIfInBounds_eq_of_size_le h]
theorem mask_eval {o : Oper} (hs : a.tmps.size ≤ 512) : ∀ x ∈ o.op.operands, (maskA (nsO o) a).eval x = a.eval x := fun x hx => by
  cases x with
  | tmp t =>
    have e1 : ∀ b : Act, b.eval (.tmp t) = b.tmps.getD t undef := fun b => rfl
    rw [e1, e1]
    show (maskT (nsO o) a.tmps).getD t undef = _
    rw [maskT_get]
    rcases Nat.lt_or_ge t 512 with h | h
    · rw [if_pos (show t ∈ nsO o from List.mem_filter.2 ⟨mem_opTmps hx, by simpa using h⟩)]
    · split
      · rfl
      · rw [Array.getD_eq_getD_getElem?, Array.getElem?_eq_none (by omega)]; rfl
  | const v => rfl
  | global g => rfl
  | func f => rfl
theorem erM {o : Oper} {v : AV} {h' : HP} (hsel : ∀ cs b, o.op ≠ .select cs b) (E : ER P (Idles P) o (maskR (nsO o) r) h v h') (hs : a.tmps.size ≤ 512) (hv : ∀ k ∈ nsO o, VR ρ (getR r k) (a.tmps.getD k undef)) (hr : HR ρ h w) (hI : Idles P a.defers)
    {next : Act → World → Prop} {Q : Exit → Act → World → Prop} (hn : ∀ ρ' v' w' ds, Ext ρ h w ρ' h' w' → VR ρ' v v' → Idles P ds → next (({ a with defers := ds } : Act).put o.dst v') w') : o.wp P a w next Q := by
  have h1 := E ρ (maskA (nsO o) a) w (fun a1 w1 => ∃ ρ' v' ds, Ext ρ h w ρ' h' w1 ∧ VR ρ' v v' ∧ Idles P ds ∧ a1 = ({ maskA (nsO o) a with defers := ds } : Act).put o.dst v') (fun _ _ _ => False) (mask_rr (nsO_lt o) hv) hr hI
    (fun ρ' v' w' ds x hv hI => ⟨ρ', v', ds, x, hv, hI, rfl⟩)
  have conv : ∀ v1 d1 w1, (∃ ρ' v' ds, Ext ρ h w ρ' h' w1 ∧ VR ρ' v v' ∧ Idles P ds ∧ ({ maskA (nsO o) a with defers := d1 } : Act).put o.dst v1 = ({ maskA (nsO o) a with defers := ds } : Act).put o.dst v') → next (({ a with defers := d1 } : Act).put o.dst v1) w1 := fun v1 d1 w1 hx => by
    obtain ⟨ρ', v', ds, x, k1, k2, e⟩ := hx
    rw [put_same _ a o.dst v1 v' d1 ds e]
    exact hn ρ' v' w1 ds x k1 k2
  unfold Oper.wp at h1 ⊢
  rw [execOp_congr o hsel (mask_eval hs)] at h1
  generalize (execOp a.eval o).run P w = x at h1 ⊢
  cases x with
  | halt y w' => cases y <;> exact h1.elim
  | ok n w' =>
    cases n <;> first | exact h1.elim | skip
    case value v1 => exact conv v1 a.defers w' h1
    case skip => exact conv undef a.defers w' h1
    case defer d => exact conv undef (d :: a.defers) w' h1
    case enter f args =>
      refine Calls.mono h1 fun e w'' he => ?_
      cases e with
      | returned v1 => exact conv v1 a.defers w'' he
      | panicked c => exact he.elim
      | outgrown => obtain ⟨_, _, q⟩ := he; exact q.elim
    case row f args => exact Rows.mono h1 fun v1 w'' he => conv v1 a.defers w'' he
theorem wp_ex {o : Oper} {next : Act → World → Prop} (h1 : o.wp P a w next (fun _ _ _ => False)) : ∃ a' w', next a' w' := by
  unfold Oper.wp at h1
  generalize (execOp a.eval o).run P w = x at h1
  cases x with
  | halt y w' => cases y <;> exact h1.elim
  | ok n w' =>
    cases n <;> first | exact h1.elim | skip
    case value v1 => exact ⟨_, _, h1⟩
    case skip => exact ⟨_, _, h1⟩
    case defer d => exact ⟨_, _, h1⟩
    case enter f args =>
      obtain ⟨e, w'', _, he, _⟩ := h1 []
      cases e with
      | returned v1 => exact ⟨_, _, he⟩
      | panicked c => exact he.elim
      | outgrown => obtain ⟨_, _, q⟩ := he; exact q.elim
    case row f args =>
      obtain ⟨v1, w'', he, _⟩ := h1 default []
      exact ⟨_, _, he⟩
theorem not_select {o : Oper} (h : isE o.op = true ∨ isA P o.op = true ∨ ∃ r h, (compQ P o.op).f r h ≠ .un) : ∀ cs b, o.op ≠ .select cs b := fun cs b e => by
  rcases h with h | h | ⟨r, g, h⟩
  · rw [e] at h; cases h
  · rw [e] at h; cases h
  · rw [e] at h; exact h rfl
theorem StepR.er {ops : List Oper} {o : Oper} {v : AV} {h' : HP} (s : StepR P ops o r h v h') (hw : wantsG ops o.guard r = true) : ER P (Idles P) o (maskR (nsO o) r) h v h' ∧ ∀ cs b, o.op ≠ .select cs b := by
  cases s with
  | no q => rw [hw] at q; cases q
  | q _ _ _ hu =>
    refine ⟨?_, not_select (.inr (.inr ⟨r, h, hu⟩))⟩
    have e := q_same (P := P) o.op (same_mask o r) h
    rw [e] at hu ⊢
    exact .of_q hu
  | a b v _ _ k _ A => exact ⟨.of_a A, not_select (.inr (.inl k))⟩
  | e v h' _ k E => exact ⟨E, not_select (P := P) (.inl k)⟩
theorem wants_eq {ops : List Oper} {N : Nat} (s : St P ρ N r h a w) (hd : ∀ o ∈ ops, ∀ d, o.dst = some d → d < N ∧ d < 512) (o : Oper) : wantsG ops o.guard r = Region.wanted o (yielded ops.toArray a.tmps) :=
  wants_ok s.rr (fun o ho d e => ⟨by rw [s.sz]; exact (hd o ho d e).1, (hd o ho d e).2⟩) o
theorem text_run {ops : List Oper} {Rr : Nat → RG} {H : Nat → HP} {V : Nat → AV} {N : Nat} (hN : N ≤ 512) (hd : ∀ o ∈ ops, ∀ d, o.dst = some d → d < N ∧ d < 512)
    (hs : ∀ t o, ops[t]? = some o → StepR P ops o (Rr t) (H t) (V t) (H (t + 1)) ∧ Rr (t + 1) = putR o.dst (Rr t) (V t)) (s0 : St P ρ N (Rr 0) (H 0) a w) : ∀ t, t ≤ ops.length → (∃ ρ a w, St P ρ N (Rr t) (H t) a w) ∧ (0 < t → (H (t - 1)).n ≤ (H t).n)
  | 0, _ => ⟨⟨ρ, a, w, s0⟩, fun h => absurd h (by omega)⟩
  | t + 1, ht => by
    obtain ⟨⟨ρ1, a1, w1, s1⟩, _⟩ := text_run hN hd hs s0 t (by omega)
    obtain ⟨o, ho⟩ : ∃ o, ops[t]? = some o := ⟨_, List.getElem?_eq_getElem (by omega)⟩
    obtain ⟨k1, k2⟩ := hs t o ho
    have hdo := hd o (List.mem_of_getElem? ho)
    rw [k2]
    by_cases hw : wantsG ops o.guard (Rr t) = true
    · obtain ⟨E, hsel⟩ := k1.er hw
      have hwp : o.wp P a1 w1 (fun a' w' => ∃ ρ', Ext ρ1 (H t) w1 ρ' (H (t + 1)) w' ∧ St P ρ' N (putR o.dst (Rr t) (V t)) (H (t + 1)) a' w') (fun _ _ _ => False) :=
        erM hsel E (by rw [s1.sz]; exact hN) (fun k hk => s1.rr k (nsO_lt o k hk)) s1.hr s1.df fun ρ' v' w' ds x hv hI =>
          ⟨ρ', x, RR.put (a := ({ a1 with defers := ds } : Act)) (fun k hk => (s1.rr k hk).mono x.le) hv (fun d e => ⟨by show d < a1.tmps.size; rw [s1.sz]; exact (hdo d e).1, (hdo d e).2⟩), by rw [put_size]; exact s1.sz, x.hr, by rw [put_defers]; exact hI⟩
      obtain ⟨a2, w2, ρ2, x2, s2⟩ := wp_ex hwp
      exact ⟨⟨ρ2, a2, w2, s2⟩, fun _ => x2.n⟩
    · generalize hv : V t = v at k1 ⊢
      generalize hq : H (t + 1) = h' at k1 ⊢
      cases k1 with
      | no q => exact ⟨⟨ρ1, _, w1, s1.skip hdo⟩, fun _ => by rw [Nat.add_sub_cancel]; omega⟩
      | q q _ _ _ => exact absurd q hw
      | a _ _ q _ _ _ _ => exact absurd q hw
      | e _ _ q _ _ => exact absurd q hw
theorem hs_of {ops : List Oper} {Rr : Nat → RG} {H : Nat → HP} {V : Nat → AV} {N : Nat} (hN : N ≤ 512) (hd : ∀ o ∈ ops, ∀ d, o.dst = some d → d < N ∧ d < 512)
    (hs : ∀ t o, ops[t]? = some o → StepR P ops o (Rr t) (H t) (V t) (H (t + 1)) ∧ Rr (t + 1) = putR o.dst (Rr t) (V t)) (s0 : St P ρ N (Rr 0) (H 0) a w) : HS P ops Rr H V where
  wf := fun t ht => by obtain ⟨⟨_, _, _, s⟩, _⟩ := text_run hN hd hs s0 t ht; exact s.hr.wf
  low := fun t ht => by obtain ⟨⟨_, _, _, s⟩, _⟩ := text_run hN hd hs s0 t ht; exact s.hr.low
  mono := fun t ht => by obtain ⟨_, k⟩ := text_run hN hd hs s0 (t + 1) ht; exact k (by omega)
  reg := fun t ht k hk => by obtain ⟨⟨ρ, a, w, s⟩, _⟩ := text_run hN hd hs s0 t ht; exact ⟨ρ, _, s.hr.dom, s.rr k hk⟩
  step := hs
end
end Kv
end
end
section
noncomputable section
namespace Kv
open Go.RowKit
variable {P : Program}
section
variable {ops : List Oper} {Rr : Nat → RG} {H : Nat → HP} {V : Nat → AV} {N : Nat} {L : Nat → Bool}
def mOf (ops : List Oper) (L : Nat → Bool) : Nat := ((esOf ops).filter L).length
def qOf (ops : List Oper) (L : Nat → Bool) : Nat := ((esOf ops)[mOf ops L]?).getD ops.length
theorem esOf_lt {e : Nat} (h : e ∈ esOf ops) : e < ops.length := by
  obtain ⟨o, ho, _⟩ := esOf_mem.1 h
  exact (List.getElem?_eq_some_iff.1 ho).1
theorem q_le : qOf ops L ≤ ops.length := by
  unfold qOf
  cases h : (esOf ops)[mOf ops L]? with
  | none => exact Nat.le_refl _
  | some e => exact Nat.le_of_lt (esOf_lt (List.mem_of_getElem? h))
theorem es_in (pk : PlanOK ops) (hc : Closed ops L) {i e : Nat} (he : (esOf ops)[i]? = some e) : L e = true ↔ i < mOf ops L := by
  have hf := filter_take L (esOf ops) fun i j a b h1 h2 h3 hb => hc.waits pk.back b a hb (pk.chain i j a b h1 h2 h3)
  constructor
  · intro hl
    have : e ∈ (esOf ops).filter L := List.mem_filter.2 ⟨List.mem_of_getElem? he, hl⟩
    rw [hf] at this
    obtain ⟨j, hj⟩ := List.mem_iff_getElem?.1 this
    rw [List.getElem?_take] at hj
    split at hj
    · next hjm =>
      have : i = j := by
        rcases Nat.lt_trichotomy i j with q | q | q
        · have := (es_lt he hj).1 q; omega
        · exact q
        · have := (es_lt hj he).1 q; omega
      rw [this]; exact hjm
    · cases hj
  · intro hi
    have : e ∈ (esOf ops).take (mOf ops L) := List.mem_iff_getElem?.2 ⟨i, by rw [List.getElem?_take, if_pos hi]; exact he⟩
    unfold mOf at this
    rw [← hf] at this
    exact (List.mem_filter.1 this).2
theorem eff_q (pk : PlanOK ops) (hc : Closed ops L) {e : Nat} (he : e ∈ esOf ops) : L e = true ↔ e < qOf ops L := by
  obtain ⟨i, hi⟩ := List.mem_iff_getElem?.1 he
  rw [es_in pk hc hi]
  unfold qOf
  cases h : (esOf ops)[mOf ops L]? with
  | none =>
    have h1 := List.getElem?_eq_none_iff.1 h
    have h2 := (List.getElem?_eq_some_iff.1 hi).1
    exact ⟨fun _ => esOf_lt he, fun _ => by omega⟩
  | some q => exact es_lt hi h
def more (L : Nat → Bool) (i : Nat) : Nat → Bool := fun t => if t = i then true else L t
theorem more_self (L : Nat → Bool) (i : Nat) : more L i i = true := if_pos rfl
theorem more_le {i t : Nat} (h : L t = true) : more L i t = true := by unfold more; split <;> first | rfl | exact h
theorem more_ne {i t : Nat} (h : t ≠ i) : more L i t = L t := if_neg h
theorem closed_more {i : Nat} (hc : Closed ops L) (hn : Next ops L i) : Closed ops (more L i) := fun j o ho hj e he hb => by
  by_cases hji : j = i
  · subst hji
    obtain ⟨_, o', ho', hall⟩ := hn
    rw [ho] at ho'; injection ho' with ho'; subst ho'
    exact more_le (hall e he hb)
  · rw [more_ne hji] at hj
    exact more_le (hc j o ho hj e he hb)
theorem q_more_quiet {i : Nat} (hi : i ∉ esOf ops) : qOf ops (more L i) = qOf ops L := by
  have : mOf ops (more L i) = mOf ops L := by
    unfold mOf
    congr 1
    exact List.filter_congr fun e he => more_ne fun h => hi (h ▸ he)
  unfold qOf
  rw [this]
theorem q_eff (pk : PlanOK ops) (hc : Closed ops L) {i : Nat} (hn : Next ops L i) (hi : i ∈ esOf ops) : qOf ops L = i := by
  have h1 : ¬ i < qOf ops L := fun h => by
    have := (eff_q pk hc hi).2 h
    rw [hn.1] at this; cases this
  rcases Nat.lt_or_ge (qOf ops L) i with h2 | h2
  · have hq : qOf ops L ∈ esOf ops := by
      unfold qOf at h2 ⊢
      cases h : (esOf ops)[mOf ops L]? with
      | none => rw [h] at h2; have := esOf_lt hi; simp at h2; omega
      | some q => exact List.mem_of_getElem? h
    obtain ⟨a, ha⟩ := List.mem_iff_getElem?.1 hq
    obtain ⟨b, hb⟩ := List.mem_iff_getElem?.1 hi
    have hw := pk.chain a b _ _ ha hb ((es_lt ha hb).2 h2)
    have := (eff_q pk hc hq).1 (hn.waits pk.back hc hw)
    omega
  · omega
theorem not_es {i : Nat} {o : Oper} (ho : ops[i]? = some o) (h : isE o.op = false) : i ∉ esOf ops := fun hm => by
  obtain ⟨o', ho', he⟩ := esOf_mem.1 hm
  rw [ho] at ho'; injection ho' with ho'; subst ho'
  rw [h] at he; cases he
theorem GG_same (hs : HS P ops Rr H V) {s t : Nat} (hl : s ≤ ops.length) (ht : t ≤ ops.length) (h : ∀ e ∈ esOf ops, e < s ↔ e < t) : GG ops H s = GG ops H t := by
  have key : ∀ s t, s ≤ t → t ≤ ops.length → (∀ e ∈ esOf ops, e < s ↔ e < t) → GG ops H s = GG ops H t := fun s t hst ht h => by
    have := GG_between hs (t - s) s (by omega) fun e o h1 h2 h3 => by
      cases q : isE o.op with
      | false => rfl
      | true => have := (h e (esOf_mem.2 ⟨o, h3, q⟩)).2 (by omega); omega
    rwa [show s + (t - s) = t by omega] at this
  rcases Nat.le_total s t with q | q
  · exact key s t q ht h
  · exact (key t s q hl fun e he => (h e he).symm).symm
theorem GG_next (hs : HS P ops Rr H V) (pk : PlanOK ops) (hc : Closed ops L) {i : Nat} (hn : Next ops L i) (hi : i ∈ esOf ops) : GG ops H (qOf ops (more L i)) = GG ops H (i + 1) := by
  have hq := q_eff pk hc hn hi
  refine GG_same hs q_le (esOf_lt hi) fun e he => ?_
  rw [← eff_q pk (closed_more hc hn) he]
  by_cases hei : e = i
  · subst hei; exact ⟨fun _ => by omega, fun _ => more_self _ _⟩
  · rw [more_ne hei, eff_q pk hc he, hq]; omega
theorem names_ops {o : Oper} {k : Nat} (h : k ∈ opTmps o.op) : k ∈ namesOf ops o := List.mem_append_left _ (List.mem_append_right _ h)
theorem names_dst {o : Oper} {k : Nat} (h : o.dst = some k) : k ∈ namesOf ops o := List.mem_append_left _ (List.mem_append_left _ (by rw [h]; exact List.mem_cons_self))
theorem regL_succ (t : Nat) : regL ops Rr V L (t + 1) = if L t = true then putR ((ops[t]?).bind (·.dst)) (regL ops Rr V L t) (V t) else regL ops Rr V L t := rfl
theorem dst_lt (hd : ∀ o ∈ ops, ∀ d, o.dst = some d → d < N ∧ d < 512) {t d : Nat} (h : (ops[t]?).bind (·.dst) = some d) : d < 512 := by
  obtain ⟨p, hp, h⟩ := Option.bind_eq_some_iff.1 h
  exact (hd p (List.mem_of_getElem? hp) d h).2
theorem reg_agree (hs : HS P ops Rr H V) (pk : PlanOK ops) (hd : ∀ o ∈ ops, ∀ d, o.dst = some d → d < N ∧ d < 512) (hc : Closed ops L) {i : Nat} {o : Oper} (hn : Next ops L i) (ho : ops[i]? = some o) {k : Nat} (hk : k ∈ namesOf ops o) (h5 : k < 512) :
    getR (regL ops Rr V L ops.length) k = getR (Rr i) k := by
  have hil := (List.getElem?_eq_some_iff.1 ho).1
  have low : ∀ t, t ≤ i → getR (regL ops Rr V L t) k = getR (Rr t) k := by
    intro t
    induction t with
    | zero => intro _; rfl
    | succ t ih =>
      intro ht
      have ih := ih (by omega)
      obtain ⟨p, hp⟩ : ∃ p, ops[t]? = some p := ⟨_, List.getElem?_eq_getElem (by omega)⟩
      rw [(hs.step t p hp).2, regL_succ, hp]
      simp only [Option.bind_some]
      have hdp : ∀ d, p.dst = some d → d < 512 := fun d h => (hd p (List.mem_of_getElem? hp) d h).2
      by_cases hl : L t = true
      · rw [if_pos hl]; exact putR_congr hdp h5 ih
      · rw [if_neg hl, putR_get hdp h5, if_neg fun h => ?_, ih]
        have := pk.names i o t p k ho hp h hk (by omega)
        rw [if_pos (by omega)] at this
        exact hl (hn.waits pk.back hc this)
  have high : ∀ d, i + d ≤ ops.length → getR (regL ops Rr V L (i + d)) k = getR (Rr i) k := by
    intro d
    induction d with
    | zero => intro _; exact low i (Nat.le_refl _)
    | succ d ih =>
      intro ht
      have ih := ih (by omega)
      obtain ⟨p, hp⟩ : ∃ p, ops[i + d]? = some p := ⟨_, List.getElem?_eq_getElem (by omega)⟩
      show getR (regL ops Rr V L (i + d + 1)) k = _
      rw [regL_succ, hp]
      simp only [Option.bind_some]
      by_cases hl : L (i + d) = true
      · have hne : i + d ≠ i := fun h => by rw [h, hn.1] at hl; cases hl
        rw [if_pos hl, putR_get (fun d h => (hd p (List.mem_of_getElem? hp) d h).2) h5, if_neg fun h => ?_, ih]
        have := pk.names i o (i + d) p k ho hp h hk hne
        rw [if_neg (by omega)] at this
        have := hc.waits pk.back _ _ hl this
        rw [hn.1] at this; cases this
      · rw [if_neg hl]; exact ih
  have := high (ops.length - i) (by omega)
  rwa [show i + (ops.length - i) = ops.length by omega] at this
theorem reg_more (hs : HS P ops Rr H V) (pk : PlanOK ops) (hd : ∀ o ∈ ops, ∀ d, o.dst = some d → d < N ∧ d < 512) (hc : Closed ops L) {i : Nat} {o : Oper} (hn : Next ops L i) (ho : ops[i]? = some o) {k : Nat} (h5 : k < 512) :
    getR (regL ops Rr V (more L i) ops.length) k = getR (putR o.dst (regL ops Rr V L ops.length) (V i)) k := by
  have hil := (List.getElem?_eq_some_iff.1 ho).1
  have hdo : ∀ d, o.dst = some d → d < 512 := fun d h => (hd o (List.mem_of_getElem? ho) d h).2
  have low : ∀ t, t ≤ i → regL ops Rr V (more L i) t = regL ops Rr V L t := by
    intro t
    induction t with
    | zero => intro _; rfl
    | succ t ih =>
      intro ht
      rw [regL_succ, regL_succ, more_ne (by omega), ih (by omega)]
  have high : ∀ d, i + 1 + d ≤ ops.length → getR (regL ops Rr V (more L i) (i + 1 + d)) k = getR (putR o.dst (regL ops Rr V L (i + 1 + d)) (V i)) k := by
    intro d
    induction d with
    | zero =>
      intro _
      show getR (regL ops Rr V (more L i) (i + 1)) k = getR (putR o.dst (regL ops Rr V L (i + 1)) (V i)) k
      rw [regL_succ, regL_succ, more_self, if_pos rfl, hn.1, low i (Nat.le_refl _), ho]; rfl
    | succ d ih =>
      intro ht
      have ih := ih (by omega)
      obtain ⟨p, hp⟩ : ∃ p, ops[i + 1 + d]? = some p := ⟨_, List.getElem?_eq_getElem (by omega)⟩
      have hdp : ∀ d, p.dst = some d → d < 512 := fun d h => (hd p (List.mem_of_getElem? hp) d h).2
      show getR (regL ops Rr V (more L i) (i + 1 + d + 1)) k = getR (putR o.dst (regL ops Rr V L (i + 1 + d + 1)) (V i)) k
      rw [regL_succ, regL_succ, more_ne (by omega), hp]
      simp only [Option.bind_some]
      by_cases hl : L (i + 1 + d) = true
      · rw [if_pos hl, if_pos hl, putR_get hdp h5, putR_get hdo h5, putR_get hdp h5, ih, putR_get hdo h5]
        by_cases e1 : p.dst = some k
        · by_cases e2 : o.dst = some k
          · have := pk.names i o (i + 1 + d) p k ho hp e1 (names_dst e2) (by omega)
            rw [if_neg (by omega)] at this
            have := hc.waits pk.back _ _ hl this
            rw [hn.1] at this; cases this
          · rw [if_pos e1, if_neg e2, if_pos e1]
        · rw [if_neg e1, if_neg e1]
      · rw [if_neg hl, if_neg hl]; exact ih
  have := high (ops.length - (i + 1)) (by omega)
  rwa [show i + 1 + (ops.length - (i + 1)) = ops.length by omega] at this
theorem reg_all (hs : HS P ops Rr H V) (hl : ∀ t, t < ops.length → L t = true) : ∀ t, t ≤ ops.length → regL ops Rr V L t = Rr t
  | 0, _ => rfl
  | t + 1, ht => by
    obtain ⟨p, hp⟩ : ∃ p, ops[t]? = some p := ⟨_, List.getElem?_eq_getElem (by omega)⟩
    rw [regL_succ, if_pos (hl t (by omega)), reg_all hs hl t (by omega), (hs.step t p hp).2, hp]; rfl
theorem wantsG_same {r r' : RG} {o : Oper} (h : ∀ k ∈ namesOf ops o, k < 512 → getR r k = getR r' k) : wantsG ops o.guard r = wantsG ops o.guard r' := by
  unfold wantsG wantC
  cases hg : o.guard with
  | none => rfl
  | some jb =>
    obtain ⟨j, b⟩ := jb
    simp only
    cases hj : nthO ops j with
    | none => rfl
    | some p =>
      simp only
      cases hp : p.dst with
      | none => rfl
      | some t =>
        simp only [bxrec]
        have e : (getC t).f r = (getC t).f r' := by
          rcases Nat.lt_or_ge t 512 with h1 | h1
          · refine h t (List.mem_append_right _ ?_) h1
            rw [hg]
            simp only [hj, hp]
            exact List.mem_cons_self
          · show getR r t = getR r' t
            rw [getR_out _ h1, getR_out _ h1]
        rw [e]
end
end Kv
end
end
section
noncomputable section
namespace Kv
open Go.RowKit
variable {P : Program}
section
variable {ops : List Oper} {Rr : Nat → RG} {H : Nat → HP} {V : Nat → AV} {N : Nat} {L : Nat → Bool} {lkf : List Lk}
structure Inv (P : Program) (ops : List Oper) (Rr : Nat → RG) (H : Nat → HP) (V : Nat → AV) (N : Nat) (ρ0 : Ren) (w0 : World) (L : Nat → Bool) (ρ : Ren) (a : Act) (w : World) : Prop where
  hr : HR ρ (GG ops H (qOf ops L)) w
  own : ∀ i p, ρ i = some p → i < (H 0).n ∨ ∃ t, t < ops.length ∧ L t = true ∧ (H t).n ≤ i ∧ i < (H (t + 1)).n
  regs : RR ρ (regL ops Rr V L ops.length) a
  sz : a.tmps.size = N
  df : Idles P a.defers
  le : RLe ρ0 ρ
  lo : ∀ i p, i < (H 0).n → ρ i = some p → ρ0 i = some p
  size : w0.heap.size ≤ w.heap.size
  frame : ∀ b, b < w0.heap.size → (∀ i κ, ρ0 i = some (b, κ) → (H 0).get i = .dead) → w.heap[b]? = w0.heap[b]?
  old : ∀ i b κ, ρ i = some (b, κ) → (GG ops H (qOf ops L)).get i ≠ .dead → b < w0.heap.size → ∃ j κ', ρ0 j = some (b, κ') ∧ (H 0).get j ≠ .dead
  os : w.os = w0.os
  out : w.output = w0.output
  tape : w.tape = w0.tape
structure Reg (P : Program) (ops : List Oper) (Rr : Nat → RG) (H : Nat → HP) (V : Nat → AV) (N : Nat) (lkf : List Lk) : Prop where
  hs : HS P ops Rr H V
  pk : PlanOK ops
  hN : N ≤ 512
  hd : ∀ o ∈ ops, ∀ d, o.dst = some d → d < N ∧ d < 512
  lk : ∀ t o, ops[t]? = some o → wantsG ops o.guard (Rr t) = true → LkR P o (spanOf ops t).1 (spanOf ops t).2 (Rr t) (V t) (H t) (H (t + 1)) lkf
  ok : lksOk ((esOf ops).map H ++ [H ops.length]) lkf = true
variable {ρ0 ρ : Ren} {w0 w : World} {a : Act}
theorem vers_get (rg : Reg P ops Rr H V N lkf) : ((esOf ops).map H ++ [H ops.length])[mOf ops L]? = some (H (qOf ops L)) := by
  have hm : mOf ops L ≤ (esOf ops).length := List.length_filter_le _ _
  unfold qOf
  cases h : (esOf ops)[mOf ops L]? with
  | none =>
    have h1 := List.getElem?_eq_none_iff.1 h
    rw [List.getElem?_append_right (by rw [List.length_map]; omega), List.length_map, show mOf ops L - (esOf ops).length = 0 by omega]; rfl
  | some e =>
    have h1 := (List.getElem?_eq_some_iff.1 h).1
    rw [List.getElem?_append_left (by rw [List.length_map]; exact h1), List.getElem?_map, h]; rfl
theorem span_in (rg : Reg P ops Rr H V N lkf) (hc : Closed ops L) {i : Nat} (hn : Next ops L i) : (spanOf ops i).1 ≤ mOf ops L ∧ mOf ops L ≤ (spanOf ops i).2 := by
  constructor
  · exact filter_len_mono _ fun e he h => hn.waits rg.pk.back hc h
  · refine filter_len_mono _ fun e he h => ?_
    cases q : waits ops e i with
    | false => rfl
    | true =>
      have := hc.waits rg.pk.back _ _ h q
      rw [hn.1] at this; cases this
theorem span_tight (rg : Reg P ops Rr H V N lkf) (hc : Closed ops L) {i : Nat} (hn : Next ops L i) (h : (spanOf ops i).1 = (spanOf ops i).2) : GG ops H (qOf ops L) = GG ops H i := by
  obtain ⟨o, ho, _⟩ := hn.2
  have hil := (List.getElem?_eq_some_iff.1 ho).1
  have hall := filter_len_eq (esOf ops) (p := waits ops i) (q := fun e => !(waits ops e i)) (fun e he hw => by
    cases q : waits ops e i with
    | false => rfl
    | true =>
      have h1 := waits_lt rg.pk.back _ _ hw
      have h2 := waits_lt rg.pk.back _ _ q
      omega) h
  refine GG_same rg.hs q_le (by omega) fun e he => ?_
  rw [← eff_q rg.pk hc he]
  constructor
  · intro hl
    refine waits_lt rg.pk.back i e (hall e he ?_)
    cases q : waits ops e i with
    | false => rfl
    | true =>
      have := hc.waits rg.pk.back _ _ hl q
      rw [hn.1] at this; cases this
  · intro hl
    refine hn.waits rg.pk.back hc (hall e he ?_)
    cases q : waits ops e i with
    | false => rfl
    | true => have := waits_lt rg.pk.back _ _ q; omega
theorem hle_GG (rg : Reg P ops Rr H V N lkf) {t : Nat} (ht : t ≤ ops.length) : HLe (H t) (GG ops H t) := fun i hi => GG_low rg.hs ht hi
theorem quiet_val (rg : Reg P ops Rr H V N lkf) (hc : Closed ops L) {i : Nat} {o : Oper} (hn : Next ops L i) (ho : ops[i]? = some o) (hw : wantsG ops o.guard (Rr i) = true) (h1 : isE o.op = false) (h2 : isA P o.op = false) (hv : V i = (compQ P o.op).f (Rr i) (H i)) (hu : (compQ P o.op).f (Rr i) (H i) ≠ .un) :
    (compQ P o.op).f (Rr i) (GG ops H (qOf ops L)) = V i := by
  have hil := (List.getElem?_eq_some_iff.1 ho).1
  by_cases hk : looks o.op = true
  · by_cases hab : (spanOf ops i).1 = (spanOf ops i).2
    · rw [span_tight rg hc hn hab, q_mono o.op (hle_GG rg (by omega)) hu, hv]
    · have hm := (rg.lk i o ho hw h1 hab).1 h2 hk
      obtain ⟨s1, s2⟩ := span_in rg hc hn
      have := lkOk_get _ 0 (lksOk_mem _ rg.ok hm) (mOf ops L) _ (vers_get rg) (by show (spanOf ops i).1 ≤ 0 + _; omega) (by show 0 + _ ≤ (spanOf ops i).2; omega)
      have this : (compQ P o.op).f (Rr i) (H (qOf ops L)) = V i := eqA_eq 4 _ _ this
      rw [q_mono o.op (hle_GG rg q_le) (by rw [this, hv]; exact hu), this]
  · rw [q_nolook o.op (by simpa using hk) _ (H i), hv]
theorem alloc_val (rg : Reg P ops Rr H V N lkf) (hc : Closed ops L) {i : Nat} {o : Oper} (hn : Next ops L i) (ho : ops[i]? = some o) (hw : wantsG ops o.guard (Rr i) = true) (h1 : isE o.op = false) (h2 : isA P o.op = true) {b : Blk} (hb : H (i + 1) = (H i).push b) :
    (GG ops H (qOf ops L)).get (H i).n = b ∧ (H i).n < (GG ops H (qOf ops L)).n := by
  have hil := (List.getElem?_eq_some_iff.1 ho).1
  have hwf := rg.hs.wf i (by omega)
  have hq : (H (i + 1)).get (H i).n = b := by rw [hb, HP.get_push b hwf, if_pos rfl]
  have hnn : (H (i + 1)).n = (H i).n + 1 := by rw [hb, HP.push_n]
  have hGi : (GG ops H i).get (H i).n = b := by
    rw [GG_quiet rg.hs ho h1, GG_low rg.hs (by omega) (by omega), hq]
  constructor
  · rcases Nat.lt_or_ge i (qOf ops L) with hiq | hiq
    · by_cases hab : (spanOf ops i).1 = (spanOf ops i).2
      · rw [span_tight rg hc hn hab]; exact hGi
      · have hm := (rg.lk i o ho hw h1 hab).2 h2
        obtain ⟨s1, s2⟩ := span_in rg hc hn
        have := lkOk_get _ 0 (lksOk_mem _ rg.ok hm) (mOf ops L) _ (vers_get rg) (by show (spanOf ops i).1 ≤ 0 + _; omega) (by show 0 + _ ≤ (spanOf ops i).2; omega)
        have hlt : (H i).n < (H (qOf ops L)).n := by
          have := rg.hs.le' (s := i + 1) (t := qOf ops L) (by omega) q_le
          omega
        have this : lkA (H i).n (H (i + 1)) (H (qOf ops L)) = true := this
        unfold lkA at this
        rw [brec_ble, if_pos (by exact hlt)] at this
        rw [GG_low rg.hs q_le hlt, eqB_eq _ _ this, hq]
    · have := GG_aboves rg.hs (i - qOf ops L) (qOf ops L) (i := (H i).n) (by omega) (by rw [show qOf ops L + (i - qOf ops L) = i by omega]; exact Nat.le_refl _)
      rw [show qOf ops L + (i - qOf ops L) = i by omega] at this
      rw [this]; exact hGi
  · rw [GG_n rg.hs (ops.length - qOf ops L) (qOf ops L) (by have := q_le (ops := ops) (L := L); omega)]
    have := rg.hs.le' (s := i + 1) (t := ops.length) (by omega) (Nat.le_refl _)
    omega
theorem owner (rg : Reg P ops Rr H V N lkf) {i t j : Nat} (hi : i < ops.length) (ht : t < ops.length) (h1 : (H i).n ≤ j) (h2 : j < (H (i + 1)).n) (h3 : (H t).n ≤ j) (h4 : j < (H (t + 1)).n) : t = i := by
  rcases Nat.lt_trichotomy t i with q | q | q
  · have := rg.hs.le' (s := t + 1) (t := i) (by omega) (by omega); omega
  · exact q
  · have := rg.hs.le' (s := i + 1) (t := t) (by omega) (by omega); omega
theorem Inv.fresh (rg : Reg P ops Rr H V N lkf) (I : Inv P ops Rr H V N ρ0 w0 L ρ a w) {i : Nat} (hi : i < ops.length) (hn : L i = false) {j : Nat} (h1 : (H i).n ≤ j) (h2 : j < (H (i + 1)).n) : ρ j = none := by
  cases h : ρ j with
  | none => rfl
  | some p =>
    rcases I.own j p h with q | ⟨t, ht, hl, h3, h4⟩
    · have := rg.hs.le' (s := 0) (t := i) (by omega) (by omega); omega
    · have := owner rg hi ht h1 h2 h3 h4
      subst this
      rw [hn] at hl; cases hl
theorem own_more {i : Nat} (I : Inv P ops Rr H V N ρ0 w0 L ρ a w) : ∀ j p, ρ j = some p → j < (H 0).n ∨ ∃ t, t < ops.length ∧ more L i t = true ∧ (H t).n ≤ j ∧ j < (H (t + 1)).n := fun j p h => by
  rcases I.own j p h with q | ⟨t, ht, hl, h3, h4⟩
  · exact .inl q
  · exact .inr ⟨t, ht, more_le hl, h3, h4⟩
theorem RR.congr {r r' : RG} (h : ∀ k, k < 512 → getR r' k = getR r k) (rr : RR ρ r a) : RR ρ r' a := fun k hk => by rw [h k hk]; exact rr k hk
theorem put_regs (rg : Reg P ops Rr H V N lkf) (hc : Closed ops L) {i : Nat} {o : Oper} (hn : Next ops L i) (ho : ops[i]? = some o) (hz : a.tmps.size = N) (rr : RR ρ (regL ops Rr V L ops.length) a) {v' : Value} (hv : VR ρ (V i) v') (ds : List Deferred) :
    RR ρ (regL ops Rr V (more L i) ops.length) (({ a with defers := ds } : Act).put o.dst v') :=
  RR.congr (fun k hk => reg_more rg.hs rg.pk rg.hd hc hn ho hk) (RR.put (a := ({ a with defers := ds } : Act)) rr hv fun d e => ⟨by show d < a.tmps.size; rw [hz]; exact (rg.hd o (List.mem_of_getElem? ho) d e).1, (rg.hd o (List.mem_of_getElem? ho) d e).2⟩)
theorem ops_vr (rg : Reg P ops Rr H V N lkf) (hc : Closed ops L) {i : Nat} {o : Oper} (hn : Next ops L i) (ho : ops[i]? = some o) (rr : RR ρ (regL ops Rr V L ops.length) a) : ∀ k ∈ nsO o, VR ρ (getR (Rr i) k) (a.tmps.getD k undef) := fun k hk => by
  have h5 := nsO_lt o k hk
  have := rr k h5
  rwa [reg_agree rg.hs rg.pk rg.hd hc hn ho (names_ops (List.mem_filter.1 hk).1) h5] at this
theorem inv_quiet (rg : Reg P ops Rr H V N lkf) (hc : Closed ops L) {i : Nat} {o : Oper} (hn : Next ops L i) (ho : ops[i]? = some o) (I : Inv P ops Rr H V N ρ0 w0 L ρ a w) (hg : GG ops H (qOf ops (more L i)) = GG ops H (qOf ops L)) {v' : Value} (hv : VR ρ (V i) v') :
    Inv P ops Rr H V N ρ0 w0 (more L i) ρ (a.put o.dst v') w where
  hr := by rw [hg]; exact I.hr
  own := own_more I
  regs := put_regs rg hc hn ho I.sz I.regs hv a.defers
  sz := by rw [put_size]; exact I.sz
  df := by rw [put_defers]; exact I.df
  le := I.le
  lo := I.lo
  size := I.size
  frame := I.frame
  old := by rw [hg]; exact I.old
  os := I.os
  out := I.out
  tape := I.tape
theorem inv_alloc (rg : Reg P ops Rr H V N lkf) (hc : Closed ops L) {i : Nat} {o : Oper} (hn : Next ops L i) (ho : ops[i]? = some o) (hw : wantsG ops o.guard (Rr i) = true) (h1 : isE o.op = false) (h2 : isA P o.op = true) {b : Blk} (hb : H (i + 1) = (H i).push b)
    (I : Inv P ops Rr H V N ρ0 w0 L ρ a w) {ob : Obj} {κ : Nat} {w' : World} (e1 : w'.heap = w.heap.push ob) (e2 : w'.os = w.os) (e3 : w'.output = w.output) (e4 : w'.tape = w.tape) (hB : BR ρ κ b ob) {v' : Value} (hv : VR (ρ.put (H i).n w.heap.size κ) (V i) v') :
    Inv P ops Rr H V N ρ0 w0 (more L i) (ρ.put (H i).n w.heap.size κ) (a.put o.dst v') w' := by
  have hil := (List.getElem?_eq_some_iff.1 ho).1
  have hnn : (H (i + 1)).n = (H i).n + 1 := by rw [hb, HP.push_n]
  have hfr := I.fresh rg hil hn.1 (Nat.le_refl _) (by omega : (H i).n < (H (i + 1)).n)
  have hle : RLe ρ (ρ.put (H i).n w.heap.size κ) := Ren.put_le hfr
  obtain ⟨hget, hlt⟩ := alloc_val rg hc hn ho hw h1 h2 hb
  have hg : GG ops H (qOf ops (more L i)) = GG ops H (qOf ops L) := by rw [q_more_quiet (not_es ho h1)]
  have hput : ∀ j p, ρ.put (H i).n w.heap.size κ j = some p → (j = (H i).n ∧ p = (w.heap.size, κ)) ∨ (j ≠ (H i).n ∧ ρ j = some p) := fun j p hj => by
    unfold Ren.put at hj
    by_cases q : j = (H i).n
    · rw [if_pos q] at hj; injection hj with hj; exact .inl ⟨q, hj.symm⟩
    · rw [if_neg q] at hj; exact .inr ⟨q, hj⟩
  have hold : ∀ k, k < w.heap.size → w'.heap[k]? = w.heap[k]? := fun k hk => by rw [e1, Array.getElem?_push, if_neg (by omega)]
  exact
    { hr := by
        rw [hg]
        refine ⟨I.hr.wf, fun j g κ' hj => ?_, fun j1 j2 g κ1 κ2 g1 g2 d1 d2 => ?_, I.hr.low⟩
        · rcases hput j _ hj with ⟨q, p⟩ | ⟨q, p⟩
          · injection p with p1 p2
            subst q; subst p1; subst p2
            exact ⟨hlt, ob, by rw [e1, Array.getElem?_push, if_pos rfl], by rw [hget]; exact hB.mono hle⟩
          · obtain ⟨m1, o', m2, m3⟩ := I.hr.at_ j g κ' p
            exact ⟨m1, o', by rw [hold g (I.hr.lt p)]; exact m2, m3.mono hle⟩
        · rcases hput j1 _ g1 with ⟨q1, p1⟩ | ⟨q1, p1⟩
          · rcases hput j2 _ g2 with ⟨q2, p2⟩ | ⟨q2, p2⟩
            · omega
            · injection p1 with p1 _
              have := I.hr.lt p2; omega
          · rcases hput j2 _ g2 with ⟨q2, p2⟩ | ⟨q2, p2⟩
            · injection p2 with p2 _
              have := I.hr.lt p1; omega
            · exact I.hr.inj j1 j2 g κ1 κ2 p1 p2 d1 d2
      own := fun j p hj => by
        rcases hput j p hj with ⟨q, _⟩ | ⟨_, q⟩
        · exact .inr ⟨i, hil, more_self _ _, by omega, by omega⟩
        · exact own_more I j p q
      regs := put_regs rg hc hn ho I.sz (I.regs.mono hle) hv a.defers
      sz := by rw [put_size]; exact I.sz
      df := by rw [put_defers]; exact I.df
      le := I.le.trans hle
      lo := fun j p hj hp => by
        rcases hput j p hp with ⟨q, _⟩ | ⟨_, q⟩
        · have := rg.hs.le' (s := 0) (t := i) (by omega) (by omega); omega
        · exact I.lo j p hj q
      size := by rw [e1, Array.size_push]; have := I.size; omega
      frame := fun g hg hd => by rw [hold g (Nat.lt_of_lt_of_le hg I.size)]; exact I.frame g hg hd
      old := by
        rw [hg]
        intro j g κ' hj hd hlt'
        rcases hput j _ hj with ⟨_, p⟩ | ⟨_, p⟩
        · injection p with p1 _
          have := I.size; omega
        · exact I.old j g κ' p hd hlt'
      os := e2.trans I.os
      out := e3.trans I.out
      tape := e4.trans I.tape }
theorem inv_eff (rg : Reg P ops Rr H V N lkf) (hc : Closed ops L) {i : Nat} {o : Oper} (hn : Next ops L i) (ho : ops[i]? = some o) (h1 : isE o.op = true) (I : Inv P ops Rr H V N ρ0 w0 L ρ a w) {ρ1 : Ren} {w' : World} (x : Ext (ρ.cut (H i).n) (H i) w ρ1 (H (i + 1)) w') {v' : Value} (hv : VR ρ1 (V i) v') {ds : List Deferred} (hds : Idles P ds) :
    ∃ ρ2, Inv P ops Rr H V N ρ0 w0 (more L i) ρ2 (({ a with defers := ds } : Act).put o.dst v') w' := by
  have hil := (List.getElem?_eq_some_iff.1 ho).1
  have hes : i ∈ esOf ops := esOf_mem.2 ⟨o, ho, h1⟩
  have hq := q_eff rg.pk hc hn hes
  have hg := GG_next rg.hs rg.pk hc hn hes
  have h0i : (H 0).n ≤ (H i).n := rg.hs.le' (s := 0) (t := i) (by omega) (by omega)
  have hmono := rg.hs.mono i hil
  have Ihr := I.hr
  rw [hq] at Ihr
  have Iold := I.old
  rw [hq] at Iold
  let ρ2 : Ren := fun j => match ρ1 j with | some p => some p | none => ρ j
  have r2 : ∀ j p, ρ2 j = some p ↔ ρ1 j = some p ∨ (ρ1 j = none ∧ ρ j = some p) := fun j p => by
    show (match ρ1 j with | some p => some p | none => ρ j) = some p ↔ _
    cases h : ρ1 j with
    | some q => simp
    | none => simp
  have above : ∀ j p, ρ1 j = none → ρ j = some p → (H (i + 1)).n ≤ j := fun j p e1 e2 => by
    rcases Nat.lt_or_ge j (H i).n with h | h
    · have := x.le j p (Ren.cut_some.2 ⟨h, e2⟩)
      rw [e1] at this; cases this
    · rcases Nat.lt_or_ge j (H (i + 1)).n with h' | h'
      · rw [I.fresh rg hil hn.1 h h'] at e2; cases e2
      · exact h'
  have le1 : RLe ρ1 ρ2 := fun j p h => (r2 j p).2 (.inl h)
  have le2 : RLe ρ ρ2 := fun j p h => by
    cases e : ρ1 j with
    | none => exact (r2 j p).2 (.inr ⟨e, h⟩)
    | some p' =>
      have hj := x.hr.dom j p' e
      rcases Nat.lt_or_ge j (H i).n with hl | hl
      · exact (r2 j p).2 (.inl (x.le j p (Ren.cut_some.2 ⟨hl, h⟩)))
      · rw [I.fresh rg hil hn.1 hl hj] at h; cases h
  have keep : ∀ b, b < w.heap.size → (∀ j κ, j < (H i).n → ρ j = some (b, κ) → (GG ops H i).get j = .dead) → w'.heap[b]? = w.heap[b]? := fun b hb hd => x.frame b hb fun j κ hj => by
    obtain ⟨k1, k2⟩ := Ren.cut_some.1 hj
    rw [← GG_low rg.hs (by omega : i ≤ ops.length) k1]
    exact hd j κ k1 k2
  have ownG : ∀ j b κ, ρ1 j = some (b, κ) → (H (i + 1)).get j ≠ .dead → b < w.heap.size → ∃ j' κ', j' < (H i).n ∧ ρ j' = some (b, κ') ∧ (GG ops H i).get j' ≠ .dead := fun j b κ hj hd hb => by
    obtain ⟨j', κ', k1, k2⟩ := x.own j b κ hj hd hb
    obtain ⟨k3, k4⟩ := Ren.cut_some.1 k1
    exact ⟨j', κ', k3, k4, by rw [GG_low rg.hs (by omega : i ≤ ops.length) k3]; exact k2⟩
  have lowG : ∀ j p, ρ1 j = some p → (GG ops H (i + 1)).get j = (H (i + 1)).get j := fun j p hj => GG_low rg.hs (by omega) (x.hr.dom j p hj)
  have highG : ∀ j p, ρ1 j = none → ρ j = some p → (GG ops H (i + 1)).get j = (GG ops H i).get j := fun j p e1 e2 => (GG_above rg.hs hil (above j p e1 e2)).symm
  have hnG : (GG ops H (i + 1)).n = (H ops.length).n := GG_n rg.hs (ops.length - (i + 1)) (i + 1) (by omega)
  refine ⟨ρ2, { hr := ?_, own := fun j p hj => ?_, regs := put_regs rg hc hn ho I.sz (I.regs.mono le2) (hv.mono le1) ds, sz := by rw [put_size]; exact I.sz, df := by rw [put_defers]; exact hds, le := I.le.trans le2, lo := fun j p hj hp => ?_, size := Nat.le_trans I.size x.size, frame := fun b hb hd => ?_, old := ?_, os := x.os.trans I.os, out := x.out.trans I.out, tape := x.tape.trans I.tape }⟩
  · rw [hg]
    refine ⟨GG_wf rg.hs (by omega), fun j b κ hj => ?_, fun j1 j2 b κ1 κ2 g1 g2 d1 d2 => ?_, fun j => ?_⟩
    · rcases (r2 j _).1 hj with k | ⟨k1, k2⟩
      · obtain ⟨m1, o', m2, m3⟩ := x.hr.at_ j b κ k
        refine ⟨?_, o', m2, ?_⟩
        · rw [hnG]; exact Nat.lt_of_lt_of_le m1 (rg.hs.le' (by omega) (Nat.le_refl _))
        · rw [lowG j _ k]; exact m3.mono le1
      · obtain ⟨m1, o', m2, m3⟩ := Ihr.at_ j b κ k2
        have hlt := Ihr.lt k2
        have hnE : (GG ops H i).n = (H ops.length).n := GG_n rg.hs (ops.length - i) i (by omega)
        refine ⟨by rw [hnG, ← hnE]; exact m1, ?_⟩
        rw [highG j _ k1 k2]
        by_cases hdead : (GG ops H i).get j = .dead
        · rw [hdead]
          exact ⟨_, Array.getElem?_eq_getElem (Nat.lt_of_lt_of_le hlt x.size), trivial⟩
        · refine ⟨o', ?_, m3.mono le2⟩
          rw [keep b hlt fun j' κ' q1 q2 => Classical.byContradiction fun hl => ?_, m2]
          have := Ihr.inj j' j b κ' κ q2 k2 hl hdead
          have := above j _ k1 k2
          omega
    · rcases (r2 j1 _).1 g1 with k | ⟨k1, k2⟩
      · rw [lowG j1 _ k] at d1
        rcases (r2 j2 _).1 g2 with m | ⟨m1, m2⟩
        · rw [lowG j2 _ m] at d2
          exact x.hr.inj j1 j2 b κ1 κ2 k m d1 d2
        · rw [highG j2 _ m1 m2] at d2
          obtain ⟨j', κ', q1, q2, q3⟩ := ownG j1 b κ1 k d1 (Ihr.lt m2)
          have := Ihr.inj j' j2 b κ' κ2 q2 m2 q3 d2
          have := above j2 _ m1 m2
          omega
      · rw [highG j1 _ k1 k2] at d1
        rcases (r2 j2 _).1 g2 with m | ⟨m1, m2⟩
        · rw [lowG j2 _ m] at d2
          obtain ⟨j', κ', q1, q2, q3⟩ := ownG j2 b κ2 m d2 (Ihr.lt k2)
          have := Ihr.inj j' j1 b κ' κ1 q2 k2 q3 d1
          have := above j1 _ k1 k2
          omega
        · rw [highG j2 _ m1 m2] at d2
          exact Ihr.inj j1 j2 b κ1 κ2 k2 m2 d1 d2
    · rw [hnG]; exact GG_lowB rg.hs (ops.length - (i + 1)) (i + 1) (by omega) j
  · rcases (r2 j _).1 hj with k | ⟨k1, k2⟩
    · cases e : ρ.cut (H i).n j with
      | some p' => exact own_more I j p' (Ren.cut_some.1 e).2
      | none => exact .inr ⟨i, hil, more_self _ _, x.new j p k e, x.hr.dom j p k⟩
    · exact own_more I j p k2
  · rcases (r2 j _).1 hp with k | ⟨k1, k2⟩
    · cases e : ρ.cut (H i).n j with
      | some p' =>
        have := x.le j p' e
        rw [k] at this; injection this with this; subst this
        exact I.lo j p hj (Ren.cut_some.1 e).2
      | none => have := x.new j p k e; omega
    · exact I.lo j p hj k2
  · rw [keep b (Nat.lt_of_lt_of_le hb I.size) fun j κ q1 q2 => Classical.byContradiction fun hl => ?_]
    · exact I.frame b hb hd
    · obtain ⟨j', κ', k1, k2⟩ := Iold j b κ q2 hl hb
      exact k2 (hd j' κ' k1)
  · rw [hg]
    intro j b κ hj hd hb
    rcases (r2 j _).1 hj with k | ⟨k1, k2⟩
    · rw [lowG j _ k] at hd
      obtain ⟨j', κ', q1, q2, q3⟩ := ownG j b κ k hd (Nat.lt_of_lt_of_le hb I.size)
      exact Iold j' b κ' q2 q3 hb
    · rw [highG j _ k1 k2] at hd
      exact Iold j b κ k2 hd hb
end
end Kv
end
end
section
noncomputable section
namespace Kv
open Go.RowKit
variable {P : Program}
section
variable {ops : List Oper} {Rr : Nat → RG} {H : Nat → HP} {V : Nat → AV} {N : Nat} {L : Nat → Bool} {lkf : List Lk} {ρ0 ρ : Ren} {w0 w : World} {a : Act} {S : Sm}
theorem step_ok (rg : Reg P ops Rr H V N lkf) (hc : Closed ops L) {i : Nat} {o : Oper} (hn : Next ops L i) (ho : ops[i]? = some o) (I : Inv P ops Rr H V N ρ0 w0 L ρ a w) {K : Act → World → Prop} {Q : Exit → Act → World → Prop}
    (hK : ∀ ρ' a' w', Inv P ops Rr H V N ρ0 w0 (more L i) ρ' a' w' → K a' w') : wpOp P ops.toArray Q i K a w := by
  have hil := (List.getElem?_eq_some_iff.1 ho).1
  obtain ⟨hst, _⟩ := rg.hs.step i o ho
  have hwant : Region.wanted o (yielded ops.toArray a.tmps) = wantsG ops o.guard (Rr i) := by
    rw [← wants_ok I.regs (fun o ho d e => ⟨by rw [I.sz]; exact (rg.hd o ho d e).1, (rg.hd o ho d e).2⟩) o]
    exact wantsG_same fun k hk h5 => reg_agree rg.hs rg.pk rg.hd hc hn ho hk h5
  have hvr := ops_vr rg hc hn ho I.regs
  have hsz : a.tmps.size ≤ 512 := by rw [I.sz]; exact rg.hN
  have hun : wpOp P ops.toArray Q i K a w = if Region.wanted o (yielded ops.toArray a.tmps) = true then o.wp P a w K Q ∨ (o.asks P a w ∧ LetsOut Q) else K (a.put o.dst undef) w := by
    unfold wpOp
    rw [List.getElem?_toArray, ho]
  rw [hun]
  generalize hv : V i = v at hst
  generalize hh : H (i + 1) = h' at hst
  cases hst with
  | no q =>
    rw [if_neg (by rw [hwant, q]; exact Bool.false_ne_true)]
    refine hK ρ _ w (inv_quiet rg hc hn ho I ?_ (by rw [hv]; exact ⟨#[], rfl, rfl⟩))
    cases he : isE o.op with
    | false => rw [q_more_quiet (not_es ho he)]
    | true =>
      have hes : i ∈ esOf ops := esOf_mem.2 ⟨o, ho, he⟩
      rw [GG_next rg.hs rg.pk hc hn hes, q_eff rg.pk hc hn hes, GG_unfold hil]
      have : adB ops H i = [] := by
        unfold adB
        rw [ho]
        simp only [he, if_true, hh, Nat.sub_self]; rfl
      rw [this]
      unfold GG
      rw [hh]; rfl
  | q q h1 h2 hu =>
    rw [if_pos (by rw [hwant, q])]
    refine .inl ?_
    have hval := quiet_val rg hc hn ho q h1 h2 hv hu
    have hmask := q_same (P := P) o.op (same_mask o (Rr i)) (GG ops H (qOf ops L))
    rw [hval] at hmask
    have hu2 : (compQ P o.op).f (maskR (nsO o) (Rr i)) (GG ops H (qOf ops L)) ≠ .un := by rw [← hmask, hv]; exact hu
    obtain ⟨x, k1, k2⟩ := q_ok (mask_rr (nsO_lt o) hvr) I.hr o hu2
    rw [execOp_congr o (not_select (.inr (.inr ⟨_, _, hu⟩))) (mask_eval hsz)] at k1
    rw [← hmask] at k2
    unfold Oper.wp
    rw [k1]
    exact hK ρ _ w (inv_quiet rg hc hn ho I (by rw [q_more_quiet (not_es ho h1)]) k2)
  | a b v q h1 h2 hb A =>
    rw [if_pos (by rw [hwant, q])]
    refine .inl ?_
    obtain ⟨ob, κ, x, w', k1, k2, k3, k4, k5, k6, k7⟩ := A ρ (maskA (nsO o) a) w (mask_rr (nsO_lt o) hvr)
    rw [execOp_congr o (not_select (.inr (.inl h2))) (mask_eval hsz)] at k1
    unfold Oper.wp
    rw [k1]
    have hfr := I.fresh rg hil hn.1 (Nat.le_refl _) (by rw [hh, HP.push_n]; omega : (H i).n < (H (i + 1)).n)
    exact hK _ _ w' (inv_alloc rg hc hn ho q h1 h2 hh I k2 k3 k4 k5 k6 (by rw [hv]; exact k7 _ (Ren.put_le hfr) (Ren.put_self _ _ _ _)))
  | e v h' q h1 E =>
    rw [if_pos (by rw [hwant, q])]
    refine .inl ?_
    have hes : i ∈ esOf ops := esOf_mem.2 ⟨o, ho, h1⟩
    have hr := I.hr
    rw [q_eff rg.pk hc hn hes] at hr
    have hr2 : HR (ρ.cut (H i).n) (H i) w := HR.cut hr (rg.hs.wf i (by omega)) (rg.hs.low i (by omega)) fun j hj => GG_low rg.hs (by omega) hj
    refine erM (not_select (P := P) (.inl h1)) E hsz (fun k hk => (rg.hs.reg i (by omega) k (nsO_lt o k hk)).cut (hvr k hk)) hr2 I.df fun ρ1 v' w' ds x hx hds => ?_
    rw [← hh] at x
    rw [← hv] at hx
    obtain ⟨ρ2, I2⟩ := inv_eff rg hc hn ho h1 I x hx hds
    exact hK ρ2 _ w' I2
def cnt (n : Nat) (L : Nat → Bool) : Nat := ((List.range n).filter (fun t => !L t)).length
theorem cnt_more {n i : Nat} (hi : i < n) (hl : L i = false) : cnt n (more L i) < cnt n L := by
  unfold cnt
  rcases Nat.lt_or_ge ((List.range n).filter (fun t => !(more L i) t)).length ((List.range n).filter (fun t => !L t)).length with h | h
  · exact h
  · have hle : ((List.range n).filter (fun t => !(more L i) t)).length ≤ ((List.range n).filter (fun t => !L t)).length := filter_len_mono _ fun t _ ht => by
      cases q : L t with
      | false => rfl
      | true => rw [more_le q] at ht; cases ht
    have := filter_len_eq (List.range n) (p := fun t => !(more L i) t) (q := fun t => !L t) (fun t _ ht => by
      cases q : L t with
      | false => rfl
      | true => rw [more_le q] at ht; cases ht) (by omega) i (List.mem_range.2 hi) (by rw [hl]; rfl)
    rw [more_self] at this; cases this
theorem cnt_zero {n : Nat} (h : cnt n L = 0) : ∀ t, t < n → L t = true := fun t ht => by
  cases q : L t with
  | true => rfl
  | false =>
    have := List.length_eq_zero_iff.1 h
    have := List.filter_eq_nil_iff.1 this t (List.mem_range.2 ht)
    rw [q] at this; exact absurd rfl this
def Lof (listed : Array Bool) : Nat → Bool := fun t => listed.getD t false
theorem ready_next {listed : Array Bool} (hz : listed.size = ops.length) {i : Nat} : i ∈ Region.ready .any ops.toArray listed ↔ Next ops (Lof listed) i := by
  unfold Region.ready
  rw [List.mem_filter, List.mem_range]
  simp only [List.size_toArray, List.getElem?_toArray, Bool.and_eq_true, Bool.not_eq_true']
  constructor
  · rintro ⟨h1, h2, h3⟩
    obtain ⟨o, ho⟩ : ∃ o, ops[i]? = some o := ⟨_, List.getElem?_eq_getElem h1⟩
    rw [ho] at h3
    simp only [Option.map_some, Option.getD_some] at h3
    have h3 := Array.all_eq_true_iff_forall_mem.1 h3
    refine ⟨?_, o, ho, fun e he hb => ?_⟩
    · show listed.getD i false = false
      rw [Array.getD_eq_getD_getElem?, Array.getElem?_eq_getElem (by omega)] at h2 ⊢
      exact h2
    · have := h3 e (by simpa using he)
      rw [← bindsA_eq, hb] at this
      show listed.getD e.on false = true
      simpa using this
  · rintro ⟨h1, o, ho, h3⟩
    have hil := (List.getElem?_eq_some_iff.1 ho).1
    refine ⟨hil, ?_, ?_⟩
    · have h1 : listed.getD i false = false := h1
      rw [Array.getD_eq_getD_getElem?, Array.getElem?_eq_getElem (by omega)] at h1 ⊢
      exact h1
    · rw [ho]
      simp only [Option.map_some, Option.getD_some]
      refine Array.all_eq_true_iff_forall_mem.2 fun e he => ?_
      rw [← bindsA_eq]
      cases hb : bindsA e with
      | false => rfl
      | true => have := h3 e (by simpa using he) hb; simpa [Lof] using this
theorem Lof_set {listed : Array Bool} {i : Nat} (hi : i < listed.size) : Lof (listed.setIfInBounds i true) = more (Lof listed) i := funext fun t => by
  unfold Lof more
  simp only [Array.getD_eq_getD_getElem?]
  by_cases e : t = i
  · subst e; rw [if_pos rfl, Array.getElem?_setIfInBounds_self_of_lt hi]; rfl
  · rw [if_neg e, Array.getElem?_setIfInBounds_ne (Ne.symm e)]
theorem none_ready (hb : Back ops) {listed : Array Bool} (hz : listed.size = ops.length) (h : Region.ready .any ops.toArray listed = []) : ∀ t, t < ops.length → Lof listed t = true := by
  intro t
  induction t using Nat.strongRecOn with
  | _ t ih =>
    intro ht
    cases q : Lof listed t with
    | true => rfl
    | false =>
      obtain ⟨o, ho⟩ : ∃ o, ops[t]? = some o := ⟨_, List.getElem?_eq_getElem ht⟩
      have : t ∈ Region.ready .any ops.toArray listed := (ready_next hz).2 ⟨q, o, ho, fun e he hbd => ih e.on (hb t o ho e he hbd) (by have := hb t o ho e he hbd; omega)⟩
      rw [h] at this; cases this
theorem any_ok (rg : Reg P ops Rr H V N lkf) {Q : Exit → Act → World → Prop} (hQ : ∀ L ρ a w, (∀ t, t < ops.length → L t = true) → Inv P ops Rr H V N ρ0 w0 L ρ a w → Q .normal a w) : ∀ (fuel : Nat) (listed : Array Bool) (ρ : Ren) (a : Act) (w : World), listed.size = ops.length → Closed ops (Lof listed) → cnt ops.length (Lof listed) ≤ fuel →
    Inv P ops Rr H V N ρ0 w0 (Lof listed) ρ a w → wpAny P .any ops.toArray Q fuel listed a w
  | 0, listed, ρ, a, w, hz, hc, hf, I => by
    have hall := cnt_zero (Nat.le_zero.1 hf)
    refine ⟨?_, hQ _ ρ a w hall I⟩
    cases h : Region.ready .any ops.toArray listed with
    | nil => rfl
    | cons i l =>
      have hn := (ready_next hz).1 (show i ∈ Region.ready .any ops.toArray listed by rw [h]; exact List.mem_cons_self)
      obtain ⟨h1, o, ho, _⟩ := hn
      rw [hall i (List.getElem?_eq_some_iff.1 ho).1] at h1; cases h1
  | fuel + 1, listed, ρ, a, w, hz, hc, hf, I => by
    refine ⟨fun h => hQ _ ρ a w (none_ready rg.pk.back hz h) I, fun i hi => ?_⟩
    have hn := (ready_next hz).1 hi
    have hn' := hn
    obtain ⟨h1, o, ho, _⟩ := hn'
    have hil := (List.getElem?_eq_some_iff.1 ho).1
    refine step_ok rg hc hn ho I fun ρ' a' w' I' => ?_
    rw [← Lof_set (by omega)] at I'
    refine any_ok rg hQ fuel _ ρ' a' w' (by simp [hz]) (by rw [Lof_set (by omega)]; exact closed_more hc hn) ?_ I'
    rw [Lof_set (by omega)]
    have := cnt_more (L := Lof listed) hil h1
    omega
theorem inv_end (rg : Reg P ops Rr H V N lkf) (hl : ∀ t, t < ops.length → L t = true) (I : Inv P ops Rr H V N ρ0 w0 L ρ a w) : Ext ρ0 (H 0) w0 ρ (H ops.length) w ∧ St P ρ N (Rr ops.length) (H ops.length) a w := by
  have hq : qOf ops L = ops.length := by
    have hm : mOf ops L = (esOf ops).length := by
      unfold mOf
      congr 1
      exact List.filter_eq_self.2 fun e he => hl e (esOf_lt he)
    unfold qOf
    rw [hm, List.getElem?_eq_none (Nat.le_refl _)]; rfl
  have hr := I.hr
  have old := I.old
  rw [hq, GG_end] at hr old
  have hregs := I.regs
  rw [reg_all rg.hs hl _ (Nat.le_refl _)] at hregs
  exact ⟨⟨I.le, hr, (fun j p h1 h2 => Nat.le_of_not_lt fun h => by rw [I.lo j p h h1] at h2; cases h2), rg.hs.le' (Nat.zero_le _) (Nat.le_refl _), I.size, I.frame, old, I.os, I.out, I.tape⟩, hregs, I.sz, hr, I.df⟩
theorem inv_begin (rg : Reg P ops Rr H V N lkf) (s : St P ρ N (Rr 0) (H 0) a w) {w1 : World} (e : w1.heap = w.heap) (e1 : w1.os = w.os) (e2 : w1.output = w.output) (e3 : w1.tape = w.tape) (hl : ∀ t, L t = false) : Inv P ops Rr H V N ρ w L ρ a w1 := by
  have hc : Closed ops L := fun j o _ h => by rw [hl] at h; cases h
  have hg : GG ops H (qOf ops L) = GG ops H 0 := GG_same rg.hs q_le (Nat.zero_le _) fun e he => by
    rw [← eff_q rg.pk hc he, hl]
    exact ⟨(fun h => by cases h), fun h => absurd h (Nat.not_lt_zero _)⟩
  have hreg : ∀ t, regL ops Rr V L t = Rr 0 := by
    intro t
    induction t with
    | zero => rfl
    | succ t ih => rw [regL_succ, if_neg (by rw [hl]; exact Bool.false_ne_true), ih]
  have h0 : ∀ i, i < (H 0).n → (GG ops H 0).get i = (H 0).get i := fun i hi => GG_low rg.hs (Nat.zero_le _) hi
  have hn : (GG ops H 0).n = (H ops.length).n := GG_n rg.hs ops.length 0 (by omega)
  have hdom := s.hr.dom
  exact
    { hr := by
        rw [hg]
        refine ⟨GG_wf rg.hs (Nat.zero_le _), fun i b κ hi => ?_, fun i j b κ κ' hi hj d1 d2 => ?_, fun i => ?_⟩
        · obtain ⟨k1, o, k2, k3⟩ := s.hr.at_ i b κ hi
          exact ⟨by rw [hn]; exact Nat.lt_of_lt_of_le k1 (rg.hs.le' (Nat.zero_le _) (Nat.le_refl _)), o, by rw [e]; exact k2, by rw [h0 i k1]; exact k3⟩
        · rw [h0 i (hdom i _ hi)] at d1
          rw [h0 j (hdom j _ hj)] at d2
          exact s.hr.inj i j b κ κ' hi hj d1 d2
        · rw [hn]; exact GG_lowB rg.hs ops.length 0 (by omega) i
      own := fun i p hi => .inl (hdom i p hi)
      regs := by rw [hreg]; exact s.rr
      sz := s.sz
      df := s.df
      le := RLe.refl ρ
      lo := fun i p _ h => h
      size := by rw [e]; exact Nat.le_refl _
      frame := fun b _ _ => by rw [e]
      old := by
        rw [hg]
        intro i b κ hi hd _
        rw [h0 i (hdom i _ hi)] at hd
        exact ⟨i, κ, hi, hd⟩
      os := e1
      out := e2
      tape := e3 }
theorem dsts_ok : ∀ {n : Nat} (l : List Oper), dstsL n l = true → ∀ o ∈ l, ∀ d, o.dst = some d → d < n
  | n, [], _, o, ho, _, _ => by cases ho
  | n, p :: l, h, o, ho, d, hd => by
    unfold dstsL at h
    have tl : dstsL n l = true ∧ ∀ d, p.dst = some d → d < n := by
      cases hp : p.dst with
      | none => rw [hp] at h; exact ⟨h, fun d q => by cases q⟩
      | some d' =>
        rw [hp] at h
        obtain ⟨h1, h2⟩ := and_split h
        exact ⟨h2, fun d q => by injection q with q; subst q; exact (ble_iff _ _).1 h1⟩
    rcases List.mem_cons.1 ho with rfl | ho
    · exact tl.2 d hd
    · exact dsts_ok l tl.1 o ho d hd
theorem reg_ok (hm : P.follows .mixedOrders = true) {call : Go.Proofs.YtfkoaooceickiaaGreat.Kv.Call} (hS : SmOk P S) (hc : CallOK P call) (hN : N ≤ 512) : RegOK P S call N := fun id opsA draw hdst r h k res hf => by
  have hd : ∀ o ∈ opsA.toList, ∀ d, o.dst = some d → d < N ∧ d < 512 := fun o ho d e => by
    have := dsts_ok _ hdst o ho d e
    exact ⟨this, Nat.lt_of_lt_of_le this hN⟩
  have harr : opsA.toList.toArray = opsA := Array.toArray_toList
  unfold compR at hf
  cases draw with
  | false =>
    have hf : (compL P S opsA.toList opsA.toList).f call r h k = some res := hf
    obtain ⟨r', h', k1, k2⟩ := l_ok hS hc hd opsA.toList [] r h rfl hf
    refine ⟨r', h', k1, fun ρ a w Q s hq => wp_region ?_⟩
    have := k2 ρ a w Q s hq
    rw [harr] at this
    simpa [List.range_eq_range'] using this
  | true =>
    generalize hops : opsA.toList = ops at hf hd harr
    cases hp : plan ops with
    | none =>
      simp only [hp] at hf
      cases hf
    | some ss =>
      simp only [hp, bxrec] at hf
      have hf : (compD P S ops (ops.zip ss)).f call r h [] [] k = some res := hf
      obtain ⟨pk, hlen, hspan⟩ := plan_ok hp
      obtain ⟨Rr, H, V, lkf, e1, e2, tr, _, e4, e5⟩ := d_tr hS hc ops (ops.zip ss) r h [] [] hf
      have hzl : (ops.zip ss).length = ops.length := by rw [List.length_zip, hlen, Nat.min_self]
      rw [hzl] at e4 e5
      have hzip : ∀ t o, ops[t]? = some o → (ops.zip ss)[t]? = some (o, (spanOf ops t).1, (spanOf ops t).2) := fun t o ho => by
        rw [List.getElem?_zip_eq_some]
        exact ⟨ho, hspan t (List.getElem?_eq_some_iff.1 ho).1⟩
      have hstep : ∀ t o, ops[t]? = some o → StepR P ops o (Rr t) (H t) (V t) (H (t + 1)) ∧ Rr (t + 1) = putR o.dst (Rr t) (V t) := fun t o ho => by
        obtain ⟨k1, k2, _⟩ := tr.step t o _ _ (hzip t o ho)
        exact ⟨k1, k2⟩
      have hvs : vsL (ops.zip ss) H = (esOf ops).map H := by
        have := vsL_eq (ops.zip ss) H 0
        rw [show (fun t => H (0 + t)) = H from funext fun t => by rw [Nat.zero_add]] at this
        rw [this, List.map_fst_zip (by omega)]; rfl
      rw [hvs, List.reverse_nil, List.nil_append] at e4
      refine ⟨_, _, e5, fun ρ a w Q s hq => ?_⟩
      have s0 : St P ρ N (Rr 0) (H 0) a w := by rw [e1, e2]; exact s
      have rg : Reg P ops Rr H V N lkf := ⟨hs_of hN hd hstep s0, pk, hN, hd, fun t o ho hw => (tr.step t o _ _ (hzip t o ho)).2.2 hw, e4⟩
      refine wp_region_any hm ?_
      have hsz : opsA.size = ops.length := by rw [← hops]; simp
      rw [← harr]
      have hL : ∀ t, Lof (Array.replicate ops.length false) t = false := fun t => by
        unfold Lof
        rw [Array.getD_eq_getD_getElem?, Array.getElem?_replicate]
        split <;> rfl
      have hQ : ∀ L ρ' a' w', (∀ t, t < ops.length → L t = true) → Inv P ops Rr H V N ρ w L ρ' a' w' → Q .normal a' w' := fun L ρ' a' w' hl I => by
        obtain ⟨x, s'⟩ := inv_end rg hl I
        rw [e2] at x
        exact hq ρ' a' w' x s'
      have := any_ok rg hQ ops.length (Array.replicate ops.length false) ρ a { w with drawn := w.drawn + 1 } (by simp) (fun j o _ h => by rw [hL] at h; cases h) (by
        unfold cnt
        exact Nat.le_trans (List.length_filter_le _ _) (by simp)) (inv_begin rg s0 rfl rfl rfl rfl hL)
      simpa using this
theorem run_ok (hm : P.follows .mixedOrders = true) (hN : NoNum P) (hS : SmOk P S) (n : Nat) : CallOK P (callN P S n) := call_ok hN (fun call hc N h => reg_ok hm hS hc h) n
end
end Kv
end
end
end Go.Proofs.YtfkoaooceickiaaGreat
