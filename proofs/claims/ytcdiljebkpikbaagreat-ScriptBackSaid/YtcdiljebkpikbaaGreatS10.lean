/- Parts of the proof: Kwx Kyb Kyc Ba Bb Bd Pa Pb Bc Cr Cs Kzb Gq Rw Lw Da. -/
import Derived.Laws.IdiomStrings
import Derived.Laws.Strings
import Derived.Laws.Strings2
import Derived.Laws.Strings3
import Derived.Laws.Concat
import Derived.RowKit
import Derived.WalkKit
import Derived.Deep.Draws
import Derived.Test.YtcdiljebkpikbaaGreatProg
import Derived.WalkSpells
import Derived.WalkLawsBesides
import Derived.Maps.AppendAt
import Derived.Laws.BytesArg
import Derived.Laws.CopyOwn
import Derived.Lib.Bytealg
import Derived.Deep.Quiet
import Derived.Deep.QuietTactic
import Derived.Tactics2
import Derived.KernelRfl
import Derived.Laws.Cells
import Derived.Lib.SliceRun
import Derived.Deep.MidRow
import Derived.Deep.OwnRows
import Derived.BigQuiet
import Derived.Deep.RegionHeld3
import Derived.Test.YtcdiljebkpikbaaGreatS09
set_option linter.all false
set_option maxRecDepth 100000
set_option maxHeartbeats 64000000
namespace Go.Proofs.YtcdiljebkpikbaaGreat
section
noncomputable section
namespace Kv
open Go.RowKit
variable {P : Program}
section
variable {ops : List Oper} {Rr : Nat → RG} {H : Nat → HP} {V : Nat → AV} {N : Nat} {L : Nat → Bool} {lkf : List Lk} {ρ0 ρ : Ren} {w0 w : World} {a : Act} {S : Sm}
theorem aB4 (rg : Reg P ops Rr H V N lkf) (hc : ym ops L) {i : Nat} {o : Oper} (hn : Next ops L i) (ho : ops[i]? = some o) (I : Inv P ops Rr H V N ρ0 w0 L ρ a w) {K : Act → World → Prop} {Q : Exit → Act → World → Prop}
    (hK : ∀ ρ' a' w', Inv P ops Rr H V N ρ0 w0 (more L i) ρ' a' w' → K a' w') : wpOp P ops.toArray Q i K a w := by
  have hil := (List.getElem?_eq_some_iff.1 ho).1
  obtain ⟨hst, _⟩ := rg.hs.step i o ho
  have hwant : Region.wanted o (yielded ops.toArray a.tmps) = yl ops o.guard (Rr i) := by
    rw [← Zw I.regs (fun o ho d e => ⟨by rw [I.sz]; exact (rg.hd o ho d e).1, (rg.hd o ho d e).2⟩) o]
    exact KG fun k hk h5 => JE rg.hs rg.pk rg.hd hc hn ho hk h5
  have hvr := aMP rg hc hn ho I.regs
  have hsz : a.tmps.size ≤ 512 := by rw [I.sz]; exact rg.hN
  have hun : wpOp P ops.toArray Q i K a w = if Region.wanted o (yielded ops.toArray a.tmps) = true then o.wp P a w K Q ∨ (o.asks P a w ∧ LetsOut Q) else K (a.put o.dst undef) w := by
    unfold wpOp
    rw [List.getElem?_toArray, ho]
  rw [hun]
  generalize hv : V i = v at hst
  generalize hh : H (i + 1) = h' at hst
  cases hst with
  | no q =>
    rw [if_neg (by rw [hwant, q]; exact Bool.false_ne_true)]
    refine hK ρ _ w (Js rg hc hn ho I ?_ (by rw [hv]; exact ⟨#[], rfl, rfl⟩))
    cases he : isE o.op with
    | false => rw [jr (ahj ho he)]
    | true =>
      have hes : i ∈ xP ops := jB.2 ⟨o, ho, he⟩
      rw [acg rg.hs rg.pk hc hn hes, ajk rg.pk hc hn hes, q9 hil]
      have : adB ops H i = [] := by
        unfold adB
        rw [ho]
        simp only [he, if_true, hh, Nat.sub_self]; rfl
      rw [this]
      unfold GG
      rw [hh]; rfl
  | q q h1 h2 hu =>
    rw [if_pos (by rw [hwant, q])]
    refine .inl ?_
    have hval := ahD rg hc hn ho q h1 h2 hv hu
    have hmask := aob (P := P) o.op (vY o (Rr i)) (GG ops H (qOf ops L))
    rw [hval] at hmask
    have hu2 : (zt P o.op).f (YN (nsO o) (Rr i)) (GG ops H (qOf ops L)) ≠ .un := by rw [← hmask, hv]; exact hu
    obtain ⟨x, k1, k2⟩ := aR7 (Kj (Ym o) hvr) I.hr o hu2
    rw [execOp_congr o (xB (.inr (.inr ⟨_, _, hu⟩))) (Yi hsz)] at k1
    rw [← hmask] at k2
    unfold Oper.wp
    rw [k1]
    exact hK ρ _ w (Js rg hc hn ho I (by rw [jr (ahj ho h1)]) k2)
  | a b v q h1 h2 hb A =>
    rw [if_pos (by rw [hwant, q])]
    refine .inl ?_
    obtain ⟨ob, κ, x, w', k1, k2, k3, k4, k5, k6, k7⟩ := A ρ (Qg (nsO o) a) w (Kj (Ym o) hvr)
    rw [execOp_congr o (xB (.inr (.inl h2))) (Yi hsz)] at k1
    unfold Oper.wp
    rw [k1]
    have hfr := I.fresh rg hil hn.1 (Nat.le_refl _) (by rw [hh, HP.push_n]; omega : (H i).n < (H (i + 1)).n)
    exact hK _ _ w' (agZ rg hc hn ho q h1 h2 hh I k2 k3 k4 k5 k6 (by rw [hv]; exact k7 _ (Ren.put_le hfr) (Ren.put_self _ _ _ _)))
  | e v h' q h1 E =>
    rw [if_pos (by rw [hwant, q])]
    refine .inl ?_
    have hes : i ∈ xP ops := jB.2 ⟨o, ho, h1⟩
    have hr := I.hr
    rw [ajk rg.pk hc hn hes] at hr
    have hr2 : HR (ρ.cut (H i).n) (H i) w := HR.cut hr (rg.hs.wf i (by omega)) (rg.hs.low i (by omega)) fun j hj => vy rg.hs (by omega) hj
    refine erM (xB (P := P) (.inl h1)) E hsz (fun k hk => (rg.hs.reg i (by omega) k (Ym o k hk)).cut (hvr k hk)) hr2 I.df fun ρ1 v' w' ds x hx hds => ?_
    rw [← hh] at x
    rw [← hv] at hx
    obtain ⟨ρ2, I2⟩ := aBh rg hc hn ho h1 I x hx hds
    exact hK ρ2 _ w' I2
def cnt (n : Nat) (L : Nat → Bool) : Nat := ((List.range n).filter (fun t => !L t)).length
theorem aiG {n i : Nat} (hi : i < n) (hl : L i = false) : cnt n (more L i) < cnt n L := by
  unfold cnt
  rcases Nat.lt_or_ge ((List.range n).filter (fun t => !(more L i) t)).length ((List.range n).filter (fun t => !L t)).length with h | h
  · exact h
  · have hle : ((List.range n).filter (fun t => !(more L i) t)).length ≤ ((List.range n).filter (fun t => !L t)).length := yn _ fun t _ ht => by
      cases q : L t with
      | false => rfl
      | true => rw [Yj q] at ht; cases ht
    have := xt (List.range n) (p := fun t => !(more L i) t) (q := fun t => !L t) (fun t _ ht => by
      cases q : L t with
      | false => rfl
      | true => rw [Yj q] at ht; cases ht) (by omega) i (List.mem_range.2 hi) (by rw [hl]; rfl)
    rw [jo] at this; cases this
theorem aiH {n : Nat} (h : cnt n L = 0) : ∀ t, t < n → L t = true := fun t ht => by
  cases q : L t with
  | true => rfl
  | false =>
    have := List.length_eq_zero_iff.1 h
    have := List.filter_eq_nil_iff.1 this t (List.mem_range.2 ht)
    rw [q] at this; exact absurd rfl this
def Lof (listed : Array Bool) : Nat → Bool := fun t => listed.getD t false
theorem kN {listed : Array Bool} (hz : listed.size = ops.length) {i : Nat} : i ∈ Region.ready .any ops.toArray listed ↔ Next ops (Lof listed) i := by
  unfold Region.ready
  rw [List.mem_filter, List.mem_range]
  simp only [List.size_toArray, List.getElem?_toArray, Bool.and_eq_true, Bool.not_eq_true']
  constructor
  · rintro ⟨h1, h2, h3⟩
    obtain ⟨o, ho⟩ : ∃ o, ops[i]? = some o := ⟨_, List.getElem?_eq_getElem h1⟩
    rw [ho] at h3
    simp only [Option.map_some, Option.getD_some] at h3
    have h3 := Array.all_eq_true_iff_forall_mem.1 h3
    refine ⟨?_, o, ho, fun e he hb => ?_⟩
    · show listed.getD i false = false
      rw [Array.getD_eq_getD_getElem?, Array.getElem?_eq_getElem (by omega)] at h2 ⊢
      exact h2
    · have := h3 e (by simpa using he)
      rw [← Jc, hb] at this
      show listed.getD e.on false = true
      simpa using this
  · rintro ⟨h1, o, ho, h3⟩
    have hil := (List.getElem?_eq_some_iff.1 ho).1
    refine ⟨hil, ?_, ?_⟩
    · have h1 : listed.getD i false = false := h1
      rw [Array.getD_eq_getD_getElem?, Array.getElem?_eq_getElem (by omega)] at h1 ⊢
      exact h1
    · rw [ho]
      simp only [Option.map_some, Option.getD_some]
      refine Array.all_eq_true_iff_forall_mem.2 fun e he => ?_
      rw [← Jc]
      cases hb : qo e with
      | false => rfl
      | true => have := h3 e (by simpa using he) hb; simpa [Lof] using this
theorem JX {listed : Array Bool} {i : Nat} (hi : i < listed.size) : Lof (listed.setIfInBounds i true) = more (Lof listed) i := funext fun t => by
  unfold Lof more
  simp only [Array.getD_eq_getD_getElem?]
  by_cases e : t = i
  · subst e; rw [if_pos rfl, Array.getElem?_setIfInBounds_self_of_lt hi]; rfl
  · rw [if_neg e, Array.getElem?_setIfInBounds_ne (Ne.symm e)]
theorem abP (hb : ajV ops) {listed : Array Bool} (hz : listed.size = ops.length) (h : Region.ready .any ops.toArray listed = []) : ∀ t, t < ops.length → Lof listed t = true := by
  intro t
  induction t using Nat.strongRecOn with
  | _ t ih =>
    intro ht
    cases q : Lof listed t with
    | true => rfl
    | false =>
      obtain ⟨o, ho⟩ : ∃ o, ops[t]? = some o := ⟨_, List.getElem?_eq_getElem ht⟩
      have : t ∈ Region.ready .any ops.toArray listed := (kN hz).2 ⟨q, o, ho, fun e he hbd => ih e.on (hb t o ho e he hbd) (by have := hb t o ho e he hbd; omega)⟩
      rw [h] at this; cases this
theorem aj2 (rg : Reg P ops Rr H V N lkf) {Q : Exit → Act → World → Prop} (hQ : ∀ L ρ a w, (∀ t, t < ops.length → L t = true) → Inv P ops Rr H V N ρ0 w0 L ρ a w → Q .normal a w) : ∀ (fuel : Nat) (listed : Array Bool) (ρ : Ren) (a : Act) (w : World), listed.size = ops.length → ym ops (Lof listed) → cnt ops.length (Lof listed) ≤ fuel →
    Inv P ops Rr H V N ρ0 w0 (Lof listed) ρ a w → wpAny P .any ops.toArray Q fuel listed a w
  | 0, listed, ρ, a, w, hz, hc, hf, I => by
    have hall := aiH (Nat.le_zero.1 hf)
    refine ⟨?_, hQ _ ρ a w hall I⟩
    cases h : Region.ready .any ops.toArray listed with
    | nil => rfl
    | cons i l =>
      have hn := (kN hz).1 (show i ∈ Region.ready .any ops.toArray listed by rw [h]; exact List.mem_cons_self)
      obtain ⟨h1, o, ho, _⟩ := hn
      rw [hall i (List.getElem?_eq_some_iff.1 ho).1] at h1; cases h1
  | fuel + 1, listed, ρ, a, w, hz, hc, hf, I => by
    refine ⟨fun h => hQ _ ρ a w (abP rg.pk.back hz h) I, fun i hi => ?_⟩
    have hn := (kN hz).1 hi
    have hn' := hn
    obtain ⟨h1, o, ho, _⟩ := hn'
    have hil := (List.getElem?_eq_some_iff.1 ho).1
    refine aB4 rg hc hn ho I fun ρ' a' w' I' => ?_
    rw [← JX (by omega)] at I'
    refine aj2 rg hQ fuel _ ρ' a' w' (by simp [hz]) (by rw [JX (by omega)]; exact Z4 hc hn) ?_ I'
    rw [JX (by omega)]
    have := aiG (L := Lof listed) hil h1
    omega
theorem aBi (rg : Reg P ops Rr H V N lkf) (hl : ∀ t, t < ops.length → L t = true) (I : Inv P ops Rr H V N ρ0 w0 L ρ a w) : Ext ρ0 (H 0) w0 ρ (H ops.length) w ∧ St P ρ N (Rr ops.length) (H ops.length) a w := by
  have hq : qOf ops L = ops.length := by
    have hm : mOf ops L = (xP ops).length := by
      unfold mOf
      congr 1
      exact List.filter_eq_self.2 fun e he => hl e (Z7 he)
    unfold qOf
    rw [hm, List.getElem?_eq_none (Nat.le_refl _)]; rfl
  have hr := I.hr
  have old := I.old
  rw [hq, acf] at hr old
  have hregs := I.regs
  rw [ahJ rg.hs hl _ (Nat.le_refl _)] at hregs
  exact ⟨⟨I.le, hr, (fun j p h1 h2 => Nat.le_of_not_lt fun h => by rw [I.lo j p h h1] at h2; cases h2), rg.hs.le' (Nat.zero_le _) (Nat.le_refl _), I.size, I.frame, old, I.os, I.out, I.tape⟩, hregs, I.sz, hr, I.df⟩
theorem ag0 (rg : Reg P ops Rr H V N lkf) (s : St P ρ N (Rr 0) (H 0) a w) {w1 : World} (e : w1.heap = w.heap) (e1 : w1.os = w.os) (e2 : w1.output = w.output) (e3 : w1.tape = w.tape) (hl : ∀ t, L t = false) : Inv P ops Rr H V N ρ w L ρ a w1 := by
  have hc : ym ops L := fun j o _ h => by rw [hl] at h; cases h
  have hg : GG ops H (qOf ops L) = GG ops H 0 := JW rg.hs aBL (Nat.zero_le _) fun e he => by
    rw [← abu rg.pk hc he, hl]
    exact ⟨(fun h => by cases h), fun h => absurd h (Nat.not_lt_zero _)⟩
  have hreg : ∀ t, Zk ops Rr V L t = Rr 0 := by
    intro t
    induction t with
    | zero => rfl
    | succ t ih => rw [yC, if_neg (by rw [hl]; exact Bool.false_ne_true), ih]
  have h0 : ∀ i, i < (H 0).n → (GG ops H 0).get i = (H 0).get i := fun i hi => vy rg.hs (Nat.zero_le _) hi
  have hn : (GG ops H 0).n = (H ops.length).n := aCv rg.hs ops.length 0 (by omega)
  have hdom := s.hr.dom
  exact
    { hr := by
        rw [hg]
        refine ⟨aCw rg.hs (Nat.zero_le _), fun i b κ hi => ?_, fun i j b κ κ' hi hj d1 d2 => ?_, fun i => ?_⟩
        · obtain ⟨k1, o, k2, k3⟩ := s.hr.at_ i b κ hi
          exact ⟨by rw [hn]; exact Nat.lt_of_lt_of_le k1 (rg.hs.le' (Nat.zero_le _) (Nat.le_refl _)), o, by rw [e]; exact k2, by rw [h0 i k1]; exact k3⟩
        · rw [h0 i (hdom i _ hi)] at d1
          rw [h0 j (hdom j _ hj)] at d2
          exact s.hr.inj i j b κ κ' hi hj d1 d2
        · rw [hn]; exact JV rg.hs ops.length 0 (by omega) i
      own := fun i p hi => .inl (hdom i p hi)
      regs := by rw [hreg]; exact s.rr
      sz := s.sz
      df := s.df
      le := RLe.refl ρ
      lo := fun i p _ h => h
      size := by rw [e]; exact Nat.le_refl _
      frame := fun b _ _ => by rw [e]
      old := by
        rw [hg]
        intro i b κ hi hd _
        rw [h0 i (hdom i _ hi)] at hd
        exact ⟨i, κ, hi, hd⟩
      os := e1
      out := e2
      tape := e3 }
theorem agy : ∀ {n : Nat} (l : List Oper), V9 n l = true → ∀ o ∈ l, ∀ d, o.dst = some d → d < n
  | n, [], _, o, ho, _, _ => by cases ho
  | n, p :: l, h, o, ho, d, hd => by
    unfold V9 at h
    have tl : V9 n l = true ∧ ∀ d, p.dst = some d → d < n := by
      cases hp : p.dst with
      | none => rw [hp] at h; exact ⟨h, fun d q => by cases q⟩
      | some d' =>
        rw [hp] at h
        obtain ⟨h1, h2⟩ := zq h
        exact ⟨h2, fun d q => by injection q with q; subst q; exact (zy _ _).1 h1⟩
    rcases List.mem_cons.1 ho with rfl | ho
    · exact tl.2 d hd
    · exact agy l tl.1 o ho d hd
theorem aM0 (hm : P.follows .mixedOrders = true) {call : Go.Proofs.YtcdiljebkpikbaaGreat.Kv.Call} (hS : acj P S) (hc : vx P call) (hN : N ≤ 512) : aiu P S call N := fun id opsA draw hdst r h k res hf => by
  have hd : ∀ o ∈ opsA.toList, ∀ d, o.dst = some d → d < N ∧ d < 512 := fun o ho d e => by
    have := agy _ hdst o ho d e
    exact ⟨this, Nat.lt_of_lt_of_le this hN⟩
  have harr : opsA.toList.toArray = opsA := Array.toArray_toList
  unfold agk at hf
  cases draw with
  | false =>
    have hf : (Jh P S opsA.toList opsA.toList).f call r h k = some res := hf
    obtain ⟨r', h', k1, k2⟩ := aRY hS hc hd opsA.toList [] r h rfl hf
    refine ⟨r', h', k1, fun ρ a w Q s hq => wp_region ?_⟩
    have := k2 ρ a w Q s hq
    rw [harr] at this
    simpa [List.range_eq_range'] using this
  | true =>
    generalize hops : opsA.toList = ops at hf hd harr
    cases hp : aNz ops with
    | none =>
      simp only [hp] at hf
      cases hf
    | some ss =>
      simp only [hp, zl] at hf
      have hf : (kC P S ops (ops.zip ss)).f call r h [] [] k = some res := hf
      obtain ⟨pk, hlen, hspan⟩ := aBI hp
      obtain ⟨Rr, H, V, lkf, e1, e2, tr, _, e4, e5⟩ := aSs hS hc ops (ops.zip ss) r h [] [] hf
      have hzl : (ops.zip ss).length = ops.length := by rw [List.length_zip, hlen, Nat.min_self]
      rw [hzl] at e4 e5
      have hzip : ∀ t o, ops[t]? = some o → (ops.zip ss)[t]? = some (o, (yT ops t).1, (yT ops t).2) := fun t o ho => by
        rw [List.getElem?_zip_eq_some]
        exact ⟨ho, hspan t (List.getElem?_eq_some_iff.1 ho).1⟩
      have hstep : ∀ t o, ops[t]? = some o → vz P ops o (Rr t) (H t) (V t) (H (t + 1)) ∧ Rr (t + 1) = Ze o.dst (Rr t) (V t) := fun t o ho => by
        obtain ⟨k1, k2, _⟩ := tr.step t o _ _ (hzip t o ho)
        exact ⟨k1, k2⟩
      have hvs : vsL (ops.zip ss) H = (xP ops).map H := by
        have := aoq (ops.zip ss) H 0
        rw [show (fun t => H (0 + t)) = H from funext fun t => by rw [Nat.zero_add]] at this
        rw [this, List.map_fst_zip (by omega)]; rfl
      rw [hvs, List.reverse_nil, List.nil_append] at e4
      refine ⟨_, _, e5, fun ρ a w Q s hq => ?_⟩
      have s0 : St P ρ N (Rr 0) (H 0) a w := by rw [e1, e2]; exact s
      have rg : Reg P ops Rr H V N lkf := ⟨aRL hN hd hstep s0, pk, hN, hd, fun t o ho hw => (tr.step t o _ _ (hzip t o ho)).2.2 hw, e4⟩
      refine wp_region_any hm ?_
      have hsz : opsA.size = ops.length := by rw [← hops]; simp
      rw [← harr]
      have hL : ∀ t, Lof (Array.replicate ops.length false) t = false := fun t => by
        unfold Lof
        rw [Array.getD_eq_getD_getElem?, Array.getElem?_replicate]
        split <;> rfl
      have hQ : ∀ L ρ' a' w', (∀ t, t < ops.length → L t = true) → Inv P ops Rr H V N ρ w L ρ' a' w' → Q .normal a' w' := fun L ρ' a' w' hl I => by
        obtain ⟨x, s'⟩ := aBi rg hl I
        rw [e2] at x
        exact hq ρ' a' w' x s'
      have := aj2 rg hQ ops.length (Array.replicate ops.length false) ρ a { w with drawn := w.drawn + 1 } (by simp) (fun j o _ h => by rw [hL] at h; cases h) (by
        unfold cnt
        exact Nat.le_trans (List.length_filter_le _ _) (by simp)) (ag0 rg s0 rfl rfl rfl rfl hL)
      simpa using this
theorem aM3 (hm : P.follows .mixedOrders = true) (hN : ach P) (hS : acj P S) (n : Nat) : vx P (aiE P S n) := agb hN (fun call hc N h => aM0 hm hS hc h) n
end
end Kv
end
end
section
namespace Kv
noncomputable section
inductive PT where
 |d
 |l (b:Blk)
 |n (x y:PT)
def PT.tree (p:PT):Nat→RT Blk:=PT.rec (motive:=fun _=>Nat→RT Blk) (fun k=>RT.mk .dead k) (fun b _=> .l b) (fun _ _ tx ty k=> .n (Nat.pow 2 (Nat.pred k)) (tx (Nat.pred k)) (ty (Nat.pred k))) p
def PT.shape (p:PT):Nat→Bool:=PT.rec (motive:=fun _=>Nat→Bool) (fun _=>true) (fun _ k=>Nat.beq k 0) (fun _ _ sx sy k=>(@Bool.rec (fun _=>_) ((@Bool.rec (fun _=>_) (false) (sy (Nat.pred k)) (sx (Nat.pred k)))) (false) (Nat.beq k 0))) p
def PT.in_ (p:PT):RT Blk→Bool:=PT.rec (motive:=fun _=>RT Blk→Bool) (fun _=>true) (fun b t=>match t with | .l c=>eqB b c| .n _ _ _=>false) (fun _ _ ix iy t=>match t with | .n _ x y=>(@Bool.rec (fun _=>_) (false) (iy y) (ix x)) | .l _=>false) p
structure Ent where
 f:Nat
 a:List AV
 d:Nat
 p:PT
 n:Nat
 v:AV
 d':Nat
 p':PT
 n':Nat
def ai3 (d:Nat) (p:PT) (n:Nat):HP:=⟨d,p.tree d,n⟩
def Ent.h (e:Ent):HP:=ai3 e.d e.p e.n
def Ent.h' (e:Ent):HP:=ai3 e.d' e.p' e.n'
def isH (d:Nat) (p:PT) (n:Nat) (h:HP):Bool:=match h with | ⟨k,t,m⟩=>(@Bool.rec (fun _=>_) (false) ((@Bool.rec (fun _=>_) (false) (p.in_ t) (Nat.beq d k))) (Nat.beq n m))
def Ent.look (e:Ent) (f:Nat) (a:List AV) (h:HP):Bool:=(@Bool.rec (fun _=>_) (false) ((@Bool.rec (fun _=>_) (false) (isH e.d e.p e.n h) (eqL (eqA 4) e.a a))) (Nat.beq e.f f))
def agK (f:Nat) (a:List AV) (h:HP):List Ent→Option (AV×HP)
 | []=>none
 |e::l=>(@Bool.rec (fun _=>_) (agK f a h l) (some (e.v,e.h')) (e.look f a h))
def aRK (f:Nat):List Ent→Bool
 | []=>false
 |e::l=>(@Bool.rec (fun _=>_) (aRK f l) (true) (Nat.beq e.f f))
def aNg (S:Sm) (l:List Ent):Sm:=⟨fun f=>(@Bool.rec (fun _=>_) (S.S f) (some (fun a h=>agK f a h l)) (aRK f l)),S.I⟩
def Ent.is (e:Ent) (r:R):Bool:=match r with |some (v,h)=>(@Bool.rec (fun _=>_) (false) (isH e.d' e.p' e.n' h) (eqA 4 e.v v)) |none=>false
def zF (P:Program) (S:Sm) (l:List Ent) (e:Ent):Bool:=(@Bool.rec (fun _=>_) (false) ((@Bool.rec (fun _=>_) (false) ((@Bool.rec (fun _=>_) (false) (e.is (run P (aNg S l) 1000000 e.f e.a e.h)) (Nat.ble e.n (Nat.pow 2 e.d)))) (e.p'.shape e.d'))) (e.p.shape e.d))
end
end Kv
end
section
noncomputable section
namespace Kv
open Go.RowKit
variable {P:Program}
theorem aSK (k:Nat):PT.d.tree k=RT.mk .dead k:=rfl
theorem aSL (b:Blk) (k:Nat):(PT.l b).tree k= .l b:=rfl
theorem aNa (x y:PT) (k:Nat):(PT.n x y).tree (k+1)= .n (2^k) (x.tree k) (y.tree k):=rfl
theorem aBK: ∀(p:PT) (k:Nat) (t:RT Blk),p.shape k=true→t.wf (2^k)→p.in_ t=true→(p.tree k).wf (2^k)∧ ∀i,i<2^k→(p.tree k).get i= .dead∨(p.tree k).get i=t.get i
 | .d,k,t,_,_,_=>⟨RT.mk_wf _ _,fun i _=> .inl (RT.mk_get _ _ _)⟩
 | .l b,k,t,hs,hw,hi=>by
  have hk:k=0:=(zu _ _).1 hs
  subst hk
  cases t with
  |l c=>
   have hb:b=c:=anR b c hi
   subst hb
   exact⟨rfl,fun i _=> .inr rfl⟩
  |n h x y=>cases hi
 | .n x y,k,t,hs,hw,hi=>by
  have hs: @Bool.rec (fun _=>Bool) (@Bool.rec (fun _=>Bool) false (y.shape (Nat.pred k)) (x.shape (Nat.pred k))) false (Nat.beq k 0)=true:=hs
  rw[zg]at hs
  cases k with
  |zero=>cases hs
  | succ k=>
   rw[if_neg (by omega)]at hs
   obtain⟨hx,hy⟩:=zq hs
   cases t with
   |l c=>cases hi
   |n h a b=>
    obtain⟨hia,hib⟩:=zq (show @Bool.rec (fun _=>Bool) false (y.in_ b) (x.in_ a)=true from hi)
    obtain⟨h1,h2,h3⟩:=hw
    have hp:h=2^k:=by rw[Nat.pow_succ]at h1;omega
    subst hp
    obtain⟨w1,g1⟩:=aBK x k a hx h2 hia
    obtain⟨w2,g2⟩:=aBK y k b hy h3 hib
    refine⟨⟨h1,w1,w2⟩,fun i hik=>?_⟩
    rw[aNa,RT.get_n,RT.get_n]
    by_cases q:2^k≤i
    ·rw[if_pos q,if_pos q];exact g2 _ (by rw[Nat.pow_succ]at hik;omega)
    ·rw[if_neg q,if_neg q];exact g1 _ (by omega)
theorem Ext.kills {ρ:Ren} {h g:HP} {w:World} (hr:HR ρ h w) (hw:g.wf) (hn:g.n=h.n) (he: ∀i,g.get i= .dead∨g.get i=h.get i):Ext ρ h w ρ g w:=by
 have live: ∀i,g.get i≠ .dead→g.get i=h.get i:=fun i hi=>(he i).resolve_left hi
 refine⟨RLe.refl ρ,⟨hw,fun i b κ hi=>?_,fun i j b κ κ' hi hj d1 d2=>hr.inj i j b κ κ' hi hj (live i d1▸d1) (live j d2▸d2),fun i=>?_⟩,fun i p h1 h2=>(by rw[h1]at h2;cases h2),by omega,Nat.le_refl _,fun _ _ _=>rfl,fun i b κ hi hd _=>⟨i,κ,hi,live i hd▸hd⟩,rfl,rfl,rfl⟩
 ·obtain⟨h1,o,h2,h3⟩:=hr.at_ i b κ hi
  refine⟨by omega,o,h2,?_⟩
  rcases he i with e|e
  ·rw[e];trivial
  ·rw[e];exact h3
 ·rw[hn]
  rcases he i with e|e
  ·rw[e];exact .inl rfl
  ·rw[e];exact hr.low i
theorem ag1 {ρ:Ren} {h:HP} {w:World} {d n:Nat} {p:PT} (hs:p.shape d=true) (hi:isH d p n h=true) (hr:HR ρ h w):Ext ρ h w ρ (ai3 d p n) w:=by
 obtain⟨k,t,m⟩:=h
 have hi: @Bool.rec (fun _=>Bool) false (@Bool.rec (fun _=>Bool) false (p.in_ t) (Nat.beq d k)) (Nat.beq n m)=true:=hi
 obtain⟨h1,h2⟩:=zq hi
 obtain⟨h3,h4⟩:=zq h2
 have e1:=(zu _ _).1 h1
 have e2:=(zu _ _).1 h3
 subst e1;subst e2
 obtain⟨hw1,hw2⟩:=hr.wf
 have hw1:t.wf (2^d):=hw1
 have hw2:n≤2^d:=hw2
 obtain⟨k1,k2⟩:=aBK p d t hs hw1 h4
 refine Ext.kills hr ⟨k1,hw2⟩ rfl fun i=>?_
 rw[HP.get_eq,HP.get_eq]
 show(if i<n then(p.tree d).get i else .dead)= .dead∨(if i<n then(p.tree d).get i else .dead)=(if i<n then t.get i else .dead)
 by_cases q:i<n
 ·rw[if_pos q,if_pos q];exact k2 i (by omega)
 ·rw[if_neg q];exact .inl rfl
structure zk (P:Program) (e:Ent):Prop where
 s:e.p.shape e.d=true
 c:qy P e.f e.a e.h e.v e.h'
theorem aBm {e:Ent} (he:zk P e) {f:Nat} {a:List AV} {h:HP} (hl:e.look f a h=true):qy P f a h e.v e.h':=by
 obtain⟨h1,h2⟩:=zq (show @Bool.rec (fun _=>Bool) false (@Bool.rec (fun _=>Bool) false (isH e.d e.p e.n h) (eqL (eqA 4) e.a a)) (Nat.beq e.f f)=true from hl)
 obtain⟨h3,h4⟩:=zq h2
 have e1:=(zu _ _).1 h1
 have e2:=Xc (Jj 4) _ _ h3
 subst e1;subst e2
 intro ρ args' w K hv hr hK
 have x:=ag1 he.s h4 hr
 exact he.c ρ args' w K hv x.hr fun ρ' v' w' x' hv'=>hK ρ' v' w' (x.trans x') hv'
theorem agL {f:Nat} {a:List AV} {h:HP} {v:AV} {h':HP} : ∀(l:List Ent),(∀e∈l,zk P e)→agK f a h l=some (v,h')→qy P f a h v h'
 | [],_,hf=>by cases hf
 | e::l,hl,hf=>by
  have hf: @Bool.rec (fun _=>Option (AV×HP)) (agK f a h l) (some (e.v,e.h')) (e.look f a h)=some (v,h'):=hf
  rw[zN]at hf
  split at hf
  ·next q=>
   injection hf with hf
   injection hf with e1 e2
   subst e1;subst e2
   exact aBm (hl e List.mem_cons_self) q
  ·exact agL l (fun x hx=>hl x (List.mem_cons_of_mem _ hx)) hf
theorem aoy {S:Sm} {l:List Ent} (hS:acj P S) (hl: ∀e∈l,zk P e):acj P (aNg S l) where
 s :=fun f g hg args h v h' hgo=>by
  have hg: @Bool.rec (fun _=>Option (List AV→HP→Option (AV×HP))) (S.S f) (some (fun a h=>agK f a h l)) (aRK f l)=some g:=hg
  rw[zN]at hg
  split at hg
  ·injection hg with hg
   subst hg
   exact agL l hl hgo
  ·exact hS.s f g hg args h v h' hgo
 i:=hS.i
theorem zi (hm:P.follows .mixedOrders=true) (hN:ach P) {S:Sm} {l:List Ent} {e:Ent} (hS:acj P S) (hl: ∀e∈l,zk P e) (hb:zF P S l e=true):zk P e:=by
 obtain⟨h1,h2⟩:=zq (show @Bool.rec (fun _=>Bool) false (@Bool.rec (fun _=>Bool) false (@Bool.rec (fun _=>Bool) false (e.is (run P (aNg S l) 1000000 e.f e.a e.h)) (Nat.ble e.n (Nat.pow 2 e.d))) (e.p'.shape e.d')) (e.p.shape e.d)=true from hb)
 obtain⟨h3,h4⟩:=zq h2
 obtain⟨_,h5⟩:=zq h4
 refine⟨h1,?_⟩
 have hcall:=aM3 hm hN (aoy hS hl) 1000000
 cases hr:run P (aNg S l) 1000000 e.f e.a e.h with
 |none=>rw[hr]at h5;cases h5
 |some vh=>
  obtain⟨v,h⟩:=vh
  rw[hr]at h5
  obtain⟨h6,h7⟩:=zq (show @Bool.rec (fun _=>Bool) false (isH e.d' e.p' e.n' h) (eqA 4 e.v v)=true from h5)
  have e1:=Jj 4 _ _ h6
  obtain⟨v1,g1,k1,k2⟩:=hcall _ _ _ _ _ hr
  injection k1 with k1
  injection k1 with q1 q2
  subst q1;subst q2;subst e1
  intro ρ args' w K hv hw hK
  refine k2 ρ args' w K hv hw fun ρ' v' w' x hv'=>?_
  exact hK ρ' v' w' (x.trans (ag1 h3 h7 x.hr)) hv'
end Kv
end
end
section
abbrev Bs:=List UInt8
def S (l:Bs):ByteArray:=⟨l.toArray⟩
@[go_sem] theorem ja (l:Bs):(S l).size=l.length:=by simp[S,ByteArray.size]
@[go_sem] theorem qz (a b:Bs):S a++S b=S (a++b):=Go.ByteArray.mk_append_mk ..
@[go_sem] theorem aCC (l:Bs) (i j:Nat):(S l).extract i j=S ((l.drop i).take (j-i)):=Go.ByteArray.extract_mk ..
@[go_sem] theorem aiv (l:Bs):(S l).toList=l:=Go.ByteArray.toList_mk l
section
variable {P:Program} (w:World)
@[go_sem high] theorem aBX (t:TypeId) (l:Bs) (k:IntKind) (i:Int) (h:P.underlying t=some .string) (h0:0≤i) (h1:i<l.length):
  (Instr.index t (.string (S l)) (.int k i)).run P w= .ok (.int .u8 ((l.getD i.toNat 0).toNat:Int)) w:=by
 rw[run_index_string w t (S l) k i h,dif_pos ⟨h0,by rw[ja];exact h1⟩]
 have h2:i.toNat<l.length:=by omega
 have e:(S l)[i.toNat]'(by rw[ja];exact h2)=l[i.toNat]:=by
  show l.toArray[i.toNat]=_
  simp
 rw[e]
 simp[List.getD,h2]
end
def two (n:Nat):Bs:=[UInt8.ofNat (n / 256),UInt8.ofNat n]
@[simp] theorem aCu (n:Nat):(two n).length=2:=rfl
def un2 (a b:UInt8):Nat:=a.toNat*256+b.toNat
theorem aB7 {n:Nat} (h:n<65536):un2 (UInt8.ofNat (n / 256)) (UInt8.ofNat n)=n:=by
 simp[un2];omega
def ahM (rs:List Bs):Nat:=(rs.map List.length).sum
@[simp] theorem aNB:ahM []=0:=rfl
@[simp] theorem aM1 (r:Bs) (rs:List Bs):ahM (r::rs)=r.length+ahM rs:=by simp[ahM]
@[simp] theorem aBT (a b:List Bs):ahM (a++b)=ahM a+ahM b:=by simp[ahM]
def QD:Nat→List Bs→List (Nat×Nat)
 |_,[]=>[]
 |top,r::rs=>(top-r.length,r.length)::QD (top-r.length) rs
@[simp] theorem ais (rs:List Bs): ∀top,(QD top rs).length=rs.length:=by
 induction rs with
 |nil=>intro;rfl
 |cons r rs ih=>intro top;simp[QD,ih]
def agO (l:List (Nat×Nat)):Bs:=l.flatMap fun x=>two x.1++two x.2
@[simp] theorem aMl:agO []=[]:=rfl
@[simp] theorem aCk (x:Nat×Nat) (l:List (Nat×Nat)):agO (x::l)=two x.1++two x.2++agO l:=rfl
@[simp] theorem anS (l:List (Nat×Nat)):(agO l).length=4*l.length:=by
 induction l with
 |nil=>rfl
 |cons x l ih=>simp[ih];omega
def aiX:List Bs→Bs
 | []=>[]
 |r::rs=>aiX rs++r
@[simp] theorem anU (rs:List Bs):(aiX rs).length=ahM rs:=by
 induction rs with
 |nil=>rfl
 |cons r rs ih=>simp[aiX,ih];omega
def used (rs:List Bs):Nat:=4+4*rs.length+ahM rs
def lay (rs:List Bs):Bs:=two rs.length++two (232-ahM rs)++agO (QD 232 rs)++List.replicate (232-used rs) 0++aiX rs
end
section
def be:Nat→Nat→Bs
 |0,_=>[]
 |k+1,n=>UInt8.ofNat (n / 256^k)::be k n
@[simp] theorem aL0 (k n:Nat):(be k n).length=k:=by
 induction k with
 |zero=>rfl
 |succ k ih=>simp[be,ih]
def jY (l:Bs):Nat:=l.foldl (fun a b=>a*256+b.toNat) 0
theorem aB8 (l:Bs): ∀a,l.foldl (fun a b=>a*256+b.toNat) a=a*256^l.length+jY l:=by
 induction l with
 |nil=>intro a;simp[jY]
 |cons b l ih=>
  intro a
  simp only[List.foldl_cons,jY]
  rw[ih,ih (0*256+b.toNat)]
  simp[Nat.pow_succ,Nat.add_mul,Nat.mul_assoc,Nat.mul_comm 256]
  omega
theorem aig (b:UInt8) (l:Bs):jY (b::l)=b.toNat*256^l.length+jY l:=by
 have:=aB8 l b.toNat
 simp[jY]at this⊢
 exact this
theorem JO (l:Bs) (b:UInt8):jY (l++[b])=jY l*256+b.toNat:=by simp[jY]
theorem kR (l:Bs):jY l<256^l.length:=by
 induction l with
 |nil=>simp[jY]
 |cons b l ih=>
  rw[aig]
  have:=b.toNat_lt
  simp only[List.length_cons,Nat.pow_succ]
  have:b.toNat*256^l.length≤255*256^l.length:=Nat.mul_le_mul_right _ (by omega)
  omega
def X6 (x:Int):Bs:=be 8 (x+9223372036854775808).toNat
@[simp] theorem aAY (x:Int):(X6 x).length=8:=by simp[X6]
end
section
open Go.RowKit
theorem hid {p:Prop} (h:p):Hid p:=h
theorem Z0 {B:Nat} {a w:World} (h:Below B a w) (n:Nat):Below B a (w.drewN n):=⟨h.os,h.tape,h.output,h.size,h.block⟩
theorem yd {P:Program} {ops:Array Oper} {Q:Exit→Act→World→Prop} {rest:List Oper} {o:Oper} {a:Act} {w:World} (b:Builtin) {args:Array Operand} {ts:Array TypeId}
  (_:o.op= .call { callee:= .builtin b,args:=args,argTypes:=ts }) (h:Hid (wpList P ops Q (o::rest) a w)):wpList P ops Q (o::rest) a w:=h
theorem YF {P:Program} {ops:Array Oper} {Q:Exit→Act→World→Prop} {rest:List Oper} {o:Oper} {a:Act} {w:World} (ty:TypeId) {x y:Operand}
  (_:o.op= .store ty x y) (h:Hid (wpList P ops Q (o::rest) a w)):wpList P ops Q (o::rest) a w:=h
theorem ki {p:Prop} (h:p):Hid p:=h
structure Kp (O:List Nat) (w w':World):Prop where
 os:w'.os=w.os
 tape:w'.tape=w.tape
 output:w'.output=w.output
 size:w.heap.size≤w'.heap.size
 block: ∀b,b<w.heap.size→b∉O→w'.heap[b]? =w.heap[b]?
def Gr (O:List Nat) (n:Nat) (O':List Nat):Prop:= ∀x∈O',x∈O∨n≤x
theorem Gr.refl (O:List Nat) (n:Nat):Gr O n O:=fun _ h=> .inl h
theorem Gr.trans {O O1 O2:List Nat} {n m:Nat} (h:Gr O n O1) (h2:Gr O1 m O2) (hm:n≤m):Gr O n O2:=fun x hx=>by
 rcases h2 x hx with h'|h'
 ·exact h x h'
 ·exact .inr (by omega)
theorem Gr.mono {O O':List Nat} {n m:Nat} (h:Gr O n O') (hm:m≤n):Gr O m O':=fun x hx=>(h x hx).imp id (by omega)
theorem Gr.out {O O':List Nat} {n b:Nat} (h:Gr O n O') (hb:b<n) (ho:b∉O):b∉O':=fun hx=>by
 rcases h b hx with h'|h'
 ·exact ho h'
 ·omega
namespace Kp
variable {O O':List Nat} {w w' w'' a:World}
theorem refl (O:List Nat) (w:World):Kp O w w:=⟨rfl,rfl,rfl,Nat.le_refl _,fun _ _ _=>rfl⟩
theorem trans (h:Kp O w w') (k:Kp O w' w''):Kp O w w'':=
 ⟨k.os.trans h.os,k.tape.trans h.tape,k.output.trans h.output,Nat.le_trans h.size k.size,fun b hb ho=>(k.block b (Nat.lt_of_lt_of_le hb h.size) ho).trans (h.block b hb ho)⟩
theorem trans_gr (h:Kp O w w') (hg:Gr O w.heap.size O') (k:Kp O' w' w''):Kp O w w'':=
 ⟨k.os.trans h.os,k.tape.trans h.tape,k.output.trans h.output,Nat.le_trans h.size k.size,fun b hb ho=>(k.block b (Nat.lt_of_lt_of_le hb h.size) (hg.out hb ho)).trans (h.block b hb ho)⟩
theorem mono (h:Kp O w w') (hs: ∀x∈O,x∈O'∨w.heap.size≤x):Kp O' w w':=
 ⟨h.os,h.tape,h.output,h.size,fun b hb ho=>h.block b hb fun hx=>(hs b hx).elim ho (by omega)⟩
theorem of_below (h:Below w.heap.size w w'):Kp O w w':=⟨h.os,h.tape,h.output,h.size,fun b hb _=>h.block b hb⟩
theorem to_below (h:Kp O w w') {B:Nat} (hB:B≤w.heap.size) (ho: ∀x∈O,B≤x):Below B w w':=
 ⟨h.os,h.tape,h.output,h.size,fun b hb=>h.block b (by omega) fun hx=>by have:=ho b hx;omega⟩
theorem drewN (h:Kp O a w) (n:Nat):Kp O a (w.drewN n):=⟨h.os,h.tape,h.output,h.size,h.block⟩
theorem drew (h:Kp O a w):Kp O a w.drew:=⟨h.os,h.tape,h.output,h.size,h.block⟩
theorem alloc (h:Kp O a w) (o:Obj):Kp O a (w.alloc o):=
 ⟨h.os,h.tape,h.output,Nat.le_trans h.size (by simp),fun b hb ho=>(Below.heap_alloc w o b (Nat.lt_of_lt_of_le hb h.size)).trans (h.block b hb ho)⟩
theorem setCell (h:Kp O a w) {p:Addr} (hp:p.block∈O∨a.heap.size≤p.block) (u:Value):Kp O a (w.setCell p u):=
 ⟨h.os,h.tape,h.output,by simpa[World.setCell]using h.size,fun b hb ho=>(Below.heap_setCell w p u b (by
  rintro rfl
  rcases hp with hp|hp
  ·exact ho hp
  ·omega)).trans (h.block b hb ho)⟩
theorem grown (h:Kp O a w) {row:Option Nat} (hg:w.grownBy w' row) (hr: ∀g,row=some g→g∈O∨a.heap.size≤g):Kp O a w':=
 ⟨hg.os.trans h.os,hg.tape.trans h.tape,hg.output.trans h.output,Nat.le_trans h.size hg.size,fun b hb ho=>(hg.block b (Nat.lt_of_lt_of_le hb h.size) (fun e=>by
  rcases hr b e.symm with h'|h'
  ·exact ho h'
  ·omega)).trans (h.block b hb ho)⟩
theorem cell (h:Kp O w w') {p:Addr} (hp:p.block<w.heap.size) (ho:p.block∉O):w'.cell? p=w.cell? p:=World.cell?_of_block (h.block _ hp ho)
theorem frozen (h:Kp O w w') {p:Addr} (hp:p.block<w.heap.size) (ho:p.block∉O):w'.frozen? p=w.frozen? p:=World.frozen?_of_block (h.block _ hp ho)
end Kp
def Blk (w:World) (g:Nat) (t:TypeId) (cs:Array Value):Prop:=w.heap[g]? =some (.cells cs t (0,0))
section
variable {w w':World} {g:Nat} {t:TypeId} {cs:Array Value}
theorem Blk.lt (h:Blk w g t cs):g<w.heap.size:=lt_of_block h
theorem Blk.cell (h:Blk w g t cs) (i:Nat):w.cell? ⟨g,i,none⟩=cs[i]? :=cell_of_row w g i cs t (0,0) h
theorem Blk.frozen (h:Blk w g t cs) (i:Nat):w.frozen? ⟨g,i,none⟩=false:=by
 unfold Blk at h
 simp[World.frozen?,h]
theorem Blk.new (w:World) (t:TypeId) (cs:Array Value):Blk (w.alloc (.cells cs t)) w.heap.size t cs:=heap_alloc_new w _
theorem Blk.drew (h:Blk w g t cs):Blk w.drew g t cs:=h
theorem Blk.drewN (h:Blk w g t cs) (n:Nat):Blk (w.drewN n) g t cs:=h
theorem Blk.alloc (h:Blk w g t cs) (o:Obj):Blk (w.alloc o) g t cs:=(Below.heap_alloc w o g h.lt).trans h
theorem Blk.set_ (h:Blk w g t cs) (i:Nat) (u:Value):Blk (w.setCell ⟨g,i,none⟩ u) g t (cs.setIfInBounds i u):=by
 unfold Blk at h⊢
 simp[World.setCell,Array.getElem?_modify,h]
theorem Blk.far (h:Blk w g t cs) {p:Addr} (hp:g≠p.block) (u:Value):Blk (w.setCell p u) g t cs:=(Below.heap_setCell w p u g hp).trans h
theorem Blk.below {B:Nat} (h:Blk w g t cs) (hb:Below B w w') (hg:g<B):Blk w' g t cs:=(hb.block g hg).trans h
theorem Blk.grown {row:Option Nat} (h:Blk w g t cs) (hb:w.grownBy w' row) (hg:some g≠row):Blk w' g t cs:=(hb.block g h.lt hg).trans h
theorem Blk.kp {O:List Nat} (h:Blk w g t cs) (hk:Kp O w w') (ho:g∉O):Blk w' g t cs:=(hk.block g h.lt ho).trans h
theorem Blk.ne_ {g':Nat} {t':TypeId} {cs':Array Value} (h:Blk w g t cs) (h':Blk w g' t' cs') (hne:t≠t'):g≠g':=by
 rintro rfl
 unfold Blk at h h'
 rw[h]at h'
 injection h' with h'
 injection h' with _ ht
 exact hne ht
end
end
section
open Go.RowKit
def cB (l:Bs):List Value:=l.map fun b=>Value.int .u8 (b.toNat:Int)
@[simp] theorem aL3 (l:Bs):(cB l).length=l.length:=by simp[cB]
@[simp] theorem aL2 (a b:Bs):cB (a++b)=cB a++cB b:=by simp[cB]
end
section
open Go.RowKit
theorem Xj {w:World} {B:Nat} {v:Value} {b:Bs} (h:w.ownsRow B 5 1 v b.length (cB b)):
  (convert 73 9 v).run Tryz.prog w= .ok (.string (S b)) w:=by
 rcases h.2 with⟨rfl,h0⟩ | ⟨g,cap,cur,rfl,hg,hh,hn,_,hs,ht⟩
 ·have:b=[]:=List.length_eq_zero_iff.1 h0
  subst this
  exact run_convert_bytes_nil w 73 5 Tryz.underlying73 Tryz.underlying5 0 0 9 Tryz.underlying9
 ·refine run_convert_bytes_back w 73 9 5 ⟨g,0,none⟩ cap b Tryz.underlying73 Tryz.underlying5 Tryz.underlying9 fun j hj=>?_
  refine h.cells (g:=g) rfl j _ ?_
  simp[cB,hj]
theorem aih (s:Bs) (k:Nat) (h:k<s.length):jY (s.take (k+1))=jY (s.take k)*256+(s.getD k 0).toNat:=by
 have e:s.getD k 0=s[k]:=by simp[List.getD,h]
 rw[List.take_succ_eq_append_getElem h,e,JO]
theorem aBD (m c:Nat) (hm:m<72057594037927936) (hc:c<256):bits .or .u64 (IntKind.u64.wrap ((m:Int)*256)) (c:Int)=((m*256+c:Nat):Int):=by
 have h1:IntKind.u64.wrap ((m:Int)*256)=((m*256:Nat):Int):=by rw[IntKind.wrap_u64];omega
 rw[h1,u64_or_nat _ _ (by omega) (by omega),nat_join 8 _ _ (by omega) (by omega)]
theorem aA6 (s:Bs) (w:World) (hs:s.length≤8):
  Calls Tryz.prog 177 #[.string (S s)] w fun e w'=>e= .returned (.int .u64 (jY s))∧w=w':=by
 go_enter Tryz.func177,Tryz.ntmps177
 go_wp2
 go_loop [3,7] (fun n i=> ∃k:Nat,k≤s.length∧i= .int .i64 k∧n= .int .u64 (jY (s.take k))) (fun _ i=>s.length- (intOf i).toNat)
 case atStart=>exact⟨0,Nat.zero_le _,rfl,rfl⟩
 case round=>
  obtain⟨k,hk,rfl,rfl⟩:=hrel
  by_cases hlt:k<s.length
  ·have hu:=hid (aih s k hlt)
   have hm:=kR (s.take k)
   have hp:256^(s.take k).length≤256^7:=Nat.pow_le_pow_right (by omega) (by simp;omega)
   have hm2:=hid (Nat.lt_of_lt_of_le hm hp)
   clear hm hp
   go_wp2
   go_round
   case rel=>
    refine⟨k+1,by omega,by go_num,?_⟩
    have e:s.getD k 0=s[k]:=by simp[List.getD,hlt]
    rw[hu.out,e]
    have hc:=s[k].toNat_lt
    have h1:IntKind.u64.wrap (s[k].toNat:Int)=(s[k].toNat:Int):=by rw[IntKind.wrap_u64];omega
    rw[h1,aBD _ _ hm2.out (by omega)]
   case measure=>simp[intOf];omega
  ·have hke:k=s.length:=by omega
   go_wp2
   go_ret
   subst hke
   exact⟨by simp,rfl⟩
def qr (len:Nat) (at_ n:Int):Int:=if at_<0∨len<at_ then 3 else if len-at_<n then 5 else 0
theorem aaC (s:Bs) (i n:Int) (w:World) (hl:s.length≤1000000):
  Calls Tryz.prog 176 #[.string (S s),.int .i64 i,.int .i64 n] w fun e w'=>e= .returned (.int .i64 (qr s.length i n))∧w=w':=by
 by_cases h1:i<0
 ·go_enter Tryz.func176,Tryz.ntmps176
  go_wp2
  go_ret
  exact⟨by simp[qr,h1],rfl⟩
 by_cases h2:(s.length:Int)<i
 ·go_enter Tryz.func176,Tryz.ntmps176
  go_wp2
  go_ret
  exact⟨by simp[qr,h2],rfl⟩
 by_cases h3:(s.length:Int) -i<n
 ·go_enter Tryz.func176,Tryz.ntmps176
  go_wp2
  go_ret
  exact⟨by simp[qr,h1,h2,h3],rfl⟩
 ·go_enter Tryz.func176,Tryz.ntmps176
  go_wp2
  go_ret
  have he:qr s.length i n=0:=by unfold qr;rw[if_neg (by omega),if_neg (by omega)]
  exact⟨by rw[he];rfl,rfl⟩
theorem JD (s:Bs) (i:Nat) (w:World) (hl:s.length≤1000000) (hi:i+8≤s.length):
  Calls Tryz.prog 137 #[.string (S s),.int .i64 i] w fun e w'=>e= .returned (.tuple #[.int .u64 (jY ((s.drop i).take 8)),.int .i64 ((i+8:Nat):Int),.int .i64 0])∧w=w':=by
 have he:qr s.length i 8=0:=by unfold qr;split;omega;split;omega;rfl
 have e8:i+8-i=8:=by omega
 go_enter Tryz.func137,Tryz.ntmps137
 go_wp2_with (first
  | (go_at_call 176;refine(aaC s i 8 _ hl).mono ?_;rintro e w' ⟨rfl,rfl⟩)
  | (go_at_call 177;refine(aA6 _ _ ?hq).mono ?_;rotate_left;rintro e w' ⟨rfl,rfl⟩))
 case hq=>simp;omega
 go_ret3
 exact⟨by simp,rfl⟩
theorem aaX (s:Bs) (i:Int) (w:World) (hl:s.length≤1000000) (hi:qr s.length i 8≠0):
  Calls Tryz.prog 137 #[.string (S s),.int .i64 i] w fun e w'=>e= .returned (.tuple #[.int .u64 0,.int .i64 0,.int .i64 (qr s.length i 8)])∧w=w':=by
 have hne:((qr s.length i 8==0)=false):=by simpa using hi
 go_enter Tryz.func137,Tryz.ntmps137
 go_wp2_with (go_at_call 176;refine(aaC s i 8 _ hl).mono ?_;rintro e w' ⟨rfl,rfl⟩)
 go_ret3
 exact⟨by simp,rfl⟩
def aNq (b:Bs):Int:=(jY b:Int) -9223372036854775808
theorem ajS (b:Bs) (h:b.length=8):wrap64 (IntKind.u64.wrap ((jY b:Int)+9223372036854775808))=aNq b:=by
 have:=kR b;rw[h]at this;unfold aNq wrap64;rw[IntKind.wrap_u64];omega
theorem ahI (s:Bs) (i:Nat) (w:World) (hl:s.length≤1000000) (hi:i+8≤s.length):
  Calls Tryz.prog 136 #[.string (S s),.int .i64 i] w fun e w'=>e= .returned (.tuple #[.int .i64 (aNq ((s.drop i).take 8)),.int .i64 ((i+8:Nat):Int),.int .i64 0])∧w=w':=by
 have hd:=hid (ajS ((s.drop i).take 8) (by simp;omega))
 go_enter Tryz.func136,Tryz.ntmps136
 go_wp2_with (go_at_call 137;refine(JD s i _ hl hi).mono ?_;rintro e w' ⟨rfl,rfl⟩)
 go_ret3
 exact⟨by rw[←hd.out];simp,rfl⟩
theorem ajo (s:Bs) (i:Int) (w:World) (hl:s.length≤1000000) (hi:qr s.length i 8≠0):
  Calls Tryz.prog 136 #[.string (S s),.int .i64 i] w fun e w'=>e= .returned (.tuple #[.int .i64 0,.int .i64 0,.int .i64 (qr s.length i 8)])∧w=w':=by
 have hne:((qr s.length i 8==0)=false):=by simpa using hi
 go_enter Tryz.func136,Tryz.ntmps136
 go_wp2_with (go_at_call 137;refine(aaX s i _ hl hi).mono ?_;rintro e w' ⟨rfl,rfl⟩)
 go_ret3
 exact⟨by simp,rfl⟩
end
section
def tbl:List Nat:=[0x00000000,0x105ec76f,0x20bd8ede,0x30e349b1,0x417b1dbc,0x5125dad3,0x61c69362,0x7198540d,0x82f63b78,0x92a8fc17,0xa24bb5a6,0xb21572c9,0xc38d26c4,0xd3d3e1ab,0xe330a81a,0xf36e6f75]
theorem aom (i:Nat):tbl.getD i 0<2^32:=by
 rcases Nat.lt_or_ge i 16 with h|h
 ·have: ∀i:Fin 16,tbl.getD i 0<2^32:=by decide
  exact this ⟨i,h⟩
 ·have:tbl.getD i 0=0:=by
   have h2:tbl[i]? =none:=List.getElem?_eq_none (by simpa[tbl]using h)
   simp[List.getD,h2]
  rw[this];decide
def tk1 (r:Nat):Nat:=(r / 16)^^^tbl.getD (r%16) 0
def tk (r:Nat) (c:UInt8):Nat:=tk1 (tk1 (r^^^c.toNat))
theorem aib {r:Nat} (h:r<2^32):tk1 r<2^32:=Nat.xor_lt_two_pow (by omega) (aom _)
theorem aSf {r:Nat} (c:UInt8) (h:r<2^32):tk r c<2^32:=
 aib (aib (Nat.xor_lt_two_pow h (Nat.lt_of_lt_of_le c.toNat_lt (by decide))))
def YL (r:Nat) (s:Bs):Nat:=s.foldl tk r
theorem aiJ (s:Bs): ∀r,r<2^32→YL r s<2^32:=by
 induction s with
 |nil=>intro r h;exact h
 |cons c s ih=>intro r h;exact ih _ (aSf c h)
theorem abt (s:Bs) (r j:Nat) (h:j<s.length):YL r (s.take (j+1))=tk (YL r (s.take j)) (s.getD j 0):=by
 have e:s.getD j 0=s[j]:=by simp[List.getD,h]
 rw[e]
 unfold YL
 rw[List.take_succ_eq_append_getElem h,List.foldl_append]
 rfl
def crc (s:Bs):Nat:=4294967295-YL 4294967295 s
def aMo (n:Nat):Bs:=[UInt8.ofNat n,UInt8.ofNat (n / 256),UInt8.ofNat (n / 65536),UInt8.ofNat (n / 16777216)]
@[simp] theorem aA4 (n:Nat):(aMo n).length=4:=rfl
def Xa (s:Bs):Bs:=aMo (crc s)++s
@[simp] theorem aiK (s:Bs):(Xa s).length=4+s.length:=by simp[Xa]
@[simp] theorem aAS (s:Bs):(Xa s).take 4=aMo (crc s):=by simp[Xa,aMo]
@[simp] theorem aAR (s:Bs):(Xa s).drop 4=s:=by simp[Xa,aMo]
end
section
open Go.RowKit
def aSd:Array Value:= #[Value.int .u32 0,.int .u32 274646895,.int .u32 549293790,.int .u32 820201905,.int .u32 1098587580,.int .u32 1361435347,.int .u32 1640403810,.int .u32 1905808397,.int .u32 2197175160,.int .u32 2460548119,.int .u32 2722870694,.int .u32 2987750089,.int .u32 3280807620,.int .u32 3553878443,.int .u32 3811616794,.int .u32 4084100981]
theorem tblI: ∀i,i<16→aSd[i]? =some (.int .u32 ((tbl.getD i 0:Nat):Int))
 |0,_|1,_|2,_|3,_|4,_|5,_|6,_|7,_|8,_|9,_|10,_|11,_|12,_|13,_|14,_|15,_=>rfl
 |n+16,h=>absurd h (by omega)
def tkI (r:Nat):Nat→Nat
 |0=>r
 |k+1=>tk1 (tkI r k)
theorem aoo {r:Nat} (h:r<4294967296): ∀k,tkI r k<4294967296
 |0=>h
 |k+1=>aib (aoo h k)
theorem ajH (r:Nat) (c:UInt8) (w:World) (hr:r<4294967296):
  Calls Tryz.prog 402 #[.int .u32 r,.int .u8 (c.toNat:Int)] w fun e w'=>e= .returned (.int .u32 (tk r c))∧Below w.heap.size w w':=by
 have hc:=c.toNat_lt
 have hl:=hid (Nat.xor_lt_two_pow (n:=32) hr (by omega:c.toNat<2^32))
 have HR:=hid hr
 clear hr
 obtain⟨x,hx⟩: ∃x:Nat,x=r^^^c.toNat:=⟨_,rfl⟩
 have hre:tk r c=tkI x 2:=by rw[hx];rfl
 have HX:=hid hx
 rw[hre]
 clear hre hx
 go_enter Tryz.func402,Tryz.ntmps402
 go_wp2
 obtain⟨W,hW⟩: ∃W:World,W=w.alloc (.cells aSd 532):=⟨_,rfl⟩
 have hB:Below w.heap.size w W:=by rw[hW];exact(Below.refl _ _).alloc (Nat.le_refl _) _
 have hT:Hid (∀i,i<16→W.cell? ⟨w.heap.size,i,none⟩=some (.int .u32 ((tbl.getD i 0:Nat):Int))):=by
  rw[hW]
  exact hid fun i hi=>by rw[cell_of_row _ _ i _ _ (0,0) (heap_alloc_new w _)];exact tblI i hi
 rw[←HX.out]at hl
 have e0:bits .xor .u32 (r:Int) (c.toNat:Int)=((x:Nat):Int):=by rw[HX.out,u32_xor_nat _ _ HR.out (by omega)]
 unfold aSd at hW
 rw[←hW,e0]
 clear e0 hW hc HR HX
 go_loop [0,11] (fun v i=> ∃k:Nat,k≤2∧i= .int .i64 k∧v= .int .u32 (tkI x k)) (fun _ i=>2- (intOf i).toNat)
 case atStart=>exact⟨0,by omega,rfl,rfl⟩
 case round=>
  obtain⟨k,hk,rfl,rfl⟩:=hrel
  have hy:=aoo hl.out k
  have hs:=hid (show tkI x (k+1)=tk1 (tkI x k)from rfl)
  obtain⟨y,hyx⟩: ∃y,tkI x k=y:=⟨_,rfl⟩
  rw[hyx]at hy hs
  have HY:=hid hyx
  rw[hyx]
  clear hyx
  have hand:bits .and .u32 (y:Int) 15=((y%16:Nat):Int):=by
   rw[show(15:Int)=((15:Nat):Int)from rfl,u32_and_nat _ _ hy (by omega),nat_mask4]
  have hc:=hT.out (y%16) (by omega)
  have hm:y%16<16:=by omega
  by_cases hlt:k<2
  ·go_wp2
   go_round
   case rel=>
    refine⟨k+1,by omega,by go_num,?_⟩
    rw[hs.out]
    have ht:=aom (y%16)
    have e:((y:Int) / 16)=((y / 16:Nat):Int):=by omega
    have e2:tbl[y%16]?.getD 0=tbl.getD (y%16) 0:=by simp[List.getD]
    rw[e,e2,u32_xor_nat _ _ (by omega) (by omega)]
    rfl
   case measure=>simp[intOf];omega
  ·have hke:k=2:=by omega
   subst hke
   go_wp2
   go_ret
   exact⟨by rw[HY.out];rfl,hB⟩
end
section
open Go.RowKit
theorem aMI (r:Nat) (hr:r<4294967296):bits .xor .u32 IntKind.u32.max (r:Int)=((4294967295-r:Nat):Int):=by
 have h:IntKind.u32.max=((4294967295:Nat):Int):=rfl
 rw[h,u32_xor_nat _ _ (by omega) hr]
 congr 1
 have h1:(4294967295:Nat)=2^32-1:=rfl
 have h2:4294967295-r=2^32- (r+1):=by omega
 rw[h2,h1]
 refine Nat.eq_of_testBit_eq fun i=>?_
 rw[Nat.testBit_xor,Nat.testBit_two_pow_sub_one,Nat.testBit_two_pow_sub_succ hr]
 by_cases hi:i<32
 ·simp[hi]
 ·have:r.testBit i=false:=Nat.testBit_lt_two_pow (Nat.lt_of_lt_of_le hr (Nat.pow_le_pow_right (by omega) (by omega):2^32≤2^i))
  simp[hi,this]
theorem ai5 (r:Nat) (s:Bs) (w:World) (hr:r<4294967296) (hs:s.length≤1000000):
  Calls Tryz.prog 330 #[.int .u32 r,.string (S s)] w fun e w'=>e= .returned (.int .u32 ((4294967295-YL (4294967295-r) s:Nat):Int))∧Below w.heap.size w w':=by
 have hn:=aMI r hr
 obtain⟨q,hq⟩: ∃q,q=4294967295-r:=⟨_,rfl⟩
 rw[←hq]at hn⊢
 have hql:=hid (show q<4294967296 by omega)
 clear hq hr
 go_enter Tryz.func330,Tryz.ntmps330
 go_wp2
 go_loopw [5,11] (fun v i wr=> ∃k:Nat,k≤s.length∧i= .int .i64 k∧v= .int .u32 (YL q (s.take k))∧Below w.heap.size w wr) (fun _ i _=>s.length- (intOf i).toNat)
 case atStart=>exact⟨0,by omega,rfl,rfl,Below.refl _ _⟩
 case round=>
  obtain⟨k,hk,rfl,rfl,hb⟩:=hrel
  have hy:=hid (aiJ (s.take k) q hql.out)
  by_cases hlt:k<s.length
  ·have hst:=hid (abt s q k hlt)
   obtain⟨y,hyx⟩: ∃y,YL q (s.take k)=y:=⟨_,rfl⟩
   rw[hyx]at hy hst⊢
   have hsz:=hb.size
   have hc:=hid (fun W=>ajH y (s.getD k 0) W hy.out)
   have e:s.getD k 0=s[k]:=by simp[List.getD,hlt]
   rw[e]at hc hst
   clear e hyx
   go_wp2_with (go_at_call 402;refine(hc.out _).mono ?_;rintro e w1 ⟨rfl,hb1⟩)
   go_roundw
   case rel=>exact⟨k+1,by omega,by go_num,by rw[hst.out],hb.trans (hb1.mono hsz)⟩
   case measure=>simp[intOf];omega
  ·have hke:k=s.length:=by omega
   subst hke
   have ht:s.take s.length=s:=by simp
   rw[ht]at hy⊢
   have hn2:=aMI _ hy.out
   clear ht
   go_wp2
   go_ret
   exact⟨rfl,hb⟩
end
section
noncomputable section
namespace Kv
open Go.RowKit
variable {P:Program}
section
variable {ρ:Ren} {h:HP} {w w':World}
theorem Ext.of_below (hr:HR ρ h w) (b:Below w.heap.size w w'):Ext ρ h w ρ h w':=
 ⟨RLe.refl ρ,⟨hr.wf,fun i g κ hi=>by obtain⟨h1,o,h2,h3⟩:=hr.at_ i g κ hi;exact⟨h1,o,by rw[b.block g (hr.lt hi)];exact h2,h3⟩,hr.inj,hr.low⟩,fun i p h1 h2=>(by rw[h1]at h2;cases h2),Nat.le_refl _,b.size,fun k hk _=>b.block k hk,fun i g κ h1 h2 _=>⟨i,κ,h1,h2⟩,b.os,b.output,b.tape⟩
theorem JY.value {f:FuncId} {args:Array Value} {K:Value→World→Prop} {v:Value} (hr:(callFunc f args).run P w= .ok (.value v) w') (h:K v w'):JY P f args w K:=by
 unfold JY;rw[hr];exact h
theorem JY.calls {f:FuncId} {args:Array Value} {K:Value→World→Prop} {fn:Func} {c:Code} (e1:P.funcs[f]? =some fn) (e2:fn.body=some c) (e3:fn.name≠ "runtime.NumGoroutine") (h:Calls P f args w fun e w'=> ∃v,e= .returned v∧K v w'):JY P f args w K:=by
 unfold JY
 rw[jL e1 e2 e3]
 refine h.mono fun e w' he=>?_
 obtain⟨v,rfl,hk⟩:=he
 exact hk
theorem aAZ {f:FuncId} (hf: ∀b w,(callFunc f #[.float .f64 b]).run P w= .ok (.value (.int .u64 (b:Nat))) w): ∀args h v h',aRy args h=some (v,h')→qy P f args h v h':=fun args h v h' e=>by
 rcases args with _| ⟨a,_| ⟨b,l⟩⟩
 ·cases e
 ·cases a<;>first | (cases e;done) |skip
  case fl x=>
   have e: @Bool.rec (fun _=>Option (AV×HP)) none (some (.int 7 x,h)) (Nat.ble x 18446744073709551615)=some (v,h'):=e
   rw[zf]at e
   split at e
   ·next q=>
    injection e with e
    injection e with e1 e2
    subst e1;subst e2
    intro ρ args' w K hv hr hK
    obtain⟨y,l,rfl,hy,hl⟩:=hv
    have hl:l=[]:=hl
    have hy:y= .float .f64 x:=hy
    subst hl;subst hy
    refine JY.value (hf x w) (hK ρ _ w (Ext.refl hr) (zA.2 ⟨?_,?_,by decide⟩))
    ·show Value.int .u64 (x:Nat)= .int .u64 (toI 7 x)
     rw[zR (by show x<18446744073709551616;omega) (fun q=>by cases q)]
    ·show x<18446744073709551616;omega
   ·cases e
 ·cases a<;>cases e
theorem aA0 {f:FuncId} (hf: ∀(b:Int) w,(callFunc f #[.int .u64 b]).run P w= .ok (.value (.float .f64 b.toNat)) w): ∀args h v h',aNt args h=some (v,h')→qy P f args h v h':=fun args h v h' e=>by
 obtain⟨x,rfl,e⟩: ∃x,args=[.int 7 x]∧some (AV.fl x,h)=some (v,h'):=by
  unfold aNt at e
  split at e
  ·exact⟨_,rfl,e⟩
  ·cases e
 injection e with e
 injection e with e1 e2
 subst e1;subst e2
 intro ρ args' w K hv hr hK
 obtain⟨y,l,rfl,hy,hl⟩:=hv
 have hl:l=[]:=hl
 subst hl
 obtain⟨rfl,hx,_⟩:=zA.1 hy
 refine JY.value (hf (toI 7 x) w) (hK ρ _ w (Ext.refl hr) ?_)
 rw[zR hx (fun q=>by cases q)]
 exact rfl
theorem aah: ∀a b:List UInt8,Lib.compareBytes a b=if Op.bytesLess a b=true then -1 else if Op.bytesLess b a=true then 1 else 0
 | [],[]=>rfl
 | [],_::_=>rfl
 |_::_,[]=>rfl
 | a::x,b::y=>by
  have ih:=aah x y
  simp only[Lib.compareBytes,Op.bytesLess]
  by_cases h1:a<b
  ·simp[h1]
  ·by_cases h2:b<a
   ·have hne: ¬a=b:=fun e=>by subst e;exact absurd h2 (UInt8.lt_irrefl _)
    simp[h1,h2,hne]
   ·have e:a=b:=UInt8.le_antisymm (UInt8.not_lt.1 h2) (UInt8.not_lt.1 h1)
    subst e
    simp[h1,ih]
theorem aA1 {f:FuncId} (hf: ∀(a b:ByteArray) w,(callFunc f #[.string a,.string b]).run P w= .ok (.value (.int .i64 (Lib.compareBytes a.data.toList b.data.toList))) w): ∀args h v h',aNu args h=some (v,h')→qy P f args h v h':=fun args h v h' e=>by
 obtain⟨l,x,m,y,rfl,e⟩: ∃l x m y,args=[.str l x,.str m y]∧some (@Bool.rec (fun _=>AV) (@Bool.rec (fun _=>AV) (AV.int 3 0) (.int 3 1) (kG m y l x)) (.int 3 18446744073709551615) (kG l x m y),h)=some (v,h'):=by
  unfold aNu at e
  split at e
  ·exact⟨_,_,_,_,rfl,e⟩
  ·cases e
 injection e with e
 injection e with e1 e2
 subst e2
 intro ρ args' w K hv hr hK
 obtain⟨v1,l1,rfl,⟨s1,rfl,h1⟩,v2,l2,rfl,⟨s2,rfl,h2⟩,hl⟩:=hv
 have hl:l2=[]:=hl
 subst hl
 refine JY.value (hf s1 s2 w) (hK ρ _ w (Ext.refl hr) ?_)
 rw[←e1,aah,←ByteArray.toList_eq,←ByteArray.toList_eq,Zx h1 h2,Zx h2 h1]
 cases kG l x m y
 ·cases kG m y l x
  ·exact zA.2 ⟨rfl,by decide,by decide⟩
  ·exact zA.2 ⟨rfl,by decide,by decide⟩
 ·exact zA.2 ⟨rfl,by decide,by decide⟩
theorem agp (r:Nat):aCf r=tk1 r:=by
 have h: ∀i:Fin 16,Nat.land (Nat.shiftRight 0xf36e6f75e330a81ad3d3e1abc38d26c4b21572c9a24bb5a692a8fc1782f63b787198540d61c693625125dad3417b1dbc30e349b120bd8ede105ec76f00000000 (Nat.mul 32 i.val)) 4294967295=tbl.getD i.val 0:=by decide
 have hm:Nat.land r 15=r%16:=Nat.and_two_pow_sub_one_eq_mod r 4
 unfold aCf tk1
 rw[hm,h ⟨r%16,Nat.mod_lt _ (by omega)⟩]
 show(r>>>4)^^^_=_
 rw[Nat.shiftRight_eq_div_pow]
theorem agr (n x r:Nat):aCg (n+1) x r=aCg n x (aCf (aCf (Nat.xor r (Nat.land (Nat.shiftRight x (Nat.mul 8 n)) 255)))):=rfl
theorem agq (x:Nat): ∀(s:List UInt8) (r:Nat),s.map UInt8.toNat=bys s.length x→aCg s.length x r=YL r s
 | [],_,_=>rfl
 | c::s,r,h=>by
  rw[List.map_cons,List.length_cons]at h
  have h:c.toNat::s.map UInt8.toNat=(x / 256^s.length)%256::bys s.length x:=h
  injection h with h1 h2
  rw[List.length_cons,agr,agq x s _ h2]
  have hb:Nat.land (Nat.shiftRight x (Nat.mul 8 s.length)) 255=c.toNat:=by
   have e1:Nat.land (Nat.shiftRight x (Nat.mul 8 s.length)) 255=(x>>>(8*s.length))%256:=Nat.and_two_pow_sub_one_eq_mod _ 8
   rw[e1,h1,Nat.shiftRight_eq_div_pow,Nat.pow_mul]
  rw[hb,agp,agp];rfl
theorem aAT {f:FuncId} {fn:Func} {c:Code} (e1:P.funcs[f]? =some fn) (e2:fn.body=some c) (e3:fn.name≠ "runtime.NumGoroutine")
  (hf: ∀(r:Nat) (s:Bs) (w:World),r<4294967296→s.length≤1000000→Calls P f #[.int .u32 r,.string (S s)] w fun e w'=>e= .returned (.int .u32 ((4294967295-YL (4294967295-r) s:Nat):Int))∧Below w.heap.size w w'): ∀args h v h',aNp args h=some (v,h')→qy P f args h v h':=fun args h v h' e=>by
 obtain⟨s,l,x,rfl,e0⟩: ∃s l x,args=[.int 6 s,.str l x]∧ @Bool.rec (fun _=>Option (AV×HP)) none (some (AV.int 6 (Nat.sub 4294967295 (aCg l x (Nat.sub 4294967295 s))),h)) (Nat.ble l 1000000)=some (v,h'):=by
  unfold aNp at e
  split at e
  ·exact⟨_,_,_,rfl,e⟩
  ·cases e
 rw[zf]at e0
 split at e0
 ·next q=>
  injection e0 with e0
  injection e0 with k1 k2
  subst k1;subst k2
  intro ρ args' w K hv hr hK
  obtain⟨v1,l1,rfl,hv1,v2,l2,rfl,⟨s2,rfl,h2⟩,hl⟩:=hv
  have hl:l2=[]:=hl
  subst hl
  obtain⟨rfl,hs,_⟩:=zA.1 hv1
  have hz:=xC h2
  obtain⟨bs,hbs⟩: ∃bs,bs=s2.data.toList:=⟨_,rfl⟩
  have hS:s2=Go.Proofs.YtcdiljebkpikbaaGreat.S bs:=by rw[hbs];rfl
  have hlen:bs.length=l:=by rw[hbs,Array.length_toList];exact hz
  have hmap:bs.map UInt8.toNat=bys bs.length x:=by rw[hlen,hbs];exact h2.1
  rw[hS,zR hs (fun q=>by cases q)]
  refine JY.calls e1 e2 e3 ((hf s bs w hs (by omega)).mono fun e w' he=>?_)
  obtain⟨rfl,hb⟩:=he
  refine⟨_,rfl,hK ρ _ w' (Ext.of_below hr hb) ?_⟩
  rw[←agq x bs _ hmap,hlen]
  have hlt:Nat.sub 4294967295 (aCg l x (Nat.sub 4294967295 s))<mdN 6:=Nat.lt_of_le_of_lt (Nat.sub_le _ _) (by decide)
  refine zA.2 ⟨?_,hlt,by decide⟩
  rw[zR hlt (fun q=>by cases q)];rfl
 ·cases e0
end
end Kv
end
end
section
def wpC (P:Program) (ops:Array Oper) (C:World→Prop) (Q:Act→Prop) (rest:List Oper) (a:Act):Prop:=wpQuiet P ops C Q rest a
theorem abb {P:Program} {ops:Array Oper} {C:World→Prop} {Q:Act→Prop} {a:Act} {o:Oper} {rest:List Oper}
  (h: ∀K:Act→Prop,(∀a,wpC P ops C Q rest a→K a)→if Region.wanted o (yielded ops a.tmps)then o.quiet P a C K else K (a.put o.dst undef)):wpC P ops C Q (o::rest) a:=
 wpQuiet_step h
section
variable {P:Program} {l:List Oper} {C:World→Prop} {Q:Act→Prop} {a:Act} {o:Oper} {rest:List Oper}
theorem ahC (hw:Region.wanted o (yielded l.toArray a.tmps)=true)
  (h: ∀K:Act→Prop,(∀a,wpC P l.toArray C Q rest a→K a)→ ∃v,(∀w,C w→o.quietAt P a C w v)∧K (a.put o.dst v)):wpC P l.toArray C Q (o::rest) a:=
 abb fun K hK=>by rw[if_pos hw];exact h K hK
theorem ahB (hw:Region.wanted o (yielded l.toArray a.tmps)=false)
  (h: ∀K:Act→Prop,(∀a,wpC P l.toArray C Q rest a→K a)→K (a.put o.dst undef)):wpC P l.toArray C Q (o::rest) a:=
 abb fun K hK=>by rw[if_neg (by rw[hw];exact Bool.false_ne_true)];exact h K hK
theorem Qs (hg:o.guard=none)
  (h: ∀K:Act→Prop,(∀a,wpC P l.toArray C Q rest a→K a)→ ∃v,(∀w,C w→o.quietAt P a C w v)∧K (a.put o.dst v)):wpC P l.toArray C Q (o::rest) a:=
 ahC (by unfold Region.wanted;rw[hg]) h
theorem Xm (j:Nat) (want:Bool) (d:Tmp) (b:Bool) (hg:o.guard=some (j,want)) (hd:(l[j]?).bind (·.dst)=some d)
  (hv:a.tmps.toList[d]? =some (.bool b)):Region.wanted o (yielded l.toArray a.tmps)=(b==want):=by
 unfold Region.wanted yielded
 rw[hg]
 have h1:l.toArray[j]? =l[j]? :=by simp
 have h2:a.tmps[d]? =a.tmps.toList[d]? :=by simp
 simp only[h1,hd,Option.bind_some,h2,hv]
 cases b<;>cases want<;>rfl
theorem aaU (j:Nat) (want:Bool) (d:Tmp) (hg:o.guard=some (j,want)) (hd:(l[j]?).bind (·.dst)=some d) (hv:a.tmps.toList[d]? =some (.bool want))
  (h: ∀K:Act→Prop,(∀a,wpC P l.toArray C Q rest a→K a)→ ∃v,(∀w,C w→o.quietAt P a C w v)∧K (a.put o.dst v)):wpC P l.toArray C Q (o::rest) a:=
 ahC (by rw[Xm j want d _ hg hd hv];cases want<;>rfl) h
theorem ajj (j:Nat) (want:Bool) (d:Tmp) (hg:o.guard=some (j,want)) (hd:(l[j]?).bind (·.dst)=some d) (hv:a.tmps.toList[d]? =some (.bool !want))
  (h: ∀K:Act→Prop,(∀a,wpC P l.toArray C Q rest a→K a)→K (a.put o.dst undef)):wpC P l.toArray C Q (o::rest) a:=
 ahB (by rw[Xm j want d _ hg hd hv];cases want<;>rfl) h
theorem Zp (j:Nat) (want:Bool) (d:Tmp) (hg:o.guard=some (j,want)) (hd:(l[j]?).bind (·.dst)=some d) (hv:a.tmps.toList[d]? =some undef)
  (h: ∀K:Act→Prop,(∀a,wpC P l.toArray C Q rest a→K a)→K (a.put o.dst undef)):wpC P l.toArray C Q (o::rest) a:=
 ahB (by
  unfold Region.wanted yielded
  rw[hg]
  have h1:l.toArray[j]? =l[j]? :=by simp
  have h2:a.tmps[d]? =a.tmps.toList[d]? :=by simp
  simp only[h1,hd,Option.bind_some,h2,hv]
  cases want<;>rfl) h
theorem vU {id:Nat} {Q:Exit→Act→World→Prop} {w:World} (hm:P.follows .mixedOrders=true) (hB:Region.lexB .any l.toArray=true) (C:World→Prop) (hC:C w.drew)
  (h:wpC P l.toArray C (fun a'=> ∀w',C w'→Q .normal a' w') l a):(Code.region id l.toArray true).wp P Q a w:=
 wp_region_quiet (C:=C) hm hB hC (by have h:wpQuiet P l.toArray C _ l a:=h;simpa using h)
theorem aaT (h:Q a):wpC P l.toArray C Q [] a:=h
end
attribute [irreducible] wpC
end
section
open Go.RowKit Go.Lib
section
variable {α:Type} {enc:α→List Value} {k:Nat}
def yv (enc:α→List Value) (l:List α):List Value:=l.flatMap enc
@[simp] theorem ajs:yv enc []=[]:=rfl
@[simp] theorem jw (x:α) (l:List α):yv enc (x::l)=enc x++yv enc l:=rfl
@[simp] theorem Ky (a b:List α):yv enc (a++b)=yv enc a++yv enc b:=by simp[yv]
theorem Kz (hk: ∀x,(enc x).length=k) (l:List α):(yv enc l).length=l.length*k:=by
 induction l with
 |nil=>simp
 |cons x l ih=>rw[jw,List.length_append,hk,ih,List.length_cons,Nat.succ_mul,Nat.add_comm]
theorem Qx (hk: ∀x,(enc x).length=k): ∀(l:List α) (i:Nat) (x:α),l[i]? =some x→ ∀j,j<k→(yv enc l)[i*k+j]? =(enc x)[j]?
 | [],i,x,h,j,hj=>by simp at h
 |y::l,0,x,h,j,hj=>by
  simp at h;subst h
  rw[jw,Nat.zero_mul,Nat.zero_add,List.getElem?_append_left (by rw[hk];exact hj)]
 |y::l,i+1,x,h,j,hj=>by
  rw[jw,List.getElem?_append_right (by rw[hk,Nat.succ_mul];omega),hk,show(i+1)*k+j-k=i*k+j by rw[Nat.succ_mul];omega]
  exact Qx hk l i x (by simpa using h) j hj
end
theorem aBw {W:World} {g:Nat} {T:TypeId} {cs:List Value} (h:Blk W g T cs.toArray): ∀j u,cs[j]? =some u→W.cell? ((⟨g,0,none⟩:Addr).add j)=some u:=by
 intro j u hj
 rw[Addr.add_mid,Nat.zero_add,h.cell]
 simpa using hj
theorem aMQ {w:World} {B:Nat} {T:TypeId} {s n:Nat} {v:Value} {xs:List Value} {g:Nat} {c:Nat} (h:w.ownsRow B T s v n xs) (hv:v= .slice (some ⟨g,0,none⟩) n c) {j:Nat} {u:Value} (hj:xs[j]? =some u):w.cell? ⟨g,j,none⟩=some u:=by
 have:=h.cells (g:=g) (by rw[hv];rfl) j u hj
 rwa[Addr.add_mid,Nat.zero_add]at this
theorem ajh {w:World} {B:Nat} {T:TypeId} {s n:Nat} {v:Value} {xs:List Value} (h:w.ownsRow B T s v n xs) (hn:0<n): ∃g c,v= .slice (some ⟨g,0,none⟩) n c∧B≤g∧g<w.heap.size∧n≤c:=by
 rcases h.2 with⟨_,h0⟩ | ⟨g,cap,cur,hv,hb,hg,hn2,_⟩
 ·omega
 ·exact⟨g,cap,hv,hb,(Array.getElem?_eq_some_iff.1 hg).1,hn2⟩
end
section
open Go.RowKit
def bA (l:Bs):Array Value:=(cB l).toArray
@[simp] theorem aRt (l:Bs):(bA l).size=l.length:=by simp[bA]
end
section
open Go.RowKit
structure DkL where
 d:Nat
 bn:Nat
 bo:Nat
 bl:Nat
theorem yV (b:Nat): ∀(vs:List Value) (o:Nat) (w:World),Kp [b] w (w.setCells b o vs)
 | [],_,w=>Kp.refl _ _
 |v::vs,o,w=>by
  show Kp [b] w ((w.setCell ⟨b,o,none⟩ v).setCells b (o+1) vs)
  exact((Kp.refl [b] w).setCell (p:=⟨b,o,none⟩) (.inl (by simp)) v).trans (yV b vs (o+1) _)
end
end Go.Proofs.YtcdiljebkpikbaaGreat
