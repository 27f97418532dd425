/- Parts of the proof: Kyb Kyc Kzb. -/
import Derived.Lib.Bytealg
import Derived.Test.YtfkoaooceickiaaGreatH01
import Derived.Test.YtfkoaooceickiaaGreatH15
set_option linter.all false
set_option maxRecDepth 100000
namespace Go.Proofs.YtfkoaooceickiaaGreat
section
namespace Kv
noncomputable section
inductive PT where
  | d
  | l (b : Blk)
  | n (x y : PT)
def PT.tree (p : PT) : Nat → RT Blk := PT.rec (motive := fun _ => Nat → RT Blk) (fun k => RT.mk .dead k) (fun b _ => .l b) (fun _ _ tx ty k => .n (Nat.pow 2 (Nat.pred k)) (tx (Nat.pred k)) (ty (Nat.pred k))) p
def PT.shape (p : PT) : Nat → Bool := PT.rec (motive := fun _ => Nat → Bool) (fun _ => true) (fun _ k => Nat.beq k 0) (fun _ _ sx sy k => (@Bool.rec (fun _ => _) ((@Bool.rec (fun _ => _) (false) (sy (Nat.pred k)) (sx (Nat.pred k)))) (false) (Nat.beq k 0))) p
def PT.in_ (p : PT) : RT Blk → Bool := PT.rec (motive := fun _ => RT Blk → Bool) (fun _ => true) (fun b t => match t with | .l c => eqB b c | .n _ _ _ => false) (fun _ _ ix iy t => match t with | .n _ x y => (@Bool.rec (fun _ => _) (false) (iy y) (ix x)) | .l _ => false) p
structure Ent where
  f : Nat
  a : List AV
  d : Nat
  p : PT
  n : Nat
  v : AV
  d' : Nat
  p' : PT
  n' : Nat
def litH (d : Nat) (p : PT) (n : Nat) : HP := ⟨d, p.tree d, n⟩
def Ent.h (e : Ent) : HP := litH e.d e.p e.n
def Ent.h' (e : Ent) : HP := litH e.d' e.p' e.n'
def isH (d : Nat) (p : PT) (n : Nat) (h : HP) : Bool := match h with | ⟨k, t, m⟩ => (@Bool.rec (fun _ => _) (false) ((@Bool.rec (fun _ => _) (false) (p.in_ t) (Nat.beq d k))) (Nat.beq n m))
def Ent.look (e : Ent) (f : Nat) (a : List AV) (h : HP) : Bool := (@Bool.rec (fun _ => _) (false) ((@Bool.rec (fun _ => _) (false) (isH e.d e.p e.n h) (eqL (eqA 4) e.a a))) (Nat.beq e.f f))
def findE (f : Nat) (a : List AV) (h : HP) : List Ent → Option (AV × HP)
  | [] => none
  | e :: l => (@Bool.rec (fun _ => _) (findE f a h l) (some (e.v, e.h')) (e.look f a h))
def hasE (f : Nat) : List Ent → Bool
  | [] => false
  | e :: l => (@Bool.rec (fun _ => _) (hasE f l) (true) (Nat.beq e.f f))
def addT (S : Sm) (l : List Ent) : Sm := ⟨fun f => (@Bool.rec (fun _ => _) (S.S f) (some (fun a h => findE f a h l)) (hasE f l)), S.I⟩
def Ent.is (e : Ent) (r : R) : Bool := match r with | some (v, h) => (@Bool.rec (fun _ => _) (false) (isH e.d' e.p' e.n' h) (eqA 4 e.v v)) | none => false
def segB (P : Program) (S : Sm) (l : List Ent) (e : Ent) : Bool := (@Bool.rec (fun _ => _) (false) ((@Bool.rec (fun _ => _) (false) ((@Bool.rec (fun _ => _) (false) (e.is (run P (addT S l) 1000000 e.f e.a e.h)) (Nat.ble e.n (Nat.pow 2 e.d)))) (e.p'.shape e.d'))) (e.p.shape e.d))
end
end Kv
end
section
noncomputable section
namespace Kv
open Go.RowKit
variable {P : Program}
theorem tree_d (k : Nat) : PT.d.tree k = RT.mk .dead k := rfl
theorem tree_l (b : Blk) (k : Nat) : (PT.l b).tree k = .l b := rfl
theorem tree_n (x y : PT) (k : Nat) : (PT.n x y).tree (k + 1) = .n (2 ^ k) (x.tree k) (y.tree k) := rfl
theorem pt_in : ∀ (p : PT) (k : Nat) (t : RT Blk), p.shape k = true → t.wf (2 ^ k) → p.in_ t = true → (p.tree k).wf (2 ^ k) ∧ ∀ i, i < 2 ^ k → (p.tree k).get i = .dead ∨ (p.tree k).get i = t.get i
  | .d, k, t, _, _, _ => ⟨RT.mk_wf _ _, fun i _ => .inl (RT.mk_get _ _ _)⟩
  | .l b, k, t, hs, hw, hi => by
    have hk : k = 0 := (beq_iff _ _).1 hs
    subst hk
    cases t with
    | l c =>
      have hb : b = c := eqB_eq b c hi
      subst hb
      exact ⟨rfl, fun i _ => .inr rfl⟩
    | n h x y => cases hi
  | .n x y, k, t, hs, hw, hi => by
    have hs : @Bool.rec (fun _ => Bool) (@Bool.rec (fun _ => Bool) false (y.shape (Nat.pred k)) (x.shape (Nat.pred k))) false (Nat.beq k 0) = true := hs
    rw [brec_beq] at hs
    cases k with
    | zero => cases hs
    | succ k =>
      rw [if_neg (by omega)] at hs
      obtain ⟨hx, hy⟩ := and_split hs
      cases t with
      | l c => cases hi
      | n h a b =>
        obtain ⟨hia, hib⟩ := and_split (show @Bool.rec (fun _ => Bool) false (y.in_ b) (x.in_ a) = true from hi)
        obtain ⟨h1, h2, h3⟩ := hw
        have hp : h = 2 ^ k := by rw [Nat.pow_succ] at h1; omega
        subst hp
        obtain ⟨w1, g1⟩ := pt_in x k a hx h2 hia
        obtain ⟨w2, g2⟩ := pt_in y k b hy h3 hib
        refine ⟨⟨h1, w1, w2⟩, fun i hik => ?_⟩
        rw [tree_n, RT.get_n, RT.get_n]
        by_cases q : 2 ^ k ≤ i
        · rw [if_pos q, if_pos q]; exact g2 _ (by rw [Nat.pow_succ] at hik; omega)
        · rw [if_neg q, if_neg q]; exact g1 _ (by omega)
theorem Ext.kills {ρ : Ren} {h g : HP} {w : World} (hr : HR ρ h w) (hw : g.wf) (hn : g.n = h.n) (he : ∀ i, g.get i = .dead ∨ g.get i = h.get i) : Ext ρ h w ρ g w := by
  have live : ∀ i, g.get i ≠ .dead → g.get i = h.get i := fun i hi => (he i).resolve_left hi
  refine ⟨RLe.refl ρ, ⟨hw, fun i b κ hi => ?_, fun i j b κ κ' hi hj d1 d2 => hr.inj i j b κ κ' hi hj (live i d1 ▸ d1) (live j d2 ▸ d2), fun i => ?_⟩, fun i p h1 h2 => (by rw [h1] at h2; cases h2), by omega, Nat.le_refl _, fun _ _ _ => rfl, fun i b κ hi hd _ => ⟨i, κ, hi, live i hd ▸ hd⟩, rfl, rfl, rfl⟩
  · obtain ⟨h1, o, h2, h3⟩ := hr.at_ i b κ hi
    refine ⟨by omega, o, h2, ?_⟩
    rcases he i with e | e
    · rw [e]; trivial
    · rw [e]; exact h3
  · rw [hn]
    rcases he i with e | e
    · rw [e]; exact .inl rfl
    · rw [e]; exact hr.low i
theorem isH_ext {ρ : Ren} {h : HP} {w : World} {d n : Nat} {p : PT} (hs : p.shape d = true) (hi : isH d p n h = true) (hr : HR ρ h w) : Ext ρ h w ρ (litH d p n) w := by
  obtain ⟨k, t, m⟩ := h
  have hi : @Bool.rec (fun _ => Bool) false (@Bool.rec (fun _ => Bool) false (p.in_ t) (Nat.beq d k)) (Nat.beq n m) = true := hi
  obtain ⟨h1, h2⟩ := and_split hi
  obtain ⟨h3, h4⟩ := and_split h2
  have e1 := (beq_iff _ _).1 h1
  have e2 := (beq_iff _ _).1 h3
  subst e1; subst e2
  obtain ⟨hw1, hw2⟩ := hr.wf
  have hw1 : t.wf (2 ^ d) := hw1
  have hw2 : n ≤ 2 ^ d := hw2
  obtain ⟨k1, k2⟩ := pt_in p d t hs hw1 h4
  refine Ext.kills hr ⟨k1, hw2⟩ rfl fun i => ?_
  rw [HP.get_eq, HP.get_eq]
  show (if i < n then (p.tree d).get i else .dead) = .dead ∨ (if i < n then (p.tree d).get i else .dead) = (if i < n then t.get i else .dead)
  by_cases q : i < n
  · rw [if_pos q, if_pos q]; exact k2 i (by omega)
  · rw [if_neg q]; exact .inl rfl
structure EntOK (P : Program) (e : Ent) : Prop where
  s : e.p.shape e.d = true
  c : CallR P e.f e.a e.h e.v e.h'
theorem look_ok {e : Ent} (he : EntOK P e) {f : Nat} {a : List AV} {h : HP} (hl : e.look f a h = true) : CallR P f a h e.v e.h' := by
  obtain ⟨h1, h2⟩ := and_split (show @Bool.rec (fun _ => Bool) false (@Bool.rec (fun _ => Bool) false (isH e.d e.p e.n h) (eqL (eqA 4) e.a a)) (Nat.beq e.f f) = true from hl)
  obtain ⟨h3, h4⟩ := and_split h2
  have e1 := (beq_iff _ _).1 h1
  have e2 := eqL_eq (eqA_eq 4) _ _ h3
  subst e1; subst e2
  intro ρ args' w K hv hr hK
  have x := isH_ext he.s h4 hr
  exact he.c ρ args' w K hv x.hr fun ρ' v' w' x' hv' => hK ρ' v' w' (x.trans x') hv'
theorem find_ok {f : Nat} {a : List AV} {h : HP} {v : AV} {h' : HP} : ∀ (l : List Ent), (∀ e ∈ l, EntOK P e) → findE f a h l = some (v, h') → CallR P f a h v h'
  | [], _, hf => by cases hf
  | e :: l, hl, hf => by
    have hf : @Bool.rec (fun _ => Option (AV × HP)) (findE f a h l) (some (e.v, e.h')) (e.look f a h) = some (v, h') := hf
    rw [brec] at hf
    split at hf
    · next q =>
      injection hf with hf
      injection hf with e1 e2
      subst e1; subst e2
      exact look_ok (hl e List.mem_cons_self) q
    · exact find_ok l (fun x hx => hl x (List.mem_cons_of_mem _ hx)) hf
theorem addT_ok {S : Sm} {l : List Ent} (hS : SmOk P S) (hl : ∀ e ∈ l, EntOK P e) : SmOk P (addT S l) where
  s := fun f g hg args h v h' hgo => by
    have hg : @Bool.rec (fun _ => Option (List AV → HP → Option (AV × HP))) (S.S f) (some (fun a h => findE f a h l)) (hasE f l) = some g := hg
    rw [brec] at hg
    split at hg
    · injection hg with hg
      subst hg
      exact find_ok l hl hgo
    · exact hS.s f g hg args h v h' hgo
  i := hS.i
theorem seg_ok (hm : P.follows .mixedOrders = true) (hN : NoNum P) {S : Sm} {l : List Ent} {e : Ent} (hS : SmOk P S) (hl : ∀ e ∈ l, EntOK P e) (hb : segB P S l e = true) : EntOK P e := by
  obtain ⟨h1, h2⟩ := and_split (show @Bool.rec (fun _ => Bool) false (@Bool.rec (fun _ => Bool) false (@Bool.rec (fun _ => Bool) false (e.is (run P (addT S l) 1000000 e.f e.a e.h)) (Nat.ble e.n (Nat.pow 2 e.d))) (e.p'.shape e.d')) (e.p.shape e.d) = true from hb)
  obtain ⟨h3, h4⟩ := and_split h2
  obtain ⟨_, h5⟩ := and_split h4
  refine ⟨h1, ?_⟩
  have hcall := run_ok hm hN (addT_ok hS hl) 1000000
  cases hr : run P (addT S l) 1000000 e.f e.a e.h with
  | none => rw [hr] at h5; cases h5
  | some vh =>
    obtain ⟨v, h⟩ := vh
    rw [hr] at h5
    obtain ⟨h6, h7⟩ := and_split (show @Bool.rec (fun _ => Bool) false (isH e.d' e.p' e.n' h) (eqA 4 e.v v) = true from h5)
    have e1 := eqA_eq 4 _ _ h6
    obtain ⟨v1, g1, k1, k2⟩ := hcall _ _ _ _ _ hr
    injection k1 with k1
    injection k1 with q1 q2
    subst q1; subst q2; subst e1
    intro ρ args' w K hv hw hK
    refine k2 ρ args' w K hv hw fun ρ' v' w' x hv' => ?_
    exact hK ρ' v' w' (x.trans (isH_ext h3 h7 x.hr)) hv'
end Kv
end
end
section
noncomputable section
namespace Kv
open Go.RowKit
variable {P : Program}
section
variable {ρ : Ren} {h : HP} {w w' : World}
theorem Ext.of_below (hr : HR ρ h w) (b : Below w.heap.size w w') : Ext ρ h w ρ h w' :=
  ⟨RLe.refl ρ, ⟨hr.wf, fun i g κ hi => by obtain ⟨h1, o, h2, h3⟩ := hr.at_ i g κ hi; exact ⟨h1, o, by rw [b.block g (hr.lt hi)]; exact h2, h3⟩, hr.inj, hr.low⟩, fun i p h1 h2 => (by rw [h1] at h2; cases h2), Nat.le_refl _, b.size, fun k hk _ => b.block k hk, fun i g κ h1 h2 _ => ⟨i, κ, h1, h2⟩, b.os, b.output, b.tape⟩
theorem Upon.value {f : FuncId} {args : Array Value} {K : Value → World → Prop} {v : Value} (hr : (callFunc f args).run P w = .ok (.value v) w') (h : K v w') : Upon P f args w K := by
  unfold Upon; rw [hr]; exact h
theorem Upon.calls {f : FuncId} {args : Array Value} {K : Value → World → Prop} {fn : Func} {c : Code} (e1 : P.funcs[f]? = some fn) (e2 : fn.body = some c) (e3 : fn.name ≠ "runtime.NumGoroutine") (h : Calls P f args w fun e w' => ∃ v, e = .returned v ∧ K v w') : Upon P f args w K := by
  unfold Upon
  rw [r_callFunc e1 e2 e3]
  refine h.mono fun e w' he => ?_
  obtain ⟨v, rfl, hk⟩ := he
  exact hk
theorem ext1_ok {f : FuncId} (hf : ∀ b w, (callFunc f #[.float .f64 b]).run P w = .ok (.value (.int .u64 (b : Nat))) w) : ∀ args h v h', ext1 args h = some (v, h') → CallR P f args h v h' := fun args h v h' e => by
  rcases args with _ | ⟨a, _ | ⟨b, l⟩⟩
  · cases e
  · cases a <;> first | (cases e; done) | skip
    case fl x =>
      have e : @Bool.rec (fun _ => Option (AV × HP)) none (some (.int 7 x, h)) (Nat.ble x 18446744073709551615) = some (v, h') := e
      rw [brec_ble] at e
      split at e
      · next q =>
        injection e with e
        injection e with e1 e2
        subst e1; subst e2
        intro ρ args' w K hv hr hK
        obtain ⟨y, l, rfl, hy, hl⟩ := hv
        have hl : l = [] := hl
        have hy : y = .float .f64 x := hy
        subst hl; subst hy
        refine Upon.value (hf x w) (hK ρ _ w (Ext.refl hr) (VR_int.2 ⟨?_, ?_, by decide⟩))
        · show Value.int .u64 (x : Nat) = .int .u64 (toI 7 x)
          rw [toI_nat (by show x < 18446744073709551616; omega) (fun q => by cases q)]
        · show x < 18446744073709551616; omega
      · cases e
  · cases a <;> cases e
theorem ext2_ok {f : FuncId} (hf : ∀ (b : Int) w, (callFunc f #[.int .u64 b]).run P w = .ok (.value (.float .f64 b.toNat)) w) : ∀ args h v h', ext2 args h = some (v, h') → CallR P f args h v h' := fun args h v h' e => by
  obtain ⟨x, rfl, e⟩ : ∃ x, args = [.int 7 x] ∧ some (AV.fl x, h) = some (v, h') := by
    unfold ext2 at e
    split at e
    · exact ⟨_, rfl, e⟩
    · cases e
  injection e with e
  injection e with e1 e2
  subst e1; subst e2
  intro ρ args' w K hv hr hK
  obtain ⟨y, l, rfl, hy, hl⟩ := hv
  have hl : l = [] := hl
  subst hl
  obtain ⟨rfl, hx, _⟩ := VR_int.1 hy
  refine Upon.value (hf (toI 7 x) w) (hK ρ _ w (Ext.refl hr) ?_)
  rw [toI_nat hx (fun q => by cases q)]
  exact rfl
theorem cmp_less : ∀ a b : List UInt8, Lib.compareBytes a b = if Op.bytesLess a b = true then -1 else if Op.bytesLess b a = true then 1 else 0
  | [], [] => rfl
  | [], _ :: _ => rfl
  | _ :: _, [] => rfl
  | a :: x, b :: y => by
    have ih := cmp_less x y
    simp only [Lib.compareBytes, Op.bytesLess]
    by_cases h1 : a < b
    · simp [h1]
    · by_cases h2 : b < a
      · have hne : ¬ a = b := fun e => by subst e; exact absurd h2 (UInt8.lt_irrefl _)
        simp [h1, h2, hne]
      · have e : a = b := UInt8.le_antisymm (UInt8.not_lt.1 h2) (UInt8.not_lt.1 h1)
        subst e
        simp [h1, ih]
theorem ext3_ok {f : FuncId} (hf : ∀ (a b : ByteArray) w, (callFunc f #[.string a, .string b]).run P w = .ok (.value (.int .i64 (Lib.compareBytes a.data.toList b.data.toList))) w) : ∀ args h v h', ext3 args h = some (v, h') → CallR P f args h v h' := fun args h v h' e => by
  obtain ⟨l, x, m, y, rfl, e⟩ : ∃ l x m y, args = [.str l x, .str m y] ∧ some (@Bool.rec (fun _ => AV) (@Bool.rec (fun _ => AV) (AV.int 3 0) (.int 3 1) (lessS m y l x)) (.int 3 18446744073709551615) (lessS l x m y), h) = some (v, h') := by
    unfold ext3 at e
    split at e
    · exact ⟨_, _, _, _, rfl, e⟩
    · cases e
  injection e with e
  injection e with e1 e2
  subst e2
  intro ρ args' w K hv hr hK
  obtain ⟨v1, l1, rfl, ⟨s1, rfl, h1⟩, v2, l2, rfl, ⟨s2, rfl, h2⟩, hl⟩ := hv
  have hl : l2 = [] := hl
  subst hl
  refine Upon.value (hf s1 s2 w) (hK ρ _ w (Ext.refl hr) ?_)
  rw [← e1, cmp_less, ← ByteArray.toList_eq, ← ByteArray.toList_eq, SR_less h1 h2, SR_less h2 h1]
  cases lessS l x m y
  · cases lessS m y l x
    · exact VR_int.2 ⟨rfl, by decide, by decide⟩
    · exact VR_int.2 ⟨rfl, by decide, by decide⟩
  · exact VR_int.2 ⟨rfl, by decide, by decide⟩
theorem crc4_eq (r : Nat) : crc4 r = tk1 r := by
  have h : ∀ i : Fin 16, Nat.land (Nat.shiftRight 0xf36e6f75e330a81ad3d3e1abc38d26c4b21572c9a24bb5a692a8fc1782f63b787198540d61c693625125dad3417b1dbc30e349b120bd8ede105ec76f00000000 (Nat.mul 32 i.val)) 4294967295 = tbl.getD i.val 0 := by decide
  have hm : Nat.land r 15 = r % 16 := Nat.and_two_pow_sub_one_eq_mod r 4
  unfold crc4 tk1
  rw [hm, h ⟨r % 16, Nat.mod_lt _ (by omega)⟩]
  show (r >>> 4) ^^^ _ = _
  rw [Nat.shiftRight_eq_div_pow]
theorem crcB_succ (n x r : Nat) : crcB (n + 1) x r = crcB n x (crc4 (crc4 (Nat.xor r (Nat.land (Nat.shiftRight x (Nat.mul 8 n)) 255)))) := rfl
theorem crcB_eq (x : Nat) : ∀ (s : List UInt8) (r : Nat), s.map UInt8.toNat = bys s.length x → crcB s.length x r = crcGo r s
  | [], _, _ => rfl
  | c :: s, r, h => by
    rw [List.map_cons, List.length_cons] at h
    have h : c.toNat :: s.map UInt8.toNat = (x / 256 ^ s.length) % 256 :: bys s.length x := h
    injection h with h1 h2
    rw [List.length_cons, crcB_succ, crcB_eq x s _ h2]
    have hb : Nat.land (Nat.shiftRight x (Nat.mul 8 s.length)) 255 = c.toNat := by
      have e1 : Nat.land (Nat.shiftRight x (Nat.mul 8 s.length)) 255 = (x >>> (8 * s.length)) % 256 := Nat.and_two_pow_sub_one_eq_mod _ 8
      rw [e1, h1, Nat.shiftRight_eq_div_pow, Nat.pow_mul]
    rw [hb, crc4_eq, crc4_eq]; rfl
theorem crcS_ok {f : FuncId} {fn : Func} {c : Code} (e1 : P.funcs[f]? = some fn) (e2 : fn.body = some c) (e3 : fn.name ≠ "runtime.NumGoroutine")
    (hf : ∀ (r : Nat) (s : Bs) (w : World), r < 4294967296 → s.length ≤ 1000000 → Calls P f #[.int .u32 r, .string (S s)] w fun e w' => e = .returned (.int .u32 ((4294967295 - crcGo (4294967295 - r) s : Nat) : Int)) ∧ Below w.heap.size w w') : ∀ args h v h', crcS args h = some (v, h') → CallR P f args h v h' := fun args h v h' e => by
  obtain ⟨s, l, x, rfl, e0⟩ : ∃ s l x, args = [.int 6 s, .str l x] ∧ @Bool.rec (fun _ => Option (AV × HP)) none (some (AV.int 6 (Nat.sub 4294967295 (crcB l x (Nat.sub 4294967295 s))), h)) (Nat.ble l 1000000) = some (v, h') := by
    unfold crcS at e
    split at e
    · exact ⟨_, _, _, rfl, e⟩
    · cases e
  rw [brec_ble] at e0
  split at e0
  · next q =>
    injection e0 with e0
    injection e0 with k1 k2
    subst k1; subst k2
    intro ρ args' w K hv hr hK
    obtain ⟨v1, l1, rfl, hv1, v2, l2, rfl, ⟨s2, rfl, h2⟩, hl⟩ := hv
    have hl : l2 = [] := hl
    subst hl
    obtain ⟨rfl, hs, _⟩ := VR_int.1 hv1
    have hz := SR_size h2
    obtain ⟨bs, hbs⟩ : ∃ bs, bs = s2.data.toList := ⟨_, rfl⟩
    have hS : s2 = Go.Proofs.YtfkoaooceickiaaGreat.S bs := by rw [hbs]; rfl
    have hlen : bs.length = l := by rw [hbs, Array.length_toList]; exact hz
    have hmap : bs.map UInt8.toNat = bys bs.length x := by rw [hlen, hbs]; exact h2.1
    rw [hS, toI_nat hs (fun q => by cases q)]
    refine Upon.calls e1 e2 e3 ((hf s bs w hs (by omega)).mono fun e w' he => ?_)
    obtain ⟨rfl, hb⟩ := he
    refine ⟨_, rfl, hK ρ _ w' (Ext.of_below hr hb) ?_⟩
    rw [← crcB_eq x bs _ hmap, hlen]
    have hlt : Nat.sub 4294967295 (crcB l x (Nat.sub 4294967295 s)) < mdN 6 := Nat.lt_of_le_of_lt (Nat.sub_le _ _) (by decide)
    refine VR_int.2 ⟨?_, hlt, by decide⟩
    rw [toI_nat hlt (fun q => by cases q)]; rfl
  · cases e0
end
end Kv
end
end
end Go.Proofs.YtfkoaooceickiaaGreat
