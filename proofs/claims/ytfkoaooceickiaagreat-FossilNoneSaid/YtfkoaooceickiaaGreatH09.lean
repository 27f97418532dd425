/- Parts of the proof: Kvm Kvn Kvo Kvp. -/
import Derived.Laws.Small
import Derived.Laws.Strings
import Derived.Laws.BytesString
import Derived.Test.YtfkoaooceickiaaGreatH08
set_option linter.all false
set_option maxRecDepth 100000
namespace Go.Proofs.YtfkoaooceickiaaGreat
section
noncomputable section
namespace Kv
open Go.RowKit
variable {P : Program}
section
variable {ρ : Ren} {l x m y : Nat} {s s' : ByteArray}
theorem SR_size (h : SR l x s) : s.size = l := by
  have := congrArg List.length h.1
  rw [List.length_map, bys_length] at this
  exact this
theorem map_toNat_inj : ∀ {a b : List UInt8}, a.map UInt8.toNat = b.map UInt8.toNat → a = b
  | [], [], _ => rfl
  | [], _ :: _, h => by cases h
  | _ :: _, [], h => by cases h
  | a :: x, b :: y, h => by
    simp only [List.map_cons, List.cons.injEq] at h
    rw [map_toNat_inj h.2, UInt8.toNat_inj.1 h.1]
theorem SR_eq (h : SR l x s) (k : SR m y s') : (s.toList == s'.toList) = eqS l x m y := by
  rw [ByteArray.toList_eq, ByteArray.toList_eq, Bool.eq_iff_iff, beq_iff_eq]
  unfold eqS
  rw [brec_beq]
  constructor
  · intro e
    have e1 := congrArg (List.map UInt8.toNat) e
    rw [h.1, k.1] at e1
    have e2 := congrArg List.length e1
    rw [bys_length, bys_length] at e2
    subst e2
    rw [if_pos rfl, beq_iff]
    exact bys_inj h.2 k.2 e1
  · intro e
    by_cases c : l = m
    · rw [if_pos c, beq_iff] at e
      subst c; subst e
      exact map_toNat_inj (h.1.trans k.1.symm)
    · rw [if_neg c] at e; cases e
theorem less_map : ∀ a b : List UInt8, Op.bytesLess a b = ltB (a.map UInt8.toNat) (b.map UInt8.toNat)
  | a, [] => by cases a <;> rfl
  | [], _ :: _ => rfl
  | a :: x, b :: y => by
    simp only [Op.bytesLess, List.map_cons, ltB, less_map x y]
    congr 2
    rw [Bool.eq_iff_iff, beq_iff_eq, beq_iff_eq, UInt8.toNat_inj]
theorem SR_less (h : SR l x s) (k : SR m y s') : Op.bytesLess s.toList s'.toList = lessS l x m y := by
  rw [ByteArray.toList_eq, ByteArray.toList_eq, less_map, h.1, k.1, lessS_eq h.2 k.2]
theorem ltB_total : ∀ a b : List Nat, (ltB a b || (a == b)) = !ltB b a
  | [], [] => rfl
  | [], _ :: _ => rfl
  | _ :: _, [] => rfl
  | a :: x, b :: y => by
    have ih := ltB_total x y
    simp only [ltB]
    rcases Nat.lt_trichotomy a b with h | h | h
    · simp [h, Nat.not_lt_of_gt h, show ¬ b = a by omega]
    · subst h
      simp only [Nat.lt_irrefl, decide_false, Bool.false_or, beq_self_eq_true, Bool.true_and]
      rw [← ih]
      congr 1
      simp
    · simp [h, Nat.not_lt_of_gt h, show ¬ a = b by omega]
theorem SR_leq (h : SR l x s) (k : SR m y s') : (Op.bytesLess s.toList s'.toList || (s.toList == s'.toList)) = !lessS m y l x := by
  rw [SR_less h k, lessS_eq h.2 k.2, lessS_eq k.2 h.2, ← ltB_total]
  congr 1
  rw [SR_eq h k, Bool.eq_iff_iff]
  unfold eqS
  rw [brec_beq, beq_iff_eq]
  constructor
  · intro e
    by_cases c : l = m
    · rw [if_pos c, beq_iff] at e; rw [c, e]
    · rw [if_neg c] at e; cases e
  · intro e
    have e2 := congrArg List.length e
    rw [bys_length, bys_length] at e2
    subst e2
    rw [if_pos rfl, beq_iff]
    exact bys_inj h.2 k.2 e
theorem SR_cat (h : SR l x s) (k : SR m y s') : SR (l + m) (jn x m y) (s ++ s') := by
  refine ⟨?_, jn_lt h.2 k.2⟩
  rw [bys_jn k.2, ← h.1, ← k.1, ← List.map_append]
  congr 1
end
theorem strs_ok {ρ : Ren} {op : BinOp} {f : Nat → Nat → Nat → Nat → AV} (h : ∀ l x m y s s', SR l x s → SR m y s' → f l x m y ≠ .un → ∀ w, ∃ v, (Op.stringOp op s s').run P w = .ok v w ∧ VR ρ (f l x m y) v) (h1 : op ≠ .shl ∧ op ≠ .shr) : B2 P ρ op (strs f).f := by
  intro t a b a' b' w ha hb hu
  obtain ⟨l, x, rfl⟩ := onStr_ne hu
  have hu : onStrA b (fun m y => f l x m y) ≠ .un := hu
  obtain ⟨m, y, rfl⟩ := onStr_ne hu
  obtain ⟨s, rfl, hs⟩ := ha
  obtain ⟨s', rfl, hs'⟩ := hb
  have := h l x m y s s' hs hs' hu w
  cases op <;> first | exact this | exact absurd rfl h1.1 | exact absurd rfl h1.2
theorem binS_ok {ρ : Ren} (op : BinOp) : B2 P ρ op (binS op).f := by
  cases op
  case add =>
    refine strs_ok (fun l x m y s s' h k hu w => ?_) ⟨(by decide), (by decide)⟩
    rw [brec_ble] at hu ⊢
    by_cases hl : Nat.add l m ≤ 1000000
    · rw [if_pos hl]
      change l + m ≤ 1000000 at hl
      refine ⟨.string (s ++ s'), ?_, _, rfl, SR_cat h k⟩
      simp only [Op.stringOp]
      rw [SR_size h, SR_size k, if_neg]
      · rfl
      · show ¬ _ > IntKind.i64.max
        rw [show IntKind.i64.max = 9223372036854775807 from rfl]; omega
    · rw [if_neg hl] at hu; exact absurd rfl hu
  case eql => exact strs_ok (fun l x m y s s' h k _ w => ⟨.bool _, rfl, by show Value.bool _ = _; rw [SR_eq h k]⟩) ⟨(by decide), (by decide)⟩
  case neq => exact strs_ok (fun l x m y s s' h k _ w => ⟨.bool _, rfl, by show Value.bool _ = _; rw [SR_eq h k, not_eq']⟩) ⟨(by decide), (by decide)⟩
  case lss => exact strs_ok (fun l x m y s s' h k _ w => ⟨.bool _, rfl, by show Value.bool _ = _; rw [SR_less h k]⟩) ⟨(by decide), (by decide)⟩
  case geq => exact strs_ok (fun l x m y s s' h k _ w => ⟨.bool _, rfl, by show Value.bool _ = _; rw [SR_less h k, not_eq']⟩) ⟨(by decide), (by decide)⟩
  case gtr => exact strs_ok (fun l x m y s s' h k _ w => ⟨.bool _, rfl, by show Value.bool _ = _; rw [SR_leq h k, Bool.not_not]⟩) ⟨(by decide), (by decide)⟩
  case leq => exact strs_ok (fun l x m y s s' h k _ w => ⟨.bool _, rfl, by show Value.bool _ = _; rw [SR_leq h k, not_eq']⟩) ⟨(by decide), (by decide)⟩
  all_goals exact fun t a b a' b' w _ _ hu => absurd rfl hu
theorem flts_ok {ρ : Ren} {op : BinOp} {f : Nat → Nat → AV} (h : ∀ x y, f x y ≠ .un → ∀ t w, ∃ v, (binOp op t (.float .f64 x) (.float .f64 y)).run P w = .ok v w ∧ VR ρ (f x y) v) : B2 P ρ op (flts f).f := by
  intro t a b a' b' w ha hb hu
  obtain ⟨x, rfl⟩ := onFl_ne hu
  have hu : onFlA b (fun y => f x y) ≠ .un := hu
  obtain ⟨y, rfl⟩ := onFl_ne hu
  obtain rfl := ha
  obtain rfl := hb
  exact h x y hu t w
theorem isO_eq (c : Option Ordering) : isO c false true false = (c == some .eq) := by cases c with | none => rfl | some o => cases o <;> rfl
theorem isO_lt (c : Option Ordering) : isO c true false false = (c == some .lt) := by cases c with | none => rfl | some o => cases o <;> rfl
theorem isO_gt (c : Option Ordering) : isO c false false true = (c == some .gt) := by cases c with | none => rfl | some o => cases o <;> rfl
theorem isO_le (c : Option Ordering) : isO c true true false = (c == some .lt || c == some .eq) := by cases c with | none => rfl | some o => cases o <;> rfl
theorem isO_ge (c : Option Ordering) : isO c false true true = (c == some .gt || c == some .eq) := by cases c with | none => rfl | some o => cases o <;> rfl
theorem oFl_ok {ρ : Ren} {r : Option Nat} (hu : oFl r ≠ .un) : ∃ z, r = some z ∧ VR ρ (oFl r) (.float .f64 z) := by
  cases r with
  | none => exact absurd rfl hu
  | some z => exact ⟨z, rfl, rfl⟩
theorem binF_ok {ρ : Ren} (op : BinOp) : B2 P ρ op (binF op).f := by
  cases op
  case eql => exact flts_ok fun x y _ t w => ⟨.bool _, rfl, by show Value.bool _ = _; rw [isO_eq]; rfl⟩
  case neq => exact flts_ok fun x y _ t w => ⟨.bool _, rfl, by show Value.bool _ = _; rw [isO_eq, not_eq']; rfl⟩
  case lss => exact flts_ok fun x y _ t w => ⟨.bool _, rfl, by show Value.bool _ = _; rw [isO_lt]; rfl⟩
  case leq => exact flts_ok fun x y _ t w => ⟨.bool _, rfl, by show Value.bool _ = _; rw [isO_le]; rfl⟩
  case gtr => exact flts_ok fun x y _ t w => ⟨.bool _, rfl, by show Value.bool _ = _; rw [isO_gt]; rfl⟩
  case geq => exact flts_ok fun x y _ t w => ⟨.bool _, rfl, by show Value.bool _ = _; rw [isO_ge]; rfl⟩
  case add =>
    refine flts_ok fun x y hu t w => ?_
    obtain ⟨z, hz, hv⟩ := oFl_ok (ρ := ρ) hu
    refine ⟨_, ?_, hv⟩
    show (Op.floatArith .add .f64 x y).run P w = _
    unfold Op.floatArith
    simp only [hz]; rfl
  case sub =>
    refine flts_ok fun x y hu t w => ?_
    obtain ⟨z, hz, hv⟩ := oFl_ok (ρ := ρ) hu
    refine ⟨_, ?_, hv⟩
    show (Op.floatArith .sub .f64 x y).run P w = _
    unfold Op.floatArith
    simp only [hz]; rfl
  case mul =>
    refine flts_ok fun x y hu t w => ?_
    obtain ⟨z, hz, hv⟩ := oFl_ok (ρ := ρ) hu
    refine ⟨_, ?_, hv⟩
    show (Op.floatArith .mul .f64 x y).run P w = _
    unfold Op.floatArith
    simp only [hz]; rfl
  all_goals exact fun t a b a' b' w _ _ hu => absurd rfl hu
end Kv
end
end
section
noncomputable section
namespace Kv
open Go.RowKit
variable {P : Program}
def E2 (P : Program) (ρ : Ren) (t : TypeId) (f : AV → AV → (Bool → AV) → AV) : Prop := ∀ (a b : AV) (φ : Bool → AV) (a' b' : Value) (w : World), VR ρ a a' → VR ρ b b' → f a b φ ≠ .un → ∃ r, (Op.equal t a' b').run P w = .ok r w ∧ f a b φ = φ r ∧ (∀ op, op = .eql ∨ op = .neq → (binOp op t a' b').run P w = .ok (.bool (if op = .eql then r else !r)) w)
theorem equal_eq (t : TypeId) (x y : Value) : Op.equal t x y = Op.equalIn 10000 t x y := rfl
theorem binOp_eql {t : TypeId} {x y : Value} {r : Bool} {w : World} (hx : (∀ k n, x ≠ .int k n) ∧ (∀ k n, x ≠ .float k n) ∧ (∀ k n m, x ≠ .complex k n m) ∧ (∀ s, x ≠ .string s)) (h : (Op.equal t x y).run P w = .ok r w) : ∀ op, op = .eql ∨ op = .neq → (binOp op t x y).run P w = .ok (.bool (if op = .eql then r else !r)) w := by
  rintro op (rfl | rfl)
  · have e : binOp .eql t x y = (do pure (.bool (← Op.equal t x y))) := by
      cases x <;> first | rfl | exact absurd rfl (hx.1 _ _) | exact absurd rfl (hx.2.1 _ _) | exact absurd rfl (hx.2.2.1 _ _ _) | exact absurd rfl (hx.2.2.2 _)
    rw [e, rb h]; rfl
  · have e : binOp .neq t x y = (do pure (.bool (!(← Op.equal t x y)))) := by
      cases x <;> first | rfl | exact absurd rfl (hx.1 _ _) | exact absurd rfl (hx.2.1 _ _) | exact absurd rfl (hx.2.2.1 _ _ _) | exact absurd rfl (hx.2.2.2 _)
    rw [e, rb h]; rfl
theorem equalIn_go {t : TypeId} {d : TypeDesc} (hd : P.underlying t = some d) (x y : Value) (w : World) (s : Sem Bool) (n : Nat) (h : Op.equalIn (n + 1) t x y = (underlying t >>= fun d' => s) ∨ True) : True := trivial
theorem bl_ok {ρ : Ren} {t : TypeId} (hd : P.underlying t = some .bool) : E2 P ρ t eqBl := by
  intro a b φ a' b' w ha hb hu
  obtain ⟨x, rfl⟩ := onBl_ne hu
  have hu : onBlA b (fun y => φ (@Bool.rec (fun _ => Bool) (not y) y x)) ≠ .un := hu
  obtain ⟨y, rfl⟩ := onBl_ne hu
  obtain rfl := ha
  obtain rfl := hb
  have h1 : (Op.equal t (.bool x) (.bool y)).run P w = .ok (x == y) w := by
    rw [equal_eq]
    unfold Op.equalIn
    rw [rb (r_underlying hd w)]; rfl
  refine ⟨x == y, h1, ?_, binOp_eql ⟨(fun _ _ e => by cases e), (fun _ _ e => by cases e), (fun _ _ _ e => by cases e), (fun _ e => by cases e)⟩ h1⟩
  show φ (@Bool.rec (fun _ => Bool) (not y) y x) = _
  congr 1
  cases x <;> cases y <;> rfl
theorem fn_ok {ρ : Ren} {t : TypeId} {a1 a2 a3} (hd : P.underlying t = some (.func a1 a2 a3)) : E2 P ρ t eqFn := by
  intro a b φ a' b' w ha hb hu
  have key : ∀ r, (Op.equal t a' b').run P w = .ok r w → eqFn a b φ = φ r → ((∀ k n, a' ≠ .int k n) ∧ (∀ k n, a' ≠ .float k n) ∧ (∀ k n m, a' ≠ .complex k n m) ∧ (∀ s, a' ≠ .string s)) → ∃ r, (Op.equal t a' b').run P w = .ok r w ∧ eqFn a b φ = φ r ∧ (∀ op, op = .eql ∨ op = .neq → (binOp op t a' b').run P w = .ok (.bool (if op = .eql then r else !r)) w) := fun r h1 h2 h3 => ⟨r, h1, h2, binOp_eql h3 h1⟩
  cases a
  case nilf =>
    obtain rfl := ha
    cases b
    case nilf =>
      obtain rfl := hb
      exact key true (by rw [equal_eq]; unfold Op.equalIn; rw [rb (r_underlying hd w)]; rfl) rfl ⟨(fun _ _ e => by cases e), (fun _ _ e => by cases e), (fun _ _ _ e => by cases e), (fun _ e => by cases e)⟩
    case fn f c d =>
      obtain ⟨c', d', rfl, _⟩ := hb
      exact key false (by rw [equal_eq]; unfold Op.equalIn; rw [rb (r_underlying hd w)]; rfl) rfl ⟨(fun _ _ e => by cases e), (fun _ _ e => by cases e), (fun _ _ _ e => by cases e), (fun _ e => by cases e)⟩
    all_goals exact absurd rfl hu
  case fn f c d =>
    obtain ⟨c', d', rfl, _⟩ := ha
    cases b
    case nilf =>
      obtain rfl := hb
      exact key false (by rw [equal_eq]; unfold Op.equalIn; rw [rb (r_underlying hd w)]; rfl) rfl ⟨(fun _ _ e => by cases e), (fun _ _ e => by cases e), (fun _ _ _ e => by cases e), (fun _ e => by cases e)⟩
    all_goals exact absurd rfl hu
  all_goals exact absurd rfl hu
theorem sl_ok {ρ : Ren} {t e : TypeId} (hd : P.underlying t = some (.slice e)) : E2 P ρ t eqSl := by
  intro a b φ a' b' w ha hb hu
  have key : ∀ r, (Op.equal t a' b').run P w = .ok r w → eqSl a b φ = φ r → ((∀ k n, a' ≠ .int k n) ∧ (∀ k n, a' ≠ .float k n) ∧ (∀ k n m, a' ≠ .complex k n m) ∧ (∀ s, a' ≠ .string s)) → ∃ r, (Op.equal t a' b').run P w = .ok r w ∧ eqSl a b φ = φ r ∧ (∀ op, op = .eql ∨ op = .neq → (binOp op t a' b').run P w = .ok (.bool (if op = .eql then r else !r)) w) := fun r h1 h2 h3 => ⟨r, h1, h2, binOp_eql h3 h1⟩
  have ho : ∀ x n m, ((∀ k l, Value.slice x n m ≠ .int k l) ∧ (∀ k l, Value.slice x n m ≠ .float k l) ∧ (∀ k l p, Value.slice x n m ≠ .complex k l p) ∧ (∀ s, Value.slice x n m ≠ .string s)) := fun x n m => ⟨(fun _ _ e => by cases e), (fun _ _ e => by cases e), (fun _ _ _ e => by cases e), (fun _ e => by cases e)⟩
  cases a
  case nils =>
    obtain rfl := ha
    cases b
    case nils =>
      obtain rfl := hb
      exact key true (by rw [equal_eq]; unfold Op.equalIn; rw [rb (r_underlying hd w)]; rfl) rfl (ho _ _ _)
    case sl i o l c =>
      obtain ⟨g, κ, _, rfl, _⟩ := hb
      exact key false (by rw [equal_eq]; unfold Op.equalIn; rw [rb (r_underlying hd w)]; rfl) rfl (ho _ _ _)
    case sf i o l u =>
      obtain ⟨g, κ, c, _, rfl, _⟩ := hb
      exact key false (by rw [equal_eq]; unfold Op.equalIn; rw [rb (r_underlying hd w)]; rfl) rfl (ho _ _ _)
    all_goals exact absurd rfl hu
  case sl i o l c =>
    obtain ⟨g, κ, _, rfl, _⟩ := ha
    cases b
    case nils =>
      obtain rfl := hb
      exact key false (by rw [equal_eq]; unfold Op.equalIn; rw [rb (r_underlying hd w)]; rfl) rfl (ho _ _ _)
    all_goals exact absurd rfl hu
  case sf i o l u =>
    obtain ⟨g, κ, c, _, rfl, _⟩ := ha
    cases b
    case nils =>
      obtain rfl := hb
      exact key false (by rw [equal_eq]; unfold Op.equalIn; rw [rb (r_underlying hd w)]; rfl) rfl (ho _ _ _)
    all_goals exact absurd rfl hu
  all_goals exact absurd rfl hu
theorem ptr_ok {ρ : Ren} {t e : TypeId} (hd : P.underlying t = some (.pointer e)) (he : (tyOf P e).cells ≠ 0) : E2 P ρ t eqPtr := by
  intro a b φ a' b' w ha hb hu
  have key : ∀ r, (Op.equal t a' b').run P w = .ok r w → eqPtr a b φ = φ r → ((∀ k n, a' ≠ .int k n) ∧ (∀ k n, a' ≠ .float k n) ∧ (∀ k n m, a' ≠ .complex k n m) ∧ (∀ s, a' ≠ .string s)) → ∃ r, (Op.equal t a' b').run P w = .ok r w ∧ eqPtr a b φ = φ r ∧ (∀ op, op = .eql ∨ op = .neq → (binOp op t a' b').run P w = .ok (.bool (if op = .eql then r else !r)) w) := fun r h1 h2 h3 => ⟨r, h1, h2, binOp_eql h3 h1⟩
  have ho : ∀ x, ((∀ k l, Value.pointer x ≠ .int k l) ∧ (∀ k l, Value.pointer x ≠ .float k l) ∧ (∀ k l p, Value.pointer x ≠ .complex k l p) ∧ (∀ s, Value.pointer x ≠ .string s)) := fun x => ⟨(fun _ _ e => by cases e), (fun _ _ e => by cases e), (fun _ _ _ e => by cases e), (fun _ e => by cases e)⟩
  obtain ⟨i0, d0, F⟩ := tyOf_ok (P := P) (t := e) (fun h => he (by rw [h]; rfl))
  cases a
  case nilp =>
    obtain rfl := ha
    cases b
    case nilp =>
      obtain rfl := hb
      exact key true (by rw [equal_eq]; unfold Op.equalIn; rw [rb (r_underlying hd w)]; rfl) rfl (ho _)
    case ptr i o =>
      obtain ⟨g, κ, _, rfl⟩ := hb
      exact key false (by rw [equal_eq]; unfold Op.equalIn; rw [rb (r_underlying hd w)]; rfl) rfl (ho _)
    all_goals exact absurd rfl hu
  case ptr i o =>
    obtain ⟨g, κ, e1, rfl⟩ := ha
    cases b
    case nilp =>
      obtain rfl := hb
      exact key false (by rw [equal_eq]; unfold Op.equalIn; rw [rb (r_underlying hd w)]; rfl) rfl (ho _)
    case ptr j p =>
      obtain ⟨g', κ', e2, rfl⟩ := hb
      have e : eqPtr (.ptr i o) (.ptr j p) φ = if i = j then φ (Nat.beq o p) else .un := brec_beq _ _ _ _
      rw [e] at hu ⊢
      by_cases h : i = j
      · subst h
        rw [e1] at e2
        injection e2 with e2
        injection e2 with e3 e4
        subst e3
        rw [if_pos rfl]
        have h1 : (Op.equal t (.pointer (some ⟨g, o, none⟩)) (.pointer (some ⟨g, p, none⟩))).run P w = .ok (Nat.beq o p) w := by
          rw [equal_eq]
          unfold Op.equalIn
          rw [rb (r_underlying hd w)]
          simp only
          rw [rb (r_sizeOf F.hi w), if_pos (by rw [F.size]; exact he)]
          unfold sameAddr
          simp only [beq_self_eq_true, if_true]
          rw [rp]
          congr 1
          rw [Bool.eq_iff_iff, beq_iff_eq, beq_iff]
          constructor
          · intro h; injection h
          · intro h; rw [h]
        exact ⟨_, h1, rfl, binOp_eql (ho _) h1⟩
      · rw [if_neg h] at hu; exact absurd rfl hu
    all_goals exact absurd rfl hu
  all_goals exact absurd rfl hu
theorem binE_ok {ρ : Ren} {t : TypeId} {f : AV → AV → (Bool → AV) → AV} (hf : E2 P ρ t f) (op : BinOp) (a b : AV) (a' b' : Value) (w : World) (ha : VR ρ a a') (hb : VR ρ b b') (hu : (binE f op).f a b ≠ .un) : ∃ v, (binOp op t a' b').run P w = .ok v w ∧ VR ρ ((binE f op).f a b) v := by
  cases op
  case eql =>
    obtain ⟨r, h1, h2, h3⟩ := hf a b (fun x => .bl x) a' b' w ha hb hu
    refine ⟨_, h3 .eql (.inl rfl), ?_⟩
    show VR ρ (f a b fun x => .bl x) _
    rw [h2]; rfl
  case neq =>
    obtain ⟨r, h1, h2, h3⟩ := hf a b (fun x => .bl (not x)) a' b' w ha hb hu
    refine ⟨_, h3 .neq (.inr rfl), ?_⟩
    show VR ρ (f a b fun x => .bl (not x)) _
    rw [h2, not_eq']; rfl
  all_goals exact absurd rfl hu
theorem binC_ok {ρ : Ren} (op : BinOp) (t : TypeId) (a b : AV) (a' b' : Value) (w : World) (ha : VR ρ a a') (hb : VR ρ b b') (hu : (binC P op t).f a b ≠ .un) : ∃ v, (binOp op t a' b').run P w = .ok v w ∧ VR ρ ((binC P op t).f a b) v := by
  unfold binC at hu ⊢
  split at hu
  · exact binI_ok op _ t a b a' b' w ha hb hu
  · exact binS_ok op t a b a' b' w ha hb hu
  · exact binF_ok op t a b a' b' w ha hb hu
  · next hd => exact binE_ok (bl_ok hd) op a b a' b' w ha hb hu
  · next e hd =>
    rw [brec_beq] at hu ⊢
    by_cases he : (tyOf P e).cells = 0
    · rw [if_pos he] at hu; exact absurd rfl hu
    · rw [if_neg he] at hu ⊢
      exact binE_ok (ptr_ok hd he) op a b a' b' w ha hb hu
  · next hd => exact binE_ok (sl_ok hd) op a b a' b' w ha hb hu
  · next hd => exact binE_ok (fn_ok hd) op a b a' b' w ha hb hu
  · exact absurd rfl hu
def headB (a : AV) : Bool := match a with | .agg _ => false | .ba _ _ => false | .nili => false | .un => false | _ => true
theorem headB_of {a : AV} (h : (∃ c x, a = .int c x) ∨ (∃ c x, a = .str c x) ∨ (∃ x, a = .fl x) ∨ (∃ x, a = .bl x)) : headB a = true := by
  rcases h with ⟨_, _, rfl⟩ | ⟨_, _, rfl⟩ | ⟨_, rfl⟩ | ⟨_, rfl⟩ <;> rfl
theorem binC_head {op : BinOp} {t : TypeId} {a b : AV} (hu : (binC P op t).f a b ≠ .un) : headB a = true := by
  have h1 : ∀ φ f, onIntA a φ ≠ .un → f = () → headB a = true := fun φ f h _ => headB_of (.inl (onInt_ne h))
  unfold binC at hu
  split at hu
  · next k _ =>
    have hi : ∀ f, (ints (knum k) f).f a b ≠ .un → headB a = true := fun f h => headB_of (.inl (onInt_ne h))
    have ho : ∀ f, (ordC (knum k) f).f a b ≠ .un → headB a = true := fun f h => by
      unfold ordC at h
      rw [brec] at h
      split at h
      · exact hi _ h
      · exact hi _ h
    cases op <;> first | exact hi _ hu | exact ho _ hu | exact headB_of (.inl (onInt_ne hu))
  · cases op <;> first | exact headB_of (.inr (.inl (onStr_ne hu))) | exact absurd rfl hu
  · cases op <;> first | exact headB_of (.inr (.inr (.inl (onFl_ne hu)))) | exact absurd rfl hu
  · cases op <;> first | exact headB_of (.inr (.inr (.inr (onBl_ne hu)))) | exact absurd rfl hu
  · rw [brec_beq] at hu
    split at hu
    · exact absurd rfl hu
    · cases op <;> first | exact absurd rfl hu | (cases a <;> first | rfl | exact absurd rfl hu)
  · cases op <;> first | exact absurd rfl hu | (cases a <;> first | rfl | exact absurd rfl hu)
  · cases op <;> first | exact absurd rfl hu | (cases a <;> first | rfl | exact absurd rfl hu)
  · exact absurd rfl hu
theorem guard_ok {ρ : Ren} {a : AV} {a' : Value} (ha : VR ρ a a') (h : headB a = true) (op : BinOp) (t : TypeId) (x y : Operand) (b' : Value) (w : World) : (eqGuard op t x y a' b').run P w = .ok () w := by
  have hc : (∀ cs, a' ≠ .agg cs) ∧ a' ≠ .nilIface := by
    cases a <;> first
      | (cases h; done)
      | (obtain rfl : _ = _ := ha; exact ⟨(fun _ e => by cases e), (fun e => by cases e)⟩)
      | (obtain ⟨rfl, _⟩ := ha; exact ⟨(fun _ e => by cases e), (fun e => by cases e)⟩)
      | (obtain ⟨_, rfl, _⟩ := ha; exact ⟨(fun _ e => by cases e), (fun e => by cases e)⟩)
      | (obtain ⟨_, _, rfl⟩ := ha; exact ⟨(fun _ e => by cases e), (fun e => by cases e)⟩)
      | (obtain ⟨_, _, rfl, _⟩ := ha; exact ⟨(fun _ e => by cases e), (fun e => by cases e)⟩)
      | (obtain ⟨_, _, _, rfl⟩ := ha; exact ⟨(fun _ e => by cases e), (fun e => by cases e)⟩)
      | (obtain ⟨_, _, _, rfl, _⟩ := ha; exact ⟨(fun _ e => by cases e), (fun e => by cases e)⟩)
      | (obtain ⟨_, _, _, _, rfl, _⟩ := ha; exact ⟨(fun _ e => by cases e), (fun e => by cases e)⟩)
  cases op <;> first | rfl | (cases a' <;> first | rfl | exact absurd rfl (hc.1 _) | exact absurd rfl hc.2)
end Kv
end
end
section
noncomputable section
namespace Kv
open Go.RowKit
variable {P : Program}
def RR (ρ : Ren) (r : RG) (a : Act) : Prop := ∀ k, k < 512 → VR ρ (getR r k) (a.tmps.getD k undef)
theorem RR.mono {ρ ρ' : Ren} {r : RG} {a : Act} (h : RLe ρ ρ') (k : RR ρ r a) : RR ρ' r a := fun i hi => (k i hi).mono h
theorem arg_ok {ρ : Ren} {r : RG} {a : Act} (rr : RR ρ r a) (x : Operand) (hu : (argC x).f r ≠ .un) : VR ρ ((argC x).f r) (a.eval x) := by
  cases x with
  | tmp t =>
    rcases Nat.lt_or_ge t 512 with h | h
    · exact rr t h
    · exact absurd (getR_out r h) hu
  | const v => exact cvt_ok ρ v hu
  | global g => exact absurd rfl hu
  | func f => exact ⟨#[], #[], rfl, rfl, rfl⟩
theorem arg_un {ρ : Ren} {r : RG} {a : Act} (rr : RR ρ r a) {x : Operand} (h : okOp x = true) : (argC x).f r ≠ .un := by
  cases x with
  | tmp t =>
    have h : t ≤ 511 := (ble_iff _ _).1 h
    intro e
    have := rr t (Nat.lt_succ_of_le h)
    change VR ρ ((argC (.tmp t)).f r) _ at this
    rw [e] at this
    exact this.elim
  | const v =>
    intro e
    have e : cvt v = .un := e
    change not (isUn (cvt v)) = true at h
    rw [e] at h; cases h
  | global g => cases h
  | func f => intro e; cases e
theorem args_ok {ρ : Ren} {r : RG} {a : Act} (rr : RR ρ r a) : ∀ (l : List Operand), okOps l = true → VRs ρ ((argsC l).f r) (l.map a.eval)
  | [], _ => rfl
  | x :: l, h => by
    change @Bool.rec (fun _ => Bool) false (okOps l) (okOp x) = true at h
    rw [brec] at h
    split at h
    · next hx =>
      have e : (argsC (x :: l)).f r = (argC x).f r :: (argsC l).f r := by
        unfold argsC
        simp only [bxrec]
        cases l <;> rfl
      rw [e]
      exact ⟨_, _, rfl, arg_ok rr x (arg_un rr hx), args_ok rr l h⟩
    · cases h
def SrcR (ρ : Ren) (n c : Nat) : Src → List Value → Prop
  | .bad, _ => False
  | .b m y, cs => m = n ∧ c = 1 ∧ cs = byC n y ∧ y < 256 ^ n
  | .t s i, cs => 0 < c ∧ cs.length = c * n ∧ ∀ k, k < n → UR ρ c (s.get (i + k)) (chunk cs c k)
  | .c l, cs => VRs ρ l cs ∧ l.all sca = true ∧ cs.length = c * n ∧ (c = 1 ∨ l = [])
theorem SrcR.length {ρ : Ren} {n c : Nat} {s : Src} {cs : List Value} (h : SrcR ρ n c s cs) : cs.length = c * n := by
  cases s with
  | bad => exact h.elim
  | b m y => obtain ⟨_, h1, h2, _⟩ := h; rw [h2, byC_length, h1]; omega
  | t s i => exact h.2.1
  | c l => exact h.2.2.1
theorem UR.one {ρ : Ren} {u : Nat} {a : AV} {cs : List Value} (h : UR ρ u a cs) : ∀ x ∈ cs, oneV x = true := VRs_one h.vs h.sc
theorem SrcR.one {ρ : Ren} {n c : Nat} {s : Src} {cs : List Value} (h : SrcR ρ n c s cs) : ∀ x ∈ cs, oneV x = true := by
  cases s with
  | bad => exact h.elim
  | b m y => obtain ⟨_, _, h2, _⟩ := h; rw [h2]; exact VRs_one (VRs_bytesL ρ n y) (sca_bytesL n y)
  | c l => exact VRs_one h.1 h.2.1
  | t s i =>
    obtain ⟨h0, h1, h2⟩ := h
    intro x hx
    obtain ⟨k, hk⟩ := List.mem_iff_getElem?.1 hx
    have hlt := (List.getElem?_eq_some_iff.1 hk).1
    have hd := divmod k c
    have hm := Nat.mod_lt k h0
    have hkn : k / c < n := by
      rw [Nat.div_lt_iff_lt_mul h0, Nat.mul_comm]; omega
    refine (h2 (k / c) hkn).one x (List.mem_iff_getElem?.2 ⟨k % c, ?_⟩)
    rw [chunk_get, if_pos hm, hd]; exact hk
theorem r_firstCells {b o l k n c : Nat} {cs : Array Value} {tid : TypeId} {fr : Nat × Nat} {w : World} (hb : w.heap[b]? = some (.cells cs tid fr)) (h : o + n * c ≤ cs.size) : (Builtin.firstCells c n (.slice (some ⟨b, o, none⟩) l k)).run P w = .ok ((cs.toList.drop o).take (n * c)).toArray w := r_loadCells hb h
theorem chunk_chunk {α : Type} (l : List α) (c i n k : Nat) (hk : k < n) : chunk ((l.drop (i * c)).take (n * c)) c k = chunk l c (i + k) := by
  apply List.ext_getElem?
  intro m
  rw [chunk_get, chunk_get]
  by_cases hm : m < c
  · have : (k + 1) * c ≤ n * c := Nat.mul_le_mul_right _ hk
    rw [Nat.add_mul] at this
    rw [if_pos hm, if_pos hm, List.getElem?_take_of_lt (by omega), List.getElem?_drop]
    congr 1
    rw [Nat.add_mul]; omega
  · rw [if_neg hm, if_neg hm]
theorem srcGo_ok {ρ : Ren} {h : HP} {n c i o b κ : Nat} {u8 : Bool} {ob : Obj} {w : World} (h8 : u8 = true → c = 1) (hc : 0 < c) (hb : w.heap[b]? = some ob) (hB : BR ρ κ (h.get i) ob) (hu : srcOf.go h n c u8 i o ≠ .bad) :
    ∃ cs tid fr, ob = .cells cs tid fr ∧ o + n * c ≤ cs.size ∧ SrcR ρ n c (srcOf.go h n c u8 i o) ((cs.toList.drop o).take (n * c)) := by
  unfold srcOf.go at hu ⊢
  generalize h.get i = blk at *
  cases blk with
  | dead => exact absurd rfl hu
  | si l x p => exact absurd rfl hu
  | «by» l x =>
    obtain ⟨cs, tid, fr, rfl, k1, k2, k3, k4, k5⟩ := hB
    simp only at hu ⊢
    rw [brec] at hu ⊢
    by_cases h1 : u8 = true
    · have hc1 := h8 h1
      subst hc1
      rw [if_pos h1, brec_ble] at hu ⊢
      by_cases h2 : Nat.add o n ≤ l
      · rw [if_pos h2]
        have h2 : o + n ≤ l := h2
        refine ⟨cs, tid, fr, rfl, by omega, rfl, rfl, ?_, ?_⟩
        · have e1 := bys_sub (l := l) (x := x) (i := o) (j := o + n) (by omega) h2
          rw [show o + n - o = n by omega] at e1
          show _ = byC n (sub l x o (o + n))
          unfold byC
          rw [e1, List.map_drop, List.map_take]
          change _ = ((byC l x).take (o + n)).drop o
          rw [← k5, List.take_take, Nat.min_eq_left h2, List.drop_take, show o + n - o = n by omega, Nat.mul_one]
        · have := sub_lt l x o (o + n)
          rwa [show o + n - o = n by omega] at this
      · rw [if_neg h2] at hu; exact absurd rfl hu
    · rw [if_neg h1] at hu; exact absurd rfl hu
  | row u m t =>
    obtain ⟨cs, tid, fr, rfl, k1, k2, k3, k4, k5, k6⟩ := hB
    have hdm := divmod o u
    have hcl : cs.toList.length = cs.size := Array.length_toList
    simp only at hu ⊢
    rw [brec] at hu ⊢
    by_cases h1 : u8 = true
    · have hc1 := h8 h1
      subst hc1
      rw [if_pos h1, brec_ble] at hu ⊢
      by_cases h2 : m ≤ Nat.div o u
      · rw [if_pos h2] at hu; exact absurd rfl hu
      · rw [if_neg h2] at hu ⊢
        have h2' : o / u < m := by have := Nat.lt_of_not_le h2; exact this
        have hU := k6 (o / u) h2'
        have hm : (o / u + 1) * u ≤ m * u := Nat.mul_le_mul_right _ h2'
        rw [Nat.add_mul, Nat.mul_comm m] at hm
        change (match t.get (o / u) with | .ba l x => _ | _ => _ : Src) ≠ _ at hu
        change ∃ cs' tid' fr', Obj.cells cs tid fr = _ ∧ _ ∧ SrcR ρ n 1 (match t.get (o / u) with | .ba l x => _ | _ => _) _
        generalize t.get (o / u) = a at *
        cases a
        case ba l x =>
          simp only at hu ⊢
          rw [brec_ble] at hu ⊢
          by_cases h3 : Nat.add (Nat.mod o u) n ≤ l
          · rw [if_pos h3]
            have h3 : o % u + n ≤ l := h3
            have hlu : l = u := by
              have := VRs.length _ _ hU.vs
              rw [hU.len] at this
              rw [← this]
              show l = (bytesL l x).length
              rw [bytesL_eq, List.length_map, bys_length]
            subst hlu
            have hv := VRs_bytes_inv hU.vs
            refine ⟨cs, tid, fr, rfl, by omega, rfl, rfl, ?_, ?_⟩
            · have e1 := bys_sub (l := l) (x := x) (i := o % l) (j := o % l + n) (by omega) h3
              rw [show o % l + n - o % l = n by omega] at e1
              show _ = byC n (sub l x (o % l) (o % l + n))
              unfold byC
              rw [e1, List.map_drop, List.map_take]
              change _ = ((byC l x).take (o % l + n)).drop (o % l)
              rw [← hv, List.take_take, Nat.min_eq_left h3, List.drop_take, List.drop_drop, hdm, show o % l + n - o % l = n by omega, Nat.mul_one]
            · have := sub_lt l x (o % l) (o % l + n)
              rwa [show o % l + n - o % l = n by omega] at this
          · rw [if_neg h3] at hu; exact absurd rfl hu
        all_goals exact absurd rfl hu
    · rw [if_neg h1, brec_beq] at hu ⊢
      by_cases h2 : u = c
      · subst h2
        rw [if_pos rfl, brec_ble] at hu ⊢
        by_cases h3 : Nat.add (Nat.div o u) n ≤ m
        · rw [if_pos h3, brec_beq] at hu ⊢
          have h3 : o / u + n ≤ m := h3
          by_cases h4 : Nat.mod o u = 0
          · rw [if_pos h4]
            have h4 : o % u = 0 := h4
            have hm : (o / u + n) * u ≤ m * u := Nat.mul_le_mul_right _ h3
            rw [Nat.add_mul, Nat.mul_comm m] at hm
            have ho : o = o / u * u := by omega
            refine ⟨cs, tid, fr, rfl, by omega, hc, ?_, fun k hk => ?_⟩
            · rw [List.length_take, List.length_drop, Nat.mul_comm u]; omega
            · have e := chunk_chunk cs.toList u (o / u) n k hk
              rw [← ho] at e
              rw [e]
              exact k6 (o / u + k) (by omega)
          · rw [if_neg h4] at hu; exact absurd rfl hu
        · rw [if_neg h3] at hu; exact absurd rfl hu
      · rw [if_neg h2, brec_beq] at hu ⊢
        by_cases h3 : c = 1
        · subst h3
          rw [if_pos rfl, brec_ble] at hu ⊢
          by_cases h4 : m ≤ Nat.div o u
          · rw [if_pos h4] at hu; exact absurd rfl hu
          · rw [if_neg h4] at hu ⊢
            have h4 : o / u < m := by have := Nat.lt_of_not_le h4; exact this
            have hU := k6 (o / u) h4
            have hm : (o / u + 1) * u ≤ m * u := Nat.mul_le_mul_right _ h4
            rw [Nat.add_mul, Nat.mul_comm m] at hm
            change (match t.get (o / u) with | .agg l => _ | _ => _ : Src) ≠ _ at hu
            change ∃ cs' tid' fr', Obj.cells cs tid fr = _ ∧ _ ∧ SrcR ρ n 1 (match t.get (o / u) with | .agg l => _ | _ => _) _
            generalize t.get (o / u) = a at *
            cases a
            case agg l =>
              simp only at hu ⊢
              rw [brec_ble, len_eq, tak_eq, drp_eq] at hu ⊢
              by_cases h5 : Nat.add (Nat.mod o u) n ≤ l.length
              · rw [if_pos h5]
                have h5 : o % u + n ≤ l.length := h5
                have hlu : l.length = u := by rw [← hU.len]; exact VRs.length _ _ hU.vs
                refine ⟨cs, tid, fr, rfl, by omega, ?_, all_sca_take _ (all_sca_drop _ hU.sc), ?_, .inl rfl⟩
                · have := (hU.vs.drop (o % u)).take n
                  rw [List.drop_take, List.take_take, List.drop_drop, hdm, Nat.min_eq_left (by omega)] at this
                  rw [Nat.mul_one]; exact this
                · rw [List.length_take, List.length_drop]; omega
              · rw [if_neg h5] at hu; exact absurd rfl hu
            all_goals exact absurd rfl hu
        · rw [if_neg h3] at hu; exact absurd rfl hu
theorem onLen_ne {v : AV} {φ : Nat → AV} (h : onLenA v φ ≠ .un) : ∃ l, lenV v = some l ∧ onLenA v φ = φ l := by cases v <;> first | exact ⟨_, rfl, rfl⟩ | exact absurd rfl h
theorem onLenR_ne {v : AV} {φ : Nat → R} (h : onLenR v φ ≠ none) : ∃ l, lenV v = some l ∧ onLenR v φ = φ l := by cases v <;> first | exact ⟨_, rfl, rfl⟩ | exact absurd rfl h
theorem VR_len {ρ : Ren} {v : AV} {v' : Value} {l : Nat} (h : VR ρ v v') (hl : lenV v = some l) (w : World) : (Builtin.lenOf v').run P w = .ok l w := by
  cases v <;> first
    | (cases hl; done)
    | (injection hl with hl; subst hl; obtain ⟨_, rfl, k⟩ := h; rw [← SR_size k]; rfl)
    | (injection hl with hl; subst hl; obtain rfl : _ = _ := h; rfl)
    | (injection hl with hl; subst hl; obtain ⟨_, _, rfl⟩ := h; rfl)
    | (injection hl with hl; subst hl; obtain ⟨_, _, _, rfl, _⟩ := h; rfl)
    | (injection hl with hl; subst hl; obtain ⟨_, _, _, _, rfl, _⟩ := h; rfl)
theorem src_ok {ρ : Ren} {h : HP} {w : World} (hr : HR ρ h w) {n c l : Nat} {u8 : Bool} (h8 : u8 = true → c = 1) (hc : 0 < c) {v : AV} {v' : Value} (hv : VR ρ v v') (hl : lenV v = some l) (hn : n ≤ l) (hstr : ∀ l x, v = .str l x → c = 1) (hu : srcOf h v n c u8 ≠ .bad) :
    ∃ cs : List Value, (Builtin.firstCells c n v').run P w = .ok cs.toArray w ∧ SrcR ρ n c (srcOf h v n c u8) cs := by
  have hgo : ∀ i o b κ k m, ρ i = some (b, κ) → v' = .slice (some ⟨b, o, none⟩) k m → srcOf.go h n c u8 i o ≠ .bad → ∃ cs : List Value, (Builtin.firstCells c n v').run P w = .ok cs.toArray w ∧ SrcR ρ n c (srcOf.go h n c u8 i o) cs := fun i o b κ k m hi e hu => by
    obtain ⟨_, ob, h1, h2⟩ := hr.at_ i b κ hi
    obtain ⟨cs, tid, fr, rfl, h3, h4⟩ := srcGo_ok h8 hc h1 h2 hu
    rw [e]
    exact ⟨_, r_firstCells h1 h3, h4⟩
  cases v
  case nils =>
    injection hl with hl
    obtain rfl := hv
    have : n = 0 := by omega
    subst this
    exact ⟨[], rfl, rfl, rfl, rfl, .inr rfl⟩
  case se =>
    injection hl with hl
    obtain ⟨a, k, rfl⟩ := hv
    have : n = 0 := by omega
    subst this
    refine ⟨[], ?_, rfl, rfl, rfl, .inr rfl⟩
    cases a with
    | none => rfl
    | some a =>
      show (loadCells a (0 * c)).run P w = _
      rw [Nat.zero_mul]; rfl
  case str l' x =>
    injection hl with hl
    subst hl
    obtain ⟨s, rfl, hs⟩ := hv
    have hc1 := hstr _ _ rfl
    subst hc1
    have e : srcOf h (.str l' x) n 1 u8 = if n ≤ l' then .b n (sub l' x 0 n) else .bad := brec_ble _ _ _ _
    rw [e, if_pos hn]
    refine ⟨byC n (sub l' x 0 n), ?_, rfl, rfl, rfl, ?_⟩
    · show (pure ((s.extract 0 n).data.map fun b => Value.int .u8 b.toNat) : Sem (Array Value)).run P w = _
      rw [rp]
      congr 1
      apply Array.ext'
      have e1 := bys_sub (l := l') (x := x) (i := 0) (j := n) (by omega) hn
      rw [List.drop_zero, Nat.sub_zero] at e1
      show _ = byC n (sub l' x 0 n)
      unfold byC
      rw [e1, ← hs.1]
      simp [ByteArray.data_extract, List.map_take]
      rfl
    · have := sub_lt l' x 0 n
      rwa [Nat.sub_zero] at this
  case sl i o l' k =>
    obtain ⟨b, κ, e1, e2, _⟩ := hv
    exact hgo i o b κ _ _ e1 e2 hu
  case sf i o l' k =>
    obtain ⟨b, κ, m, e1, e2, _⟩ := hv
    exact hgo i o b κ _ _ e1 e2 hu
  all_goals exact absurd rfl hu
end Kv
end
end
section
noncomputable section
namespace Kv
open Go.RowKit
variable {P : Program}
def QS (P : Program) (ρ : Ren) (w : World) (s : Sem Value) (x : AV) : Prop := ∃ v, s.run P w = .ok v w ∧ VR ρ x v
section
variable {ρ : Ren} {w : World} {h : HP}
theorem onIdx_ne {v : AV} {φ : Nat → AV} (hu : onIdxA v φ ≠ .un) : ∃ c x, v = .int c x ∧ onIdxA v φ = φ x ∧ (sgnN c = true → x < hfN c) := by
  obtain ⟨c, x, rfl⟩ := onInt_ne hu
  have e : onIdxA (.int c x) φ = if (if sgnN c = true then Nat.ble (hfN c) x else false) = true then .un else φ x := by
    show @Bool.rec (fun _ => AV) (φ x) .un (@Bool.rec (fun _ => Bool) false (Nat.ble (hfN c) x) (sgnN c)) = _
    rw [brec, brec]
  refine ⟨c, x, rfl, ?_⟩
  rw [e] at hu ⊢
  by_cases h1 : (if sgnN c = true then Nat.ble (hfN c) x else false) = true
  · rw [if_pos h1] at hu; exact absurd rfl hu
  · rw [if_neg h1]
    refine ⟨rfl, fun hs => ?_⟩
    rw [if_pos hs, ble_iff] at h1; omega
theorem idx_val {v : AV} {v' : Value} {φ : Nat → AV} (hv : VR ρ v v') (hu : onIdxA v φ ≠ .un) : ∃ k n, v' = .int k (n : Nat) ∧ onIdxA v φ = φ n := by
  obtain ⟨c, x, rfl, e, h1⟩ := onIdx_ne hu
  obtain ⟨rfl, h2, h3⟩ := VR_int.1 hv
  exact ⟨kindOf c, x, by rw [toI_nat h2 h1], e⟩
theorem r_asIntOf (k : IntKind) (n : Int) (w : World) : (asIntOf (.int k n)).run P w = .ok (k, n) w := rfl
theorem r_sliceBound {k : IntKind} {n y : Nat} (h : n ≤ y) (code : BoundsCode) (w : World) : (Instr.sliceBound (.int k (n : Nat)) y code).run P w = .ok n w := by
  unfold Instr.sliceBound
  rw [rb (r_asIntOf k n w)]
  simp only
  rw [if_pos ⟨by omega, by omega⟩]
  rfl
def OR (ρ : Ren) : Option AV → Option Value → Prop
  | none, none => True
  | some a, some v => a ≠ .un → VR ρ a v
  | _, _ => False
def boundV (o : Option Value) (z : Nat) (n : Nat) : Prop := match o with | none => n = z | some v => ∃ k, v = .int k (n : Nat)
theorem oIdx_val {o : Option AV} {o' : Option Value} {z : Nat} {φ : Nat → AV} (ho : OR ρ o o') (hu : oIdx o z φ ≠ .un) : ∃ n, boundV o' z n ∧ oIdx o z φ = φ n := by
  cases o with
  | none => cases o' with
    | none => exact ⟨z, rfl, rfl⟩
    | some v => exact ho.elim
  | some a => cases o' with
    | none => exact ho.elim
    | some v =>
      obtain ⟨c, x, ea, _⟩ := onIdx_ne hu
      obtain ⟨k, n, e, e2⟩ := idx_val (ho (by rw [ea]; intro h; cases h)) hu
      exact ⟨n, ⟨k, e⟩, e2⟩
theorem r_sliceBounds {lo hi mx : Option Value} {isS : Bool} {l c a b m : Nat} (ha : boundV lo 0 a) (hb : boundV hi l b) (hm : boundV mx c m) (h1 : m ≤ c) (h2 : b ≤ m) (h3 : a ≤ b) (hmx : hi = none → mx = none) (w : World) :
    (Instr.sliceBounds isS l c lo hi mx).run P w = .ok (a, b, m) w := by
  unfold Instr.sliceBounds
  cases mx with
  | none =>
    obtain rfl := hm
    cases hi with
    | none =>
      obtain rfl := hb
      cases lo with
      | none => obtain rfl := ha; rfl
      | some v =>
        obtain ⟨k, rfl⟩ := ha
        simp only [bind, Sem.bind, pure]
        show ((Instr.sliceBound _ _ _) >>= fun l => pure (l, b, m)).run P w = _
        rw [rb (r_sliceBound h3 _ w)]; rfl
    | some vh =>
      obtain ⟨kh, rfl⟩ := hb
      show ((Instr.sliceBound _ _ _) >>= fun h => _).run P w = _
      rw [rb (r_sliceBound h2 _ w)]
      cases lo with
      | none => obtain rfl := ha; rfl
      | some v =>
        obtain ⟨k, rfl⟩ := ha
        show ((Instr.sliceBound _ _ _) >>= fun l => pure (l, b, m)).run P w = _
        rw [rb (r_sliceBound h3 _ w)]; rfl
  | some vm =>
    obtain ⟨km, rfl⟩ := hm
    cases hi with
    | none => cases hmx rfl
    | some vh =>
      obtain ⟨kh, rfl⟩ := hb
      show ((Instr.sliceBound _ _ _) >>= fun m => _).run P w = _
      rw [rb (r_sliceBound h1 _ w)]
      show ((Instr.sliceBound _ _ _) >>= fun h => _).run P w = _
      rw [rb (r_sliceBound h2 _ w)]
      cases lo with
      | none => obtain rfl := ha; rfl
      | some v =>
        obtain ⟨k, rfl⟩ := ha
        show ((Instr.sliceBound _ _ _) >>= fun l => pure (l, b, m)).run P w = _
        rw [rb (r_sliceBound h3 _ w)]; rfl
theorem sliceK_ne {u i o c a b m : Nat} (hu : sliceK u i o c a b m ≠ .un) : m ≤ c ∧ b ≤ m ∧ a ≤ b ∧ sliceK u i o c a b m = .sl i (if m = a then o else o + a * u) (b - a) (m - a) := by
  have e : sliceK u i o c a b m = if m ≤ c then (if b ≤ m then (if a ≤ b then .sl i (if m = a then o else o + a * u) (b - a) (m - a) else .un) else .un) else .un := by
    show @Bool.rec (fun _ => AV) .un (@Bool.rec (fun _ => AV) .un (@Bool.rec (fun _ => AV) .un (.sl i (@Bool.rec (fun _ => Nat) (Nat.add o (Nat.mul a u)) o (Nat.beq m a)) (Nat.sub b a) (Nat.sub m a)) (Nat.ble a b)) (Nat.ble b m)) (Nat.ble m c) = _
    rw [brec_ble, brec_ble, brec_ble, brec_beq]; rfl
  rw [e] at hu ⊢
  by_cases h1 : m ≤ c
  · rw [if_pos h1] at hu ⊢
    by_cases h2 : b ≤ m
    · rw [if_pos h2] at hu ⊢
      by_cases h3 : a ≤ b
      · rw [if_pos h3]; exact ⟨h1, h2, h3, rfl⟩
      · rw [if_neg h3] at hu; exact absurd rfl hu
    · rw [if_neg h2] at hu; exact absurd rfl hu
  · rw [if_neg h1] at hu; exact absurd rfl hu
theorem cut_at (g o n : Nat) (m a : Nat) : (if m = a then (some ⟨g, o, none⟩ : Option Addr) else (some ⟨g, o, none⟩ : Option Addr).map (·.add n)) = some ⟨g, if m = a then o else o + n, none⟩ := by
  by_cases h : m = a
  · rw [if_pos h, if_pos h]
  · rw [if_neg h, if_neg h]
    show some (Addr.add _ _) = _
    rw [add_at]
theorem size_ty {e : TypeId} {i : TypeInfo} {d : TypeDesc} (F : TyF P e i d (tyOf P e)) (w : World) : (sizeOf e).run P w = .ok (tyOf P e).cells w := by
  rw [r_sizeOf F.hi, F.size]
theorem r_slice_slice {t e : TypeId} (hd : P.underlying t = some (.slice e)) (he : (tyOf P e).cells ≠ 0) {lo hi mx : Option Value} {l c a b m : Nat} {x : Option Addr} (ha : boundV lo 0 a) (hb : boundV hi l b) (hm : boundV mx c m) (h1 : m ≤ c) (h2 : b ≤ m) (h3 : a ≤ b) (hmx : hi = none → mx = none) (w : World) :
    (Instr.sliceAt t (.slice x l c) lo hi mx).run P w = .ok (.slice (if m = a then x else x.map (·.add (a * (tyOf P e).cells))) (b - a) (m - a)) w := by
  obtain ⟨i0, d0, F⟩ := tyOf_ok (P := P) (t := e) (fun h => he (by rw [h]; rfl))
  unfold Instr.sliceAt
  rw [rb (r_underlying hd w)]
  simp only
  unfold Instr.slice
  rw [rb (r_underlying hd w)]
  simp only
  rw [rb (r_sliceBounds ha hb hm h1 h2 h3 hmx w)]
  simp only
  rw [rb (size_ty F w)]; rfl
theorem slice_str {t : TypeId} (hd : P.underlying t = some .string) {l x : Nat} {s : ByteArray} (hs : SR l x s) {lo hi : Option AV} {lo' hi' : Option Value} (h1 : OR ρ lo lo') (h2 : OR ρ hi hi') (hu : sliceS l x lo hi ≠ .un) :
    QS P ρ w (Instr.sliceAt t (.string s) lo' hi' none) (sliceS l x lo hi) := by
  unfold sliceS at hu ⊢
  obtain ⟨a, ha, e1⟩ := oIdx_val h1 hu
  rw [e1] at hu ⊢
  obtain ⟨b, hb, e2⟩ := oIdx_val h2 hu
  rw [e2] at hu ⊢
  rw [brec_ble] at hu ⊢
  by_cases c1 : b ≤ l
  · rw [if_pos c1, brec_ble] at hu ⊢
    by_cases c2 : a ≤ b
    · rw [if_pos c2]
      have hz := SR_size hs
      refine ⟨.string (s.extract a b), ?_, _, rfl, ?_, ?_⟩
      · unfold Instr.sliceAt
        rw [rb (r_underlying hd w)]
        simp only
        unfold Instr.slice
        rw [rb (r_underlying hd w)]
        simp only
        rw [hz]
        have := r_sliceBounds (P := P) (isS := false) (mx := none) (c := l) ha hb rfl (Nat.le_refl l) c1 c2 (fun _ => rfl) w
        simp only [Option.isSome_none, Bool.false_eq_true, if_false]
        show ((Instr.sliceBounds false l l lo' hi' none) >>= _).run P w = _
        rw [rb this]; rfl
      · show _ = bys (b - a) (sub l x a b)
        rw [bys_sub c2 c1, ← hs.1, ← List.map_take, ← List.map_drop]
        congr 1
        simp [ByteArray.data_extract, List.drop_take]
      · exact sub_lt l x a b
    · rw [if_neg c2] at hu; exact absurd rfl hu
  · rw [if_neg c1] at hu; exact absurd rfl hu
theorem slice_sl {t e : TypeId} (hr : HR ρ h w) (hd : P.underlying t = some (.slice e)) (he : (tyOf P e).cells ≠ 0) {v : AV} {v' : Value} (hv : VR ρ v v') {lo hi mx : Option AV} {lo' hi' mx' : Option Value} (h1 : OR ρ lo lo') (h2 : OR ρ hi hi') (h3 : OR ρ mx mx') (hmx : hi' = none → mx' = none)
    (hu : sliceV (tyOf P e).cells h v lo hi mx ≠ .un) : QS P ρ w (Instr.sliceAt t v' lo' hi' mx') (sliceV (tyOf P e).cells h v lo hi mx) := by
  have is0_ne : ∀ {n : Nat} {v : AV}, is0 n v ≠ .un → n = 0 ∧ is0 n v = v := fun {n v} hne => by
    have e : is0 n v = if n = 0 then v else .un := brec_beq _ _ _ _
    rw [e] at hne ⊢
    by_cases hz : n = 0
    · rw [if_pos hz]; exact ⟨hz, rfl⟩
    · rw [if_neg hz] at hne; exact absurd rfl hne
  cases v
  case nils =>
    obtain rfl := hv
    have e0 : sliceV (tyOf P e).cells h .nils lo hi mx = oIdx lo 0 (fun a => oIdx hi 0 (fun b => oIdx mx 0 (fun c => is0 a (is0 b (is0 c .nils))))) := rfl
    rw [e0] at hu ⊢
    obtain ⟨a, ha, e1⟩ := oIdx_val h1 hu
    rw [e1] at hu ⊢
    obtain ⟨b, hb, e2⟩ := oIdx_val h2 hu
    rw [e2] at hu ⊢
    obtain ⟨m, hm, e3⟩ := oIdx_val h3 hu
    rw [e3] at hu ⊢
    obtain ⟨z1, e4⟩ := is0_ne hu
    rw [e4] at hu ⊢
    obtain ⟨z2, e5⟩ := is0_ne hu
    rw [e5] at hu ⊢
    obtain ⟨z3, e6⟩ := is0_ne hu
    rw [e6]
    subst z1; subst z2; subst z3
    exact ⟨_, r_slice_slice hd he ha hb hm (Nat.le_refl 0) (Nat.le_refl 0) (Nat.le_refl 0) hmx w, rfl⟩
  case se =>
    obtain ⟨x, c, rfl⟩ := hv
    have e0 : sliceV (tyOf P e).cells h .se lo hi mx = oIdx lo 0 (fun a => oIdx hi 0 (fun b => is0 a (is0 b (se1 mx)))) := rfl
    rw [e0] at hu ⊢
    obtain ⟨a, ha, e1⟩ := oIdx_val h1 hu
    rw [e1] at hu ⊢
    obtain ⟨b, hb, e2⟩ := oIdx_val h2 hu
    rw [e2] at hu ⊢
    obtain ⟨z1, e4⟩ := is0_ne hu
    rw [e4] at hu ⊢
    obtain ⟨z2, e5⟩ := is0_ne hu
    rw [e5] at hu ⊢
    subst z1; subst z2
    cases mx with
    | some v => exact absurd rfl hu
    | none =>
      cases mx' with
      | some v => exact h3.elim
      | none => exact ⟨_, r_slice_slice hd he ha hb (mx := none) (c := c) (m := c) rfl (Nat.le_refl c) (Nat.zero_le c) (Nat.le_refl 0) hmx w, _, _, rfl⟩
  case sl i o l c =>
    obtain ⟨g, κ, hi0, rfl, hlc⟩ := hv
    have e0 : sliceV (tyOf P e).cells h (.sl i o l c) lo hi mx = oIdx lo 0 (fun a => oIdx hi l (fun b => oIdx mx c (fun m => sliceK (tyOf P e).cells i o c a b m))) := rfl
    rw [e0] at hu ⊢
    obtain ⟨a, ha, e1⟩ := oIdx_val h1 hu
    rw [e1] at hu ⊢
    obtain ⟨b, hb, e2⟩ := oIdx_val h2 hu
    rw [e2] at hu ⊢
    obtain ⟨m, hm, e3⟩ := oIdx_val h3 hu
    rw [e3] at hu ⊢
    obtain ⟨k1, k2, k3, e4⟩ := sliceK_ne hu
    rw [e4]
    exact ⟨_, r_slice_slice hd he ha hb hm k1 k2 k3 hmx w, g, κ, hi0, by rw [cut_at], by omega⟩
  case sf i o l u =>
    obtain ⟨g, κ, c, hi0, rfl, hκ, hlc, hu0⟩ := hv
    have e0 : sliceV (tyOf P e).cells h (.sf i o l u) lo hi mx = if u = (tyOf P e).cells then oIdx lo 0 (fun a => oIdx hi l (fun b => sliceF (tyOf P e).cells i o (room (h.get i) o (tyOf P e).cells) a b mx)) else .un := brec_beq _ _ _ _
    rw [e0] at hu ⊢
    by_cases hue : u = (tyOf P e).cells
    · rw [if_pos hue] at hu ⊢
      obtain ⟨a, ha, e1⟩ := oIdx_val h1 hu
      rw [e1] at hu ⊢
      obtain ⟨b, hb, e2⟩ := oIdx_val h2 hu
      rw [e2] at hu ⊢
      have hk : room (h.get i) o (tyOf P e).cells ≤ c := by
        obtain ⟨_, ob, _, hB⟩ := hr.at_ i g κ hi0
        rw [← hue]
        cases hg : h.get i with
        | dead => exact Nat.zero_le _
        | si l x p => exact Nat.zero_le _
        | row u' n t =>
          rw [hg] at hB
          obtain ⟨cs, tid, fr, rfl, k1, k2, k3, k4, k5, k6⟩ := hB
          have e : room (.row u' n t) o u = if u' = u then n - o / u else 0 := brec_beq _ _ _ _
          rw [e]
          by_cases hz : u' = u
          · rw [if_pos hz]
            subst hz
            have h5 : u' * n ≤ o + c * u' := by rw [← hκ]; exact k4
            have h6 : u' * n ≤ u' * (o / u' + c) + o % u' := by
              rw [Nat.mul_add, Nat.mul_comm u' (o / u'), Nat.mul_comm u' c]
              have := divmod o u'
              omega
            have h7 : n ≤ o / u' + c := by
              apply Nat.le_of_not_lt
              intro h8
              have h9 : u' * (o / u' + c + 1) ≤ u' * n := Nat.mul_le_mul_left _ h8
              rw [Nat.mul_add u' (o / u' + c) 1, Nat.mul_one] at h9
              have := Nat.mod_lt o hu0
              omega
            omega
          · rw [if_neg hz]; exact Nat.zero_le _
        | «by» l' x =>
          rw [hg] at hB
          obtain ⟨cs, tid, fr, rfl, k1, k2, k3, k4, k5⟩ := hB
          have e : room (.by l' x) o u = if u = 1 then l' - o else 0 := brec_beq _ _ _ _
          rw [e]
          by_cases hz : u = 1
          · rw [if_pos hz]
            subst hz
            omega
          · rw [if_neg hz]; exact Nat.zero_le _
      generalize room (h.get i) o (tyOf P e).cells = k at *
      have e3 : sliceF (tyOf P e).cells i o k a b mx = if a ≤ b then (if b ≤ k then (match mx with
          | some m => onIdxA m (fun m => sliceK (tyOf P e).cells i o k a b m)
          | none => if a = 0 then .sf i o b (tyOf P e).cells else (if a + 1 ≤ k then .sf i (o + a * (tyOf P e).cells) (b - a) (tyOf P e).cells else .se)) else .un) else .un := by
        unfold sliceF
        rw [brec_ble, brec_ble]
        cases mx with
        | some m => rfl
        | none =>
          simp only
          rw [brec_beq, brec_ble]; rfl
      rw [e3] at hu ⊢
      by_cases c1 : a ≤ b
      · rw [if_pos c1] at hu ⊢
        by_cases c2 : b ≤ k
        · rw [if_pos c2] at hu ⊢
          cases mx with
          | some vm =>
            cases mx' with
            | none => exact h3.elim
            | some vm' =>
              simp only at hu ⊢
              obtain ⟨c', x', ea, _⟩ := onIdx_ne hu
              obtain ⟨km, m, e5, e6⟩ := idx_val (h3 (by rw [ea]; intro h; cases h)) hu
              rw [e6] at hu ⊢
              obtain ⟨k1, k2, k3, e7⟩ := sliceK_ne hu
              rw [e7]
              exact ⟨_, r_slice_slice hd he ha hb (mx := some vm') (m := m) ⟨km, e5⟩ (by omega) k2 k3 hmx w, g, κ, hi0, by rw [cut_at], by omega⟩
          | none =>
            cases mx' with
            | some v => exact h3.elim
            | none =>
              simp only at hu ⊢
              have hrun := r_slice_slice (P := P) hd he (x := some ⟨g, o, none⟩) ha hb (mx := none) (c := c) (m := c) rfl (Nat.le_refl c) (by omega) c1 hmx w
              rw [cut_at] at hrun
              by_cases c3 : a = 0
              · rw [if_pos c3]
                subst c3
                refine ⟨_, hrun, g, κ, c, hi0, ?_, ?_, by omega, F_pos he⟩
                · rw [Nat.zero_mul, Nat.add_zero, ite_self, Nat.sub_zero, Nat.sub_zero]
                · rw [← hue]; exact hκ
              · rw [if_neg c3]
                by_cases c4 : a + 1 ≤ k
                · rw [if_pos c4]
                  refine ⟨_, hrun, g, κ, c - a, hi0, ?_, ?_, by omega, F_pos he⟩
                  · rw [if_neg (by omega)]
                  · rw [← hue, hκ, Nat.add_assoc, ← Nat.add_mul]; congr 2; omega
                · rw [if_neg c4]
                  have hz : b - a = 0 := by omega
                  rw [hz] at hrun
                  exact ⟨_, hrun, _, _, rfl⟩
        · rw [if_neg c2] at hu; exact absurd rfl hu
      · rw [if_neg c1] at hu; exact absurd rfl hu
    · rw [if_neg hue] at hu; exact absurd rfl hu
  all_goals exact absurd rfl hu
where F_pos {n : Nat} (h : n ≠ 0) : 0 < n := Nat.pos_of_ne_zero h
theorem slice_arr {t e : TypeId} {n : Nat} (hd : P.underlying t = some (.array n e)) (he : (tyOf P e).cells ≠ 0) {i o g κ : Nat} (hi0 : ρ i = some (g, κ)) {lo hi mx : Option AV} {lo' hi' mx' : Option Value} (h1 : OR ρ lo lo') (h2 : OR ρ hi hi') (h3 : OR ρ mx mx') (hmx : hi' = none → mx' = none)
    (hu : oIdx lo 0 (fun a => oIdx hi n (fun b => oIdx mx n (fun m => sliceK (tyOf P e).cells i o n a b m))) ≠ .un) : QS P ρ w (Instr.sliceAt t (.pointer (some ⟨g, o, none⟩)) lo' hi' mx') (oIdx lo 0 (fun a => oIdx hi n (fun b => oIdx mx n (fun m => sliceK (tyOf P e).cells i o n a b m)))) := by
  obtain ⟨i0, d0, F⟩ := tyOf_ok (P := P) (t := e) (fun h => he (by rw [h]; rfl))
  obtain ⟨a, ha, e1⟩ := oIdx_val h1 hu
  rw [e1] at hu ⊢
  obtain ⟨b, hb, e2⟩ := oIdx_val h2 hu
  rw [e2] at hu ⊢
  obtain ⟨m, hm, e3⟩ := oIdx_val h3 hu
  rw [e3] at hu ⊢
  obtain ⟨k1, k2, k3, e4⟩ := sliceK_ne hu
  rw [e4]
  refine ⟨.slice (some (if m = a then ⟨g, o, none⟩ else (⟨g, o, none⟩ : Addr).add (a * (tyOf P e).cells))) (b - a) (m - a), ?_, g, κ, hi0, ?_, by omega⟩
  · unfold Instr.sliceAt
    rw [rb (r_underlying hd w)]
    simp only
    rw [rb (show (Instr.sureAddr (.pointer (some ⟨g, o, none⟩))).run P w = .ok ⟨g, o, none⟩ w from rfl)]
    rw [rb (r_sliceBounds ha hb hm k1 k2 k3 hmx w)]
    simp only
    rw [rb (size_ty F w)]; rfl
  · congr 2
    by_cases hma : m = a
    · rw [if_pos hma, if_pos hma]
    · rw [if_neg hma, if_neg hma, add_at]
end
end Kv
end
end
end Go.Proofs.YtfkoaooceickiaaGreat
