/- Parts of the proof: Kvd Kve Kvf Kvg. -/
import Derived.Below
import Derived.Orders
import Derived.Laws.Sem
import Derived.Test.YtfkoaooceickiaaGreatH06
set_option linter.all false
set_option maxRecDepth 100000
namespace Go.Proofs.YtfkoaooceickiaaGreat
section
noncomputable section
namespace Kv
theorem pow8 (k : Nat) : 2 ^ (8 * k) = 256 ^ k := by rw [Nat.pow_mul]
theorem shr8 (x k : Nat) : Nat.shiftRight x (Nat.mul 8 k) = x / 256 ^ k := by
  show x >>> (8 * k) = _
  rw [Nat.shiftRight_eq_div_pow, pow8]
theorem shl8 (x k : Nat) : Nat.shiftLeft x (Nat.mul 8 k) = x * 256 ^ k := by
  show x <<< (8 * k) = _
  rw [Nat.shiftLeft_eq, pow8]
theorem land255 (x : Nat) : Nat.land x 255 = x % 256 := Nat.and_two_pow_sub_one_eq_mod x 8
theorem p256 (k : Nat) : 0 < 256 ^ k := Nat.pow_pos (by omega)
theorem byt_eq (l x i : Nat) : byt l x i = x / 256 ^ (l - 1 - i) % 256 := by
  unfold byt
  rw [shr8, land255]; rfl
theorem byt_lt (l x i : Nat) : byt l x i < 256 := by rw [byt_eq]; exact Nat.mod_lt _ (by omega)
theorem bys_byt {l x i : Nat} (h : i < l) : (bys l x)[i]? = some (byt l x i) := by rw [bys_get l x i h, byt_eq]
theorem bys_app (m x : Nat) : ∀ l, bys (l + m) x = bys l (x / 256 ^ m) ++ bys m x
  | 0 => by simp [bys]
  | l + 1 => by
    rw [show l + 1 + m = (l + m) + 1 by omega, bys, bys, bys_app m x l, Nat.div_div_eq_div_mul, ← Nat.pow_add, Nat.add_comm m l]; rfl
theorem bys_mod' (m n x : Nat) : bys m (n * 256 ^ m + x % 256 ^ m) = bys m x := by
  have h := bys_val (bys m x) (bys_lt m x) n
  rw [bys_length, val_bys] at h
  exact h
theorem bys_mod (m x : Nat) : bys m (x % 256 ^ m) = bys m x := by
  have := bys_mod' m 0 x
  rwa [Nat.zero_mul, Nat.zero_add] at this
theorem sub_eq (l x i j : Nat) : sub l x i j = x / 256 ^ (l - j) % 256 ^ (j - i) := by
  unfold sub
  rw [shr8]; rfl
theorem sub_lt (l x i j : Nat) : sub l x i j < 256 ^ (j - i) := by rw [sub_eq]; exact Nat.mod_lt _ (p256 _)
theorem bys_sub {l x i j : Nat} (h1 : i ≤ j) (h2 : j ≤ l) : bys (j - i) (sub l x i j) = ((bys l x).take j).drop i := by
  rw [sub_eq, bys_mod]
  have e1 : bys l x = bys i (x / 256 ^ (l - i)) ++ bys (l - i) x := by rw [← bys_app]; congr 1; omega
  have e2 : bys (l - i) x = bys (j - i) (x / 256 ^ (l - j)) ++ bys (l - j) x := by rw [← bys_app]; congr 1; omega
  rw [e1, e2, List.drop_take, List.drop_append_of_le_length (by rw [bys_length]; omega), List.drop_eq_nil_of_le (by rw [bys_length]; omega), List.nil_append, List.take_append_of_le_length (by rw [bys_length]; omega), List.take_of_length_le (by rw [bys_length]; omega)]
theorem jn_eq (x m y : Nat) : jn x m y = x * 256 ^ m + y := by
  unfold jn
  rw [shl8]; rfl
theorem bys_jn {l x m y : Nat} (h : y < 256 ^ m) : bys (l + m) (jn x m y) = bys l x ++ bys m y := by
  rw [jn_eq, bys_app]
  congr 1
  · rw [Nat.add_comm, Nat.add_mul_div_right _ _ (p256 m), Nat.div_eq_of_lt h, Nat.zero_add]
  · have := bys_mod' m x y
    rwa [Nat.mod_eq_of_lt h] at this
theorem jn_lt {l x m y : Nat} (h1 : x < 256 ^ l) (h2 : y < 256 ^ m) : jn x m y < 256 ^ (l + m) := by
  rw [jn_eq, Nat.pow_add]
  have : (x + 1) * 256 ^ m ≤ 256 ^ l * 256 ^ m := Nat.mul_le_mul_right _ h1
  rw [Nat.add_mul] at this
  omega
theorem spb_lt {l x i m y : Nat} (h : i + m ≤ l) (hy : y < 256 ^ m) : spb l x i m y < 256 ^ l := by
  unfold spb
  have h1 := jn_lt (jn_lt (sub_lt l x 0 i) hy) (sub_lt l x (i + m) l)
  rwa [show i - 0 + m + (l - (i + m)) = l by omega] at h1
theorem bys_spb {l x i m y : Nat} (h : i + m ≤ l) (hy : y < 256 ^ m) : bys l (spb l x i m y) = (bys l x).take i ++ (bys m y ++ (bys l x).drop (i + m)) := by
  unfold spb
  have h1 := bys_jn (l := i + m) (x := jn (sub l x 0 i) m y) (sub_lt l x (i + m) l)
  rw [show i + m + (l - (i + m)) = l by omega] at h1
  change bys l (jn (jn (sub l x 0 i) m y) (l - (i + m)) (sub l x (i + m) l)) = _
  have h2 := bys_sub (l := l) (x := x) (i := 0) (j := i) (by omega) (by omega)
  have h3 := bys_sub (l := l) (x := x) (i := i + m) (j := l) (by omega) (by omega)
  rw [List.drop_zero, show i - 0 = i by omega] at h2
  have h4 : (bys l x).take l = bys l x := List.take_of_length_le (by rw [bys_length]; omega)
  rw [h4] at h3
  have h5 : bys (i + m) (jn (sub l x 0 i) m y) = bys i (sub l x 0 i) ++ bys m y := bys_jn hy
  rw [h1, h5, h2, h3, List.append_assoc]
theorem bys_inj {l x y : Nat} (hx : x < 256 ^ l) (hy : y < 256 ^ l) (h : bys l x = bys l y) : x = y := by
  have := congrArg val h
  rwa [val_bys, val_bys, Nat.mod_eq_of_lt hx, Nat.mod_eq_of_lt hy] at this
theorem bytesL_go : ∀ (l x : Nat) (a : List AV), Nat.rec (motive := fun _ => Nat → List AV → List AV) (fun _ a => a) (fun _ ih x a => ih (Nat.shiftRight x 8) (.int 4 (Nat.land x 255) :: a)) l x a = (bys l x).map (AV.int 4) ++ a
  | 0, x, a => rfl
  | l + 1, x, a => by
    show Nat.rec (motive := fun _ => Nat → List AV → List AV) _ _ l (Nat.shiftRight x 8) (.int 4 (Nat.land x 255) :: a) = _
    rw [bytesL_go l]
    have h := bys_app 1 x l
    rw [h, land255, show Nat.shiftRight x 8 = x / 256 ^ 1 from shr8 x 1]
    simp [bys]
theorem bytesL_eq (l x : Nat) : bytesL l x = (bys l x).map (AV.int 4) := by
  have := bytesL_go l x []
  rw [List.append_nil] at this
  exact this
def ltB : List Nat → List Nat → Bool
  | _, [] => false
  | [], _ :: _ => true
  | a :: x, b :: y => decide (a < b) || (a == b && ltB x y)
theorem ltB_iff : ∀ a b : List Nat, (∀ c ∈ a, c < 256) → (∀ c ∈ b, c < 256) → (ltB a b = true ↔ val a * 256 ^ b.length < val b * 256 ^ a.length ∨ (val a * 256 ^ b.length = val b * 256 ^ a.length ∧ a.length < b.length))
  | a, [], ha, hb => by
    simp [ltB, val]
  | [], d :: b, ha, hb => by
    simp only [ltB, val, List.length_nil, List.length_cons, Nat.zero_mul, Nat.pow_zero, Nat.mul_one, true_iff]
    rcases Nat.eq_zero_or_pos (d * 256 ^ b.length + val b) with h | h
    · exact .inr ⟨h.symm, by omega⟩
    · exact .inl h
  | c :: a, d :: b, ha, hb => by
    have ha' := fun x hx => ha x (List.mem_cons_of_mem c hx)
    have hb' := fun x hx => hb x (List.mem_cons_of_mem d hx)
    have hX : val a * 256 ^ b.length < 256 ^ a.length * 256 ^ b.length := Nat.mul_lt_mul_of_pos_right (val_lt a ha') (p256 _)
    have hY : val b * 256 ^ a.length < 256 ^ b.length * 256 ^ a.length := Nat.mul_lt_mul_of_pos_right (val_lt b hb') (p256 _)
    have ih := ltB_iff a b ha' hb'
    have eA : val (c :: a) * 256 ^ (d :: b).length = 256 * (c * (256 ^ a.length * 256 ^ b.length) + val a * 256 ^ b.length) := by
      simp only [val, List.length_cons, Nat.pow_succ, Nat.add_mul, Nat.mul_add]
      congr 1
      · rw [Nat.mul_assoc, ← Nat.mul_assoc (256 ^ a.length), Nat.mul_comm _ 256, Nat.mul_left_comm]
      · rw [← Nat.mul_assoc, Nat.mul_comm]
    have eB : val (d :: b) * 256 ^ (c :: a).length = 256 * (d * (256 ^ a.length * 256 ^ b.length) + val b * 256 ^ a.length) := by
      simp only [val, List.length_cons, Nat.pow_succ, Nat.add_mul, Nat.mul_add]
      congr 1
      · rw [Nat.mul_assoc, ← Nat.mul_assoc (256 ^ b.length), Nat.mul_comm _ 256, Nat.mul_left_comm, Nat.mul_comm (256 ^ b.length)]
      · rw [← Nat.mul_assoc, Nat.mul_comm]
    rw [Nat.mul_comm (256 ^ b.length)] at hY
    generalize val a * 256 ^ b.length = X at *
    generalize val b * 256 ^ a.length = Y at *
    generalize 256 ^ a.length * 256 ^ b.length = M at *
    rw [eA, eB]
    simp only [ltB, List.length_cons, Bool.or_eq_true, Bool.and_eq_true, decide_eq_true_eq, beq_iff_eq, ih]
    rcases Nat.lt_trichotomy c d with h | h | h
    · have : (c + 1) * M ≤ d * M := Nat.mul_le_mul_right _ h
      rw [Nat.add_mul] at this
      constructor
      · intro _; exact .inl (by omega)
      · intro _; exact .inl h
    · subst h
      constructor
      · rintro (h | ⟨_, h | h⟩)
        · omega
        · exact .inl (by omega)
        · exact .inr ⟨by omega, by omega⟩
      · rintro (h | h)
        · exact .inr ⟨rfl, .inl (by omega)⟩
        · exact .inr ⟨rfl, .inr ⟨by omega, by omega⟩⟩
    · have : (d + 1) * M ≤ c * M := Nat.mul_le_mul_right _ h
      rw [Nat.add_mul] at this
      constructor
      · rintro (h | ⟨h, _⟩) <;> omega
      · rintro (h | h) <;> omega
theorem lessS_eq {l x m y : Nat} (hx : x < 256 ^ l) (hy : y < 256 ^ m) : lessS l x m y = ltB (bys l x) (bys m y) := by
  have h := ltB_iff (bys l x) (bys m y) (bys_lt l x) (bys_lt m y)
  rw [val_bys, val_bys, bys_length, bys_length, Nat.mod_eq_of_lt hx, Nat.mod_eq_of_lt hy] at h
  rw [Bool.eq_iff_iff, h]
  unfold lessS
  rw [brec_ble, brec_beq]
  split
  · next hlm =>
    rw [ble_iff, shl8]
    change x * 256 ^ (m - l) + 1 ≤ y + _ ↔ _
    have e1 : 256 ^ m = 256 ^ (m - l) * 256 ^ l := by rw [← Nat.pow_add]; congr 1; omega
    rw [e1, ← Nat.mul_assoc]
    have k1 : x * 256 ^ (m - l) * 256 ^ l < y * 256 ^ l ↔ x * 256 ^ (m - l) < y := Nat.mul_lt_mul_right (p256 l)
    have k2 : x * 256 ^ (m - l) * 256 ^ l = y * 256 ^ l ↔ x * 256 ^ (m - l) = y := ⟨fun h => Nat.eq_of_mul_eq_mul_right (p256 l) h, fun h => by rw [h]⟩
    rw [k1, k2]
    split
    · next e => omega
    · next e => omega
  · next hlm =>
    rw [ble_iff, shl8]
    change x + 1 ≤ y * 256 ^ (l - m) ↔ _
    have e1 : 256 ^ l = 256 ^ (l - m) * 256 ^ m := by rw [← Nat.pow_add]; congr 1; omega
    rw [e1, ← Nat.mul_assoc]
    have k1 : x * 256 ^ m < y * 256 ^ (l - m) * 256 ^ m ↔ x < y * 256 ^ (l - m) := Nat.mul_lt_mul_right (p256 m)
    rw [k1]
    omega
end Kv
end
end
section
noncomputable section
namespace Kv
open Go.RowKit
abbrev Ren := Nat → Option (Nat × Nat)
def kindOf (c : Nat) : IntKind := match c with | 0 => .i8 | 1 => .i16 | 2 => .i32 | 3 => .i64 | 4 => .u8 | 5 => .u16 | 6 => .u32 | _ => .u64
def toI (c x : Nat) : Int := if sgnN c = true ∧ hfN c ≤ x then (x : Int) - mdN c else x
def byC (l x : Nat) : List Value := (bys l x).map fun b => Value.int .u8 (b : Nat)
def SR (l x : Nat) (s : ByteArray) : Prop := s.data.toList.map UInt8.toNat = bys l x ∧ x < 256 ^ l
mutual
def VR (ρ : Ren) : AV → Value → Prop
  | .fl x, v => v = .float .f64 x
  | .nilp, v => v = .pointer none
  | .nils, v => v = .slice none 0 0
  | .se, v => ∃ a c, v = .slice a 0 c
  | .nilf, v => v = .nilFunc
  | .nili, v => v = .nilIface
  | .ifc t x, v => ∃ y, v = .iface t y ∧ VR ρ x y
  | .fn f a b, v => ∃ a' b', v = .func f a' b' ∧ VRs ρ a a'.toList ∧ VRs ρ b b'.toList
  | .tup l, v => ∃ l', v = .tuple l' ∧ VRs ρ l l'.toList
  | .un, _ => False
  | .sf i o l u, v => ∃ b κ c, ρ i = some (b, κ) ∧ v = .slice (some ⟨b, o, none⟩) l c ∧ κ = o + c * u ∧ l ≤ c ∧ 0 < u
  | .sl i o l c, v => ∃ b κ, ρ i = some (b, κ) ∧ v = .slice (some ⟨b, o, none⟩) l c ∧ l ≤ c
  | .ba l x, v => ∃ cs, v = .agg cs ∧ cs.toList = byC l x ∧ x < 256 ^ l
  | .agg l, v => ∃ cs, v = .agg cs ∧ VRs ρ l cs.toList ∧ l.all sca = true
  | .str l x, v => ∃ s, v = .string s ∧ SR l x s
  | .bl b, v => v = .bool b
  | .ptr i o, v => ∃ b κ, ρ i = some (b, κ) ∧ v = .pointer (some ⟨b, o, none⟩)
  | .int c x, v => v = .int (kindOf c) (toI c x) ∧ x < mdN c ∧ c < 8
def VRs (ρ : Ren) : List AV → List Value → Prop
  | [], l => l = []
  | a :: m, l => ∃ x y, l = x :: y ∧ VR ρ a x ∧ VRs ρ m y
end
def RLe (ρ ρ' : Ren) : Prop := ∀ i p, ρ i = some p → ρ' i = some p
theorem RLe.refl (ρ : Ren) : RLe ρ ρ := fun _ _ h => h
theorem RLe.trans {a b c : Ren} (h : RLe a b) (k : RLe b c) : RLe a c := fun i p hp => k i p (h i p hp)
mutual
theorem VR.mono {ρ ρ' : Ren} (h : RLe ρ ρ') : ∀ (a : AV) (v : Value), VR ρ a v → VR ρ' a v
  | .fl _, _, k => k
  | .nilp, _, k => k
  | .nils, _, k => k
  | .se, _, k => k
  | .nilf, _, k => k
  | .nili, _, k => k
  | .ifc _ x, _, ⟨y, e, k⟩ => ⟨y, e, VR.mono h x y k⟩
  | .fn _ a b, _, ⟨a', b', e, k, m⟩ => ⟨a', b', e, VRs.mono h a _ k, VRs.mono h b _ m⟩
  | .tup l, _, ⟨l', e, k⟩ => ⟨l', e, VRs.mono h l _ k⟩
  | .un, _, k => k.elim
  | .sf _ _ _ _, _, ⟨b, κ, c, e, r⟩ => ⟨b, κ, c, h _ _ e, r⟩
  | .sl _ _ _ _, _, ⟨b, κ, e, r⟩ => ⟨b, κ, h _ _ e, r⟩
  | .ba _ _, _, k => k
  | .agg l, _, ⟨cs, e, k, m⟩ => ⟨cs, e, VRs.mono h l _ k, m⟩
  | .str _ _, _, k => k
  | .bl _, _, k => k
  | .ptr _ _, _, ⟨b, κ, e, r⟩ => ⟨b, κ, h _ _ e, r⟩
  | .int _ _, _, k => k
theorem VRs.mono {ρ ρ' : Ren} (h : RLe ρ ρ') : ∀ (a : List AV) (v : List Value), VRs ρ a v → VRs ρ' a v
  | [], _, k => k
  | a :: m, _, ⟨x, y, e, k, r⟩ => ⟨x, y, e, VR.mono h a x k, VRs.mono h m y r⟩
end
theorem VRs.length {ρ : Ren} : ∀ (a : List AV) (v : List Value), VRs ρ a v → a.length = v.length
  | [], _, rfl => rfl
  | a :: m, _, ⟨x, y, rfl, _, r⟩ => congrArg (· + 1) (VRs.length m y r)
theorem VRs.get {ρ : Ren} : ∀ {a : List AV} {v : List Value} (i : Nat), VRs ρ a v → i < a.length → ∃ x y, a[i]? = some x ∧ v[i]? = some y ∧ VR ρ x y
  | [], _, i, _, h => by cases h
  | a :: m, _, 0, ⟨x, y, rfl, k, r⟩, _ => ⟨a, x, rfl, rfl, k⟩
  | a :: m, _, i + 1, ⟨x, y, rfl, k, r⟩, h => VRs.get (a := m) i r (Nat.lt_of_succ_lt_succ h)
theorem VRs.append {ρ : Ren} : ∀ {a : List AV} {v : List Value} {b : List AV} {w : List Value}, VRs ρ a v → VRs ρ b w → VRs ρ (a ++ b) (v ++ w)
  | [], _, b, w, rfl, h => h
  | a :: m, _, b, w, ⟨x, y, rfl, k, r⟩, h => ⟨x, y ++ w, rfl, k, VRs.append r h⟩
theorem VRs.take {ρ : Ren} : ∀ {a : List AV} {v : List Value} (n : Nat), VRs ρ a v → VRs ρ (a.take n) (v.take n)
  | [], _, n, rfl => by cases n <;> exact rfl
  | a :: m, _, 0, ⟨x, y, rfl, k, r⟩ => rfl
  | a :: m, _, n + 1, ⟨x, y, rfl, k, r⟩ => ⟨x, y.take n, rfl, k, VRs.take n r⟩
theorem VRs.drop {ρ : Ren} : ∀ {a : List AV} {v : List Value} (n : Nat), VRs ρ a v → VRs ρ (a.drop n) (v.drop n)
  | [], _, n, rfl => by cases n <;> exact rfl
  | a :: m, _, 0, h => h
  | a :: m, _, n + 1, ⟨x, y, rfl, k, r⟩ => VRs.drop n r
theorem VRs.set {ρ : Ren} : ∀ {a : List AV} {v : List Value} (n : Nat) {x : AV} {y : Value}, VRs ρ a v → VR ρ x y → VRs ρ (a.set n x) (v.set n y)
  | [], _, n, _, _, rfl, _ => by cases n <;> exact rfl
  | a :: m, _, 0, x, y, ⟨x', y', rfl, k, r⟩, h => ⟨y, y', rfl, h, r⟩
  | a :: m, _, n + 1, x, y, ⟨x', y', rfl, k, r⟩, h => ⟨x', y'.set n y, rfl, k, VRs.set n r h⟩
theorem all_sca_take {l : List AV} (n : Nat) (h : l.all sca = true) : (l.take n).all sca = true := by
  rw [List.all_eq_true] at *; exact fun x hx => h x (List.mem_of_mem_take hx)
theorem all_sca_drop {l : List AV} (n : Nat) (h : l.all sca = true) : (l.drop n).all sca = true := by
  rw [List.all_eq_true] at *; exact fun x hx => h x (List.mem_of_mem_drop hx)
theorem all_sca_app {l m : List AV} (h : l.all sca = true) (k : m.all sca = true) : (l ++ m).all sca = true := by
  rw [List.all_append, h, k]; rfl
theorem all_sca_set {l : List AV} {n : Nat} {x : AV} (h : l.all sca = true) (k : sca x = true) : (l.set n x).all sca = true := by
  rw [List.all_eq_true] at *
  intro y hy
  rcases List.mem_or_eq_of_mem_set hy with hy | rfl
  · exact h y hy
  · exact k
theorem VR_byte (ρ : Ren) {b : Nat} (h : b < 256) : VR ρ (.int 4 b) (.int .u8 (b : Nat)) := by
  refine ⟨?_, h, by decide⟩
  show Value.int .u8 (b : Nat) = .int .u8 (toI 4 b)
  have : toI 4 b = (b : Int) := by unfold toI; rw [if_neg (fun h => absurd h.1 (by decide))]
  rw [this]
theorem VRs_bytes (ρ : Ren) : ∀ (l : List Nat), (∀ b ∈ l, b < 256) → VRs ρ (l.map (AV.int 4)) (l.map fun b => Value.int .u8 (b : Nat))
  | [], _ => rfl
  | b :: l, h => ⟨_, _, rfl, VR_byte ρ (h b List.mem_cons_self), VRs_bytes ρ l fun c hc => h c (List.mem_cons_of_mem _ hc)⟩
theorem VRs_bytesL (ρ : Ren) (l x : Nat) : VRs ρ (bytesL l x) (byC l x) := by
  rw [bytesL_eq]; exact VRs_bytes ρ _ (bys_lt l x)
theorem sca_bytesL (l x : Nat) : (bytesL l x).all sca = true := by
  rw [bytesL_eq, List.all_map, List.all_eq_true]; exact fun _ _ => rfl
structure UR (ρ : Ren) (u : Nat) (a : AV) (cs : List Value) : Prop where
  vs : VRs ρ (cellsL a) cs
  len : cs.length = u
  sc : (cellsL a).all sca = true
  by_ : ∀ l x, a = .ba l x → x < 256 ^ l
def NF (fr : Nat × Nat) (κ : Nat) : Prop := ∀ o, o < κ → (decide (fr.1 ≤ o) && decide (o < fr.2)) = false
def NZ (fr : Nat × Nat) (κ : Nat) : Prop := fr = (0, 0)
theorem NZ.nf {fr : Nat × Nat} {κ : Nat} (h : NZ fr κ) : NF fr κ := fun o _ => by
  have h : fr = (0, 0) := h
  rw [h]
  show (decide (0 ≤ o) && decide (o < 0)) = false
  rw [decide_eq_false (Nat.not_lt_zero o), Bool.and_false]
def BR (ρ : Ren) (κ : Nat) : Blk → Obj → Prop
  | .dead, _ => True
  | .row u n t, o => ∃ c ty fr, o = .cells c ty fr ∧ c.size = κ ∧ NZ fr κ ∧ 0 < u ∧ u * n ≤ κ ∧ (∃ s, t.wf s ∧ n ≤ s) ∧ ∀ i, i < n → UR ρ u (t.get i) ((c.toList.drop (i * u)).take u)
  | .by l x, o => ∃ c ty fr, o = .cells c ty fr ∧ c.size = κ ∧ NF fr κ ∧ l ≤ κ ∧ x < 256 ^ l ∧ c.toList.take l = byC l x
  | .si l x p, o => ∃ s, o = .stringIter s p ∧ SR l x s
theorem UR.mono {ρ ρ' : Ren} {u : Nat} {a : AV} {cs : List Value} (h : RLe ρ ρ') (k : UR ρ u a cs) : UR ρ' u a cs := ⟨k.vs.mono h, k.len, k.sc, k.by_⟩
theorem BR.mono {ρ ρ' : Ren} (h : RLe ρ ρ') {κ : Nat} : ∀ {b : Blk} {o : Obj}, BR ρ κ b o → BR ρ' κ b o
  | .dead, _, _ => trivial
  | .row u n t, o, ⟨c, ty, fr, e, k1, k2, k3, k4, k5, k⟩ => ⟨c, ty, fr, e, k1, k2, k3, k4, k5, fun i hi => (k i hi).mono h⟩
  | .by l x, o, k => k
  | .si l x p, o, k => k
def Dom (ρ : Ren) (n : Nat) : Prop := ∀ i p, ρ i = some p → i < n
def LowB (n : Nat) (b : Blk) : Prop := b = .dead ∨ ∃ ρ κ o, Dom ρ n ∧ BR ρ κ b o
theorem LowB.mono {n m : Nat} {b : Blk} (h : n ≤ m) : LowB n b → LowB m b
  | .inl e => .inl e
  | .inr ⟨ρ, κ, o, d, k⟩ => .inr ⟨ρ, κ, o, fun i p hi => Nat.lt_of_lt_of_le (d i p hi) h, k⟩
structure HR (ρ : Ren) (h : HP) (w : World) : Prop where
  wf : h.wf
  at_ : ∀ i b κ, ρ i = some (b, κ) → i < h.n ∧ ∃ o, w.heap[b]? = some o ∧ BR ρ κ (h.get i) o
  inj : ∀ i j b κ κ', ρ i = some (b, κ) → ρ j = some (b, κ') → h.get i ≠ .dead → h.get j ≠ .dead → i = j
  low : ∀ i, LowB h.n (h.get i)
theorem HR.dom {ρ : Ren} {h : HP} {w : World} (hr : HR ρ h w) : Dom ρ h.n := fun i p hi => (hr.at_ i p.1 p.2 hi).1
structure Ext (ρ : Ren) (h : HP) (w : World) (ρ' : Ren) (h' : HP) (w' : World) : Prop where
  le : RLe ρ ρ'
  hr : HR ρ' h' w'
  new : ∀ i p, ρ' i = some p → ρ i = none → h.n ≤ i
  n : h.n ≤ h'.n
  size : w.heap.size ≤ w'.heap.size
  frame : ∀ b, b < w.heap.size → (∀ i κ, ρ i = some (b, κ) → h.get i = .dead) → w'.heap[b]? = w.heap[b]?
  own : ∀ i b κ, ρ' i = some (b, κ) → h'.get i ≠ .dead → b < w.heap.size → ∃ j κ', ρ j = some (b, κ') ∧ h.get j ≠ .dead
  os : w'.os = w.os
  out : w'.output = w.output
  tape : w'.tape = w.tape
theorem Ext.refl {ρ : Ren} {h : HP} {w : World} (hr : HR ρ h w) : Ext ρ h w ρ h w :=
  ⟨RLe.refl ρ, hr, fun i p h1 h2 => (by rw [h1] at h2; cases h2), Nat.le_refl _, Nat.le_refl _, fun _ _ _ => rfl, fun i b κ h1 h2 _ => ⟨i, κ, h1, h2⟩, rfl, rfl, rfl⟩
theorem Ext.trans {ρ ρ' ρ'' : Ren} {h h' h'' : HP} {w w' w'' : World} (a : Ext ρ h w ρ' h' w') (b : Ext ρ' h' w' ρ'' h'' w'') : Ext ρ h w ρ'' h'' w'' where
  le := a.le.trans b.le
  hr := b.hr
  new := fun i p h1 h2 => by
    cases e : ρ' i with
    | none => exact Nat.le_trans a.n (b.new i p h1 e)
    | some q => exact a.new i q e h2
  n := Nat.le_trans a.n b.n
  size := Nat.le_trans a.size b.size
  frame := fun k hk hd => by
    rw [b.frame k (Nat.lt_of_lt_of_le hk a.size) (fun i κ hi => ?_), a.frame k hk hd]
    refine Classical.byContradiction fun hne => ?_
    obtain ⟨j, κ', h1, h2⟩ := a.own i k κ hi hne hk
    exact h2 (hd j κ' h1)
  own := fun i k κ h1 h2 hk => by
    obtain ⟨j, κ', h3, h4⟩ := b.own i k κ h1 h2 (Nat.lt_of_lt_of_le hk a.size)
    exact a.own j k κ' h3 h4 hk
  os := b.os.trans a.os
  out := b.out.trans a.out
  tape := b.tape.trans a.tape
theorem Ext.below {h : HP} {w : World} {ρ ρ' : Ren} {h' : HP} {w' : World} (a : Ext ρ h w ρ' h' w') (hd : ∀ i b κ, ρ i = some (b, κ) → h.get i = .dead) : Below w.heap.size w w' :=
  ⟨a.os, a.tape, a.out, a.size, fun k hk => a.frame k hk fun i κ hi => hd i k κ hi⟩
theorem HR.drew {ρ : Ren} {h : HP} {w w' : World} (hr : HR ρ h w) (e : w'.heap = w.heap) : HR ρ h w' := ⟨hr.wf, fun i b κ hi => by rw [e]; exact hr.at_ i b κ hi, hr.inj, hr.low⟩
theorem Ext.drew {ρ : Ren} {h : HP} {w w' : World} (hr : HR ρ h w) (e : w'.heap = w.heap) (e1 : w'.os = w.os) (e2 : w'.output = w.output) (e3 : w'.tape = w.tape) : Ext ρ h w ρ h w' :=
  ⟨RLe.refl ρ, hr.drew e, fun i p h1 h2 => (by rw [h1] at h2; cases h2), Nat.le_refl _, by rw [e]; exact Nat.le_refl _, fun _ _ _ => by rw [e], fun i b κ h1 h2 _ => ⟨i, κ, h1, h2⟩, e1, e2, e3⟩
def Ren.put (ρ : Ren) (i b κ : Nat) : Ren := fun j => if j = i then some (b, κ) else ρ j
theorem Ren.put_self (ρ : Ren) (i b κ : Nat) : ρ.put i b κ i = some (b, κ) := if_pos rfl
theorem Ren.put_le {ρ : Ren} {i b κ : Nat} (h : ρ i = none) : RLe ρ (ρ.put i b κ) := fun j p hp => by
  unfold Ren.put
  rw [if_neg (fun e => by rw [e, h] at hp; cases hp)]; exact hp
theorem HR.none {ρ : Ren} {h : HP} {w : World} (hr : HR ρ h w) {i : Nat} (hi : h.n ≤ i) : ρ i = none := by
  cases e : ρ i with
  | none => rfl
  | some p => have := (hr.at_ i p.1 p.2 e).1; omega
theorem HR.lt {ρ : Ren} {h : HP} {w : World} (hr : HR ρ h w) {i b κ : Nat} (hi : ρ i = some (b, κ)) : b < w.heap.size := by
  obtain ⟨_, o, h1, _⟩ := hr.at_ i b κ hi
  exact (Array.getElem?_eq_some_iff.1 h1).1
theorem Ext.push {ρ : Ren} {h : HP} {w w' : World} (hr : HR ρ h w) {o : Obj} (e : w'.heap = w.heap.push o) (e1 : w'.os = w.os) (e2 : w'.output = w.output) (e3 : w'.tape = w.tape) {b : Blk} {κ : Nat} (hb : BR ρ κ b o) :
    Ext ρ h w (ρ.put h.n w.heap.size κ) (h.push b) w' := by
  have hn := hr.none (Nat.le_refl h.n)
  have hle := Ren.put_le (b := w.heap.size) (κ := κ) hn
  have hold : ∀ k, k < w.heap.size → w'.heap[k]? = w.heap[k]? := fun k hk => by rw [e, Array.getElem?_push, if_neg (by omega)]
  have hget : ∀ i, i < h.n → (h.push b).get i = h.get i := fun i hi => by rw [HP.get_push b hr.wf, if_neg (by omega)]
  refine ⟨hle, ⟨HP.push_wf b hr.wf, fun i k κ' hi => ?_, fun i j k κ1 κ2 hi hj h1 h2 => ?_, fun i => ?_⟩, fun i p h1 h2 => ?_, by rw [HP.push_n]; omega, by rw [e, Array.size_push]; omega, fun k hk _ => hold k hk, fun i k κ' hi hne hk => ?_, e1, e2, e3⟩
  · unfold Ren.put at hi
    rw [HP.push_n]
    by_cases ei : i = h.n
    · subst ei
      rw [if_pos rfl] at hi
      injection hi with hi
      injection hi with e4 e5
      subst e4; subst e5
      refine ⟨by omega, o, by rw [e, Array.getElem?_push, if_pos rfl], ?_⟩
      rw [HP.get_push b hr.wf, if_pos rfl]
      exact hb.mono hle
    · rw [if_neg ei] at hi
      obtain ⟨h1, o', h2, h3⟩ := hr.at_ i k κ' hi
      exact ⟨by omega, o', by rw [hold k (hr.lt hi)]; exact h2, by rw [hget i h1]; exact h3.mono hle⟩
  · unfold Ren.put at hi hj
    by_cases ei : i = h.n
    · by_cases ej : j = h.n
      · rw [ei, ej]
      · rw [if_pos ei] at hi
        rw [if_neg ej] at hj
        injection hi with hi
        injection hi with e4 e5
        have := hr.lt hj
        omega
    · rw [if_neg ei] at hi
      by_cases ej : j = h.n
      · rw [if_pos ej] at hj
        injection hj with hj
        injection hj with e4 e5
        have := hr.lt hi
        omega
      · rw [if_neg ej] at hj
        rw [hget i (hr.at_ i k κ1 hi).1] at h1
        rw [hget j (hr.at_ j k κ2 hj).1] at h2
        exact hr.inj i j k κ1 κ2 hi hj h1 h2
  · rw [HP.push_n, HP.get_push b hr.wf]
    by_cases ei : i = h.n
    · rw [if_pos ei]
      refine .inr ⟨_, κ, o, fun j p hj => ?_, hb.mono hle⟩
      unfold Ren.put at hj
      by_cases ej : j = h.n
      · omega
      · rw [if_neg ej] at hj; have := hr.dom j p hj; omega
    · rw [if_neg ei]; exact (hr.low i).mono (Nat.le_succ _)
  · unfold Ren.put at h1
    by_cases ei : i = h.n
    · omega
    · rw [if_neg ei, h2] at h1; cases h1
  · unfold Ren.put at hi
    by_cases ei : i = h.n
    · rw [if_pos ei] at hi
      injection hi with hi
      injection hi with e4 e5
      omega
    · rw [if_neg ei] at hi
      rw [hget i (hr.at_ i k κ' hi).1] at hne
      exact ⟨i, κ', hi, hne⟩
theorem Ext.put {ρ : Ren} {h : HP} {w w' : World} (hr : HR ρ h w) {i g κ : Nat} (hi : ρ i = some (g, κ)) (hl : h.get i ≠ .dead) {o : Obj} (e : w'.heap = w.heap.setIfInBounds g o) (e1 : w'.os = w.os) (e2 : w'.output = w.output) (e3 : w'.tape = w.tape) {b : Blk} (hb : BR ρ κ b o) :
    Ext ρ h w ρ (h.set i b) w' := by
  have hin := (hr.at_ i g κ hi).1
  have hg := hr.lt hi
  have hget := fun j => HP.get_set b hr.wf hin j
  have hold : ∀ k, k ≠ g → w'.heap[k]? = w.heap[k]? := fun k hk => by rw [e, Array.getElem?_setIfInBounds_ne (Ne.symm hk)]
  have hother : ∀ j k κ', ρ j = some (k, κ') → j ≠ i → (h.set i b).get j ≠ .dead → k ≠ g := fun j k κ' hj hji hd ek => by
    subst ek
    rw [hget, if_neg hji] at hd
    exact hji (hr.inj j i k κ' κ hj hi hd hl)
  refine ⟨RLe.refl ρ, ⟨HP.set_wf i b hr.wf, fun j k κ' hj => ?_, fun j1 j2 k κ1 κ2 h1 h2 d1 d2 => ?_, fun j => ?_⟩, fun j p h1 h2 => (by rw [h1] at h2; cases h2), by rw [HP.set_n]; omega, by rw [e, Array.size_setIfInBounds]; omega, fun k hk hd => hold k fun ek => hl (hd i κ (by rw [ek]; exact hi)), fun j k κ' hj hne hk => ?_, e1, e2, e3⟩
  · rw [HP.set_n]
    obtain ⟨h1, o', h2, h3⟩ := hr.at_ j k κ' hj
    refine ⟨h1, ?_⟩
    by_cases ej : j = i
    · subst ej
      rw [hi] at hj
      injection hj with hj
      injection hj with e4 e5
      subst e4; subst e5
      refine ⟨o, by rw [e, Array.getElem?_setIfInBounds_self_of_lt hg], ?_⟩
      rw [hget, if_pos rfl]; exact hb
    · rw [hget, if_neg ej]
      by_cases hd : h.get j = .dead
      · rw [hd]
        by_cases ek : k = g
        · exact ⟨o, by rw [e, ek, Array.getElem?_setIfInBounds_self_of_lt hg], trivial⟩
        · exact ⟨o', by rw [hold k ek]; exact h2, trivial⟩
      · have ek : k ≠ g := hother j k κ' hj ej (by rw [hget, if_neg ej]; exact hd)
        exact ⟨o', by rw [hold k ek]; exact h2, h3⟩
  · by_cases e4 : j1 = i
    · by_cases e5 : j2 = i
      · rw [e4, e5]
      · subst e4
        rw [hi] at h1
        injection h1 with h1
        injection h1 with e6 e7
        exact absurd e6.symm (hother j2 k κ2 h2 e5 d2)
    · by_cases e5 : j2 = i
      · subst e5
        rw [hi] at h2
        injection h2 with h2
        injection h2 with e6 e7
        exact absurd e6.symm (hother j1 k κ1 h1 e4 d1)
      · rw [hget, if_neg e4] at d1
        rw [hget, if_neg e5] at d2
        exact hr.inj j1 j2 k κ1 κ2 h1 h2 d1 d2
  · rw [HP.set_n, hget]
    by_cases ej : j = i
    · rw [if_pos ej]; exact .inr ⟨ρ, κ, o, hr.dom, hb⟩
    · rw [if_neg ej]; exact hr.low j
  · by_cases ej : j = i
    · exact ⟨i, κ', by rw [← ej]; exact hj, hl⟩
    · rw [hget, if_neg ej] at hne
      exact ⟨j, κ', hj, hne⟩
theorem Ext.kill {ρ : Ren} {h : HP} {w : World} (hr : HR ρ h w) {i g κ : Nat} (hi : ρ i = some (g, κ)) : Ext ρ h w ρ (h.set i .dead) w := by
  have hin := (hr.at_ i g κ hi).1
  have hget := fun j => HP.get_set .dead hr.wf hin j
  have hl : ∀ j, (h.set i .dead).get j ≠ .dead → h.get j ≠ .dead := fun j hj => by
    rw [hget] at hj
    by_cases ej : j = i
    · rw [if_pos ej] at hj; exact absurd rfl hj
    · rwa [if_neg ej] at hj
  refine ⟨RLe.refl ρ, ⟨HP.set_wf i _ hr.wf, fun j k κ' hj => ?_, fun j1 j2 k κ1 κ2 h1 h2 d1 d2 => hr.inj j1 j2 k κ1 κ2 h1 h2 (hl _ d1) (hl _ d2), fun j => ?_⟩, fun j p h1 h2 => (by rw [h1] at h2; cases h2), by rw [HP.set_n]; omega, Nat.le_refl _, fun _ _ _ => rfl, fun j k κ' hj hne _ => ⟨j, κ', hj, hl j hne⟩, rfl, rfl, rfl⟩
  · rw [HP.set_n]
    obtain ⟨h1, o', h2, h3⟩ := hr.at_ j k κ' hj
    refine ⟨h1, o', h2, ?_⟩
    rw [hget]
    by_cases ej : j = i
    · rw [if_pos ej]; trivial
    · rw [if_neg ej]; exact h3
  · rw [HP.set_n, hget]
    by_cases ej : j = i
    · rw [if_pos ej]; exact .inl rfl
    · rw [if_neg ej]; exact hr.low j
end Kv
end
end
section
noncomputable section
namespace Kv
open Go.RowKit
variable {P : Program}
theorem rb {α β : Type} {x : Sem α} {f : α → Sem β} {w w' : World} {a : α} (h : x.run P w = .ok a w') : (x >>= f).run P w = (f a).run P w' := by
  have := Sem.run_bind' P x f w
  rw [h] at this
  exact this
theorem rp {α : Type} (a : α) (w : World) : (pure a : Sem α).run P w = .ok a w := rfl
theorem r_typeInfo {t : TypeId} {i : TypeInfo} (h : P.info? t = some i) (w : World) : (typeInfo t).run P w = .ok i w := by
  show (match P.info? t with | some i => (pure i : Sem TypeInfo) | none => stuck "no such type").run P w = _
  rw [h]; rfl
theorem r_underlying {t : TypeId} {d : TypeDesc} (h : P.underlying t = some d) (w : World) : (underlying t).run P w = .ok d w := by
  show (match P.underlying t with | some i => (pure i : Sem TypeDesc) | none => stuck "no such type").run P w = _
  rw [h]; rfl
theorem r_sizeOf {t : TypeId} {i : TypeInfo} (h : P.info? t = some i) (w : World) : (sizeOf t).run P w = .ok i.size w := by
  unfold sizeOf
  rw [rb (r_typeInfo h w)]; rfl
theorem r_zeroValue {t : TypeId} {i : TypeInfo} {z : Value} (h : P.info? t = some i) (hz : i.zero = some z) (w : World) : (zeroValue t).run P w = .ok z w := by
  unfold zeroValue
  rw [rb (r_typeInfo h w), hz]; rfl
def setB (w : World) (b : Nat) (o : Obj) : World := { w with heap := w.heap.setIfInBounds b o }
section
variable {w : World} {b : Nat} {c : Array Value} {ty : TypeId} {fr : Nat × Nat}
theorem cell_at (hb : w.heap[b]? = some (.cells c ty fr)) (o : Nat) : w.cell? ⟨b, o, none⟩ = c[o]? := by
  unfold World.cell?
  simp only [hb]; rfl
theorem frozen_at (hb : w.heap[b]? = some (.cells c ty fr)) {κ : Nat} (hf : NF fr κ) {o : Nat} (ho : o < κ) : w.frozen? ⟨b, o, none⟩ = false := by
  unfold World.frozen?
  simp only [hb]
  exact hf o ho
theorem r_load (hb : w.heap[b]? = some (.cells c ty fr)) {o : Nat} {v : Value} (hv : c[o]? = some v) : (load ⟨b, o, none⟩).run P w = .ok v w := by
  simp only [load, Sem.run, cell_at hb, hv]
theorem add_at (b o n : Nat) : (⟨b, o, none⟩ : Addr).add n = ⟨b, o + n, none⟩ := by
  unfold Addr.add
  split
  · next h => rw [h]; rfl
  · rfl
theorem r_loadCellsFrom (hb : w.heap[b]? = some (.cells c ty fr)) (o : Nat) : ∀ (n i : Nat) (acc : Array Value), o + i + n ≤ c.size →
    (loadCellsFrom ⟨b, o, none⟩ i n acc).run P w = .ok (acc ++ ((c.toList.drop (o + i)).take n).toArray) w
  | 0, i, acc, h => by simp [loadCellsFrom, rp]
  | n + 1, i, acc, h => by
    unfold loadCellsFrom
    have hlt : o + i < c.size := by omega
    rw [add_at, rb (r_load hb (v := c[o + i]) (Array.getElem?_eq_getElem hlt)), r_loadCellsFrom hb o n (i + 1) _ (by omega)]
    congr 1
    apply Array.ext'
    simp only [Array.toList_append, Array.toList_push, List.append_assoc]
    congr 1
    rw [List.drop_eq_getElem_cons (l := c.toList) (i := o + i) (by simpa using hlt)]
    simp [Nat.add_assoc]
theorem r_loadCells (hb : w.heap[b]? = some (.cells c ty fr)) {o n : Nat} (h : o + n ≤ c.size) : (loadCells ⟨b, o, none⟩ n).run P w = .ok ((c.toList.drop o).take n).toArray w := by
  unfold loadCells
  rw [r_loadCellsFrom hb o n 0 #[] (by omega)]
  simp
def oneV (v : Value) : Bool := match v with | .agg _ => false | .tuple _ => false | _ => true
theorem r_store (hb : w.heap[b]? = some (.cells c ty fr)) {o : Nat} {v : Value} (ho : o < c.size) (hf : w.frozen? ⟨b, o, none⟩ = false) (h1 : oneV v = true) : (store ⟨b, o, none⟩ v).run P w = .ok () (setB w b (.cells (c.setIfInBounds o v) ty fr)) := by
  have hs : w.setCell ⟨b, o, none⟩ v = setB w b (.cells (c.setIfInBounds o v) ty fr) := by
    unfold World.setCell setB
    have hlt := (Array.getElem?_eq_some_iff.1 hb).1
    have hg := (Array.getElem?_eq_some_iff.1 hb).2
    congr 1
    apply Array.ext
    · simp
    · intro i h1 h2
      simp only [Array.size_modify] at h1
      by_cases e : b = i
      · subst e
        rw [Array.getElem_modify_self, hg]
        simp
      · rw [Array.getElem_modify_of_ne (by omega)]
        rw [Array.getElem_setIfInBounds_ne (by omega) (by omega)]
  unfold store
  have : w.cell? ⟨b, o, none⟩ = some c[o] := by rw [cell_at hb, Array.getElem?_eq_getElem ho]
  cases v <;> first | (simp [oneV] at h1; done) | (simp only [Sem.run, this, hf, hs]; rfl)
theorem setB_get (hb : w.heap[b]? = some (.cells c ty fr)) (o : Obj) : (setB w b o).heap[b]? = some o := by
  unfold setB
  exact Array.getElem?_setIfInBounds_self_of_lt (Array.getElem?_eq_some_iff.1 hb).1
theorem setB_setB (w : World) (b : Nat) (o o' : Obj) : setB (setB w b o) b o' = setB w b o' := by
  unfold setB
  simp
def splC (c : Array Value) (o : Nat) (vs : List Value) : Array Value := (c.toList.take o ++ (vs ++ c.toList.drop (o + vs.length))).toArray
theorem splC_nil (c : Array Value) (o : Nat) : splC c o [] = c := by simp [splC]
theorem splC_size {c : Array Value} {o : Nat} {vs : List Value} (h : o + vs.length ≤ c.size) : (splC c o vs).size = c.size := by
  simp [splC]; omega
theorem splC_cons (c : Array Value) (o : Nat) (v : Value) (vs : List Value) (h : o < c.size) : splC (c.setIfInBounds o v) (o + 1) vs = splC c o (v :: vs) := by
  unfold splC
  apply Array.ext'
  simp only [Array.toList_setIfInBounds]
  have hl : (c.toList.take o).length = o := by simp; omega
  have e : c.toList.set o v = c.toList.take o ++ v :: c.toList.drop (o + 1) := by rw [List.set_eq_take_append_cons_drop, if_pos (by simpa using h)]
  have e1 : (c.toList.take o ++ v :: c.toList.drop (o + 1)).take (o + 1) = c.toList.take o ++ [v] := by
    have := List.take_length_add_append (l₁ := c.toList.take o) (l₂ := v :: c.toList.drop (o + 1)) 1
    rw [hl] at this
    rw [this]; rfl
  have e2 : (c.toList.take o ++ v :: c.toList.drop (o + 1)).drop (o + 1 + vs.length) = c.toList.drop (o + (v :: vs).length) := by
    have := List.drop_length_add_append (l₁ := c.toList.take o) (l₂ := v :: c.toList.drop (o + 1)) (1 + vs.length)
    rw [hl] at this
    rw [Nat.add_assoc, this, Nat.add_comm 1, List.drop_succ_cons, List.drop_drop, List.length_cons]
    congr 1; omega
  rw [e, e1, e2]
  simp
theorem setB_same {o : Obj} (hb : w.heap[b]? = some o) : setB w b o = w := by
  have hlt := (Array.getElem?_eq_some_iff.1 hb).1
  have hg := (Array.getElem?_eq_some_iff.1 hb).2
  have : w.heap.setIfInBounds b o = w.heap := by
    rw [← hg]
    apply Array.ext'
    rw [Array.toList_setIfInBounds, ← Array.getElem_toList hlt, List.set_getElem_self]
  unfold setB
  rw [this]
theorem r_storeCells {κ : Nat} (hk : c.size = κ) (hf : NF fr κ) : ∀ (vs : List Value) (w : World) (c : Array Value) (o i : Nat), w.heap[b]? = some (.cells c ty fr) → c.size = κ → o + i + vs.length ≤ κ → (∀ v ∈ vs, oneV v = true) →
    (storeCells ⟨b, o, none⟩ vs i).run P w = .ok () (setB w b (.cells (splC c (o + i) vs) ty fr))
  | [], w, c, o, i, hb, hc, h, _ => by
    unfold storeCells
    rw [splC_nil, rp]
    rw [setB_same hb]
  | v :: vs, w, c, o, i, hb, hc, h, h1 => by
    have h' : o + i + (vs.length + 1) ≤ κ := h
    unfold storeCells
    rw [add_at, rb (r_store hb (by omega) (frozen_at hb hf (by omega)) (h1 v List.mem_cons_self)), r_storeCells hk hf vs _ _ o (i + 1) (setB_get hb _) (by simp [hc]) (by omega) (fun x hx => h1 x (List.mem_cons_of_mem _ hx)), setB_setB]
    rw [show o + (i + 1) = o + i + 1 by omega, splC_cons _ _ _ _ (by omega)]
end
end Kv
end
end
section
noncomputable section
namespace Kv
open Go.RowKit
variable {P : Program}
theorem kindOf_knum (k : IntKind) : kindOf (knum k) = k := by cases k <;> rfl
theorem knum_lt (k : IntKind) : knum k < 8 := by cases k <;> decide
theorem mdN_pos (c : Nat) : 0 < mdN c := Nat.pow_pos (by omega)
theorem hfN_le (c : Nat) : hfN c + hfN c = if sgnN c = true then mdN c else 0 := by
  unfold hfN
  rw [brec]
  split
  · show 2 ^ (8 <<< (Nat.land c 3) - 1) + 2 ^ (8 <<< (Nat.land c 3) - 1) = 2 ^ (8 <<< (Nat.land c 3))
    have h : 8 <<< (Nat.land c 3) = (8 <<< (Nat.land c 3) - 1) + 1 := by
      have : 0 < 8 <<< (Nat.land c 3) := by rw [Nat.shiftLeft_eq]; exact Nat.mul_pos (by omega) (Nat.pow_pos (by omega))
      omega
    generalize 8 <<< (Nat.land c 3) - 1 = m at *
    rw [h, Nat.pow_succ]; omega
  · rfl
theorem cvtI_nat (c m : Nat) : cvtI c (.ofNat m) = if m < (if sgnN c = true then hfN c else mdN c) then .int c m else .un := by
  unfold cvtI
  simp only
  rw [brec_ble, brec]; rfl
theorem cvtI_neg (c m : Nat) : cvtI c (.negSucc m) = if sgnN c = true then (if m < hfN c then .int c (mdN c - 1 - m) else .un) else .un := by
  unfold cvtI
  simp only
  rw [brec, brec_ble]; rfl
theorem cvtI_ok {c : Nat} (hc : c < 8) {n : Int} (ρ : Ren) (h : cvtI c n ≠ .un) : VR ρ (cvtI c n) (.int (kindOf c) n) := by
  have hh := hfN_le c
  cases n with
  | ofNat m =>
    rw [cvtI_nat] at h ⊢
    by_cases hm : m < (if sgnN c = true then hfN c else mdN c)
    · rw [if_pos hm]
      refine ⟨?_, ?_, hc⟩
      · congr 1
        unfold toI
        by_cases hs : sgnN c = true
        · rw [if_pos hs] at hm
          rw [if_neg (by omega)]; rfl
        · rw [if_neg (fun k => hs k.1)]; rfl
      · by_cases hs : sgnN c = true
        · rw [if_pos hs] at hm hh; omega
        · rw [if_neg hs] at hm; omega
    · rw [if_neg hm] at h; exact absurd rfl h
  | negSucc m =>
    rw [cvtI_neg] at h ⊢
    by_cases hs : sgnN c = true
    · rw [if_pos hs] at h hh ⊢
      by_cases hm : m < hfN c
      · rw [if_pos hm]
        have hp := mdN_pos c
        refine ⟨?_, by omega, hc⟩
        congr 1
        unfold toI
        rw [if_pos ⟨hs, by omega⟩]
        omega
      · rw [if_neg hm] at h; exact absurd rfl h
    · rw [if_neg hs] at h; exact absurd rfl h
theorem packL_eq : ∀ (l : List UInt8) (a : Nat), packL l a = a * 256 ^ l.length + val (l.map UInt8.toNat)
  | [], a => by simp [packL, val]
  | b :: l, a => by
    show packL l (256 * a + b.toNat) = _
    rw [packL_eq l, List.map_cons, val, List.length_map, List.length_cons, Nat.pow_succ, Nat.add_mul]
    rw [show 256 * a * 256 ^ l.length = a * (256 ^ l.length * 256) by rw [Nat.mul_comm 256 a, Nat.mul_assoc, Nat.mul_comm 256]]
    omega
theorem u8_lt (l : List UInt8) : ∀ b ∈ l.map UInt8.toNat, b < 256 := by
  intro b hb
  obtain ⟨x, _, rfl⟩ := List.mem_map.1 hb
  exact x.toNat_lt
theorem SR_pack (s : ByteArray) : SR s.size (packL s.data.toList 0) s := by
  have h := packL_eq s.data.toList 0
  rw [Nat.zero_mul, Nat.zero_add] at h
  have hl : (s.data.toList.map UInt8.toNat).length = s.size := by rw [List.length_map]; rfl
  have h1 := bys_val _ (u8_lt s.data.toList) 0
  have h2 := val_lt _ (u8_lt s.data.toList)
  rw [hl] at h1 h2
  rw [Nat.zero_mul, Nat.zero_add] at h1
  exact ⟨by rw [h, h1], by rw [h]; exact h2⟩
theorem cvt_ok (ρ : Ren) : ∀ (v : Value), cvt v ≠ .un → VR ρ (cvt v) v := by
  intro v
  unfold cvt
  split <;> intro h
  · exact rfl
  · have := cvtI_ok (knum_lt _) ρ h
    rw [kindOf_knum] at this
    exact this
  · exact rfl
  · exact ⟨_, rfl, SR_pack _⟩
  · exact rfl
  · exact rfl
  · exact rfl
  · exact rfl
  · exact absurd rfl h
theorem allSca_eq : ∀ l : List AV, allSca l = l.all sca
  | [] => rfl
  | a :: l => by
    show @Bool.rec (fun _ => Bool) false (allSca l) (sca a) = _
    rw [allSca_eq l, List.all_cons]
    cases sca a <;> rfl
theorem sca_un {a : AV} (h : sca a = true) : a ≠ .un := fun e => by rw [e] at h; cases h
theorem cvts_ok (ρ : Ren) : ∀ l : List Value, (l.map cvt).all sca = true → VRs ρ (l.map cvt) l
  | [], _ => rfl
  | v :: l, h => by
    rw [List.map_cons, List.all_cons, Bool.and_eq_true] at h
    exact ⟨v, l, rfl, cvt_ok ρ v (sca_un h.1), cvts_ok ρ l h.2⟩
def isAggD (d : TypeDesc) : Bool := match d with | .struct _ => true | .array _ _ => true | _ => false
def Ty.plain (ty : Ty) : Bool := match ty with | .sc _ => true | _ => false
structure TyF (P : Program) (t : TypeId) (i : TypeInfo) (d : TypeDesc) (ty : Ty) : Prop where
  hi : P.info? t = some i
  hd : P.underlying t = some d
  size : i.size = ty.cells
  bytes : i.bytes ≤ 1048576
  pos : 0 < ty.cells
  zero : ∃ z, i.zero = some z ∧ (∀ ρ, VR ρ ty.zero z) ∧ ∀ ρ, UR ρ ty.cells ty.zero z.cells.toList
  agg : isAggD d = !ty.plain
  ba : ∀ n, ty = .ba n → ∃ e, d = .array n e ∧ isU8 P e = true
  sc : ∀ z, ty = .sc z → sca z = true
  u8 : isU8 P t = isTU8 ty
theorem sca_cellsL {a : AV} (h : sca a = true) : cellsL a = [a] := by
  cases a <;> first | rfl | (cases h)
theorem VR_cells {ρ : Ren} {a : AV} {v : Value} (h : VR ρ a v) (hs : sca a = true) : v.cells = #[v] ∧ oneV v = true := by
  cases a <;> first
    | (cases hs; done)
    | (obtain rfl : _ = _ := h; exact ⟨rfl, rfl⟩)
    | (obtain ⟨_, _, rfl⟩ := h; exact ⟨rfl, rfl⟩)
    | (obtain ⟨_, rfl, _⟩ := h; exact ⟨rfl, rfl⟩)
    | (obtain ⟨_, _, rfl, _⟩ := h; exact ⟨rfl, rfl⟩)
    | (obtain ⟨_, _, _, rfl, _⟩ := h; exact ⟨rfl, rfl⟩)
    | (obtain ⟨_, _, _, rfl⟩ := h; exact ⟨rfl, rfl⟩)
    | (obtain ⟨_, _, _, _, rfl, _⟩ := h; exact ⟨rfl, rfl⟩)
    | (obtain ⟨rfl, _⟩ := h; exact ⟨rfl, rfl⟩)
theorem isU8_iff (t : TypeId) : isU8 P t = true ↔ P.underlying t = some (.int .u8) := by
  unfold isU8
  constructor
  · intro h
    split at h
    · assumption
    · cases h
  · intro h; rw [h]
theorem zer8_ok {n : Nat} {z : Option Value} (h : zer8 n z = true) : ∃ cs, z = some (.agg cs) ∧ cs.toList = byC n 0 := by
  unfold zer8 at h
  split at h
  · next cs =>
    rw [brec_beq] at h
    split at h
    · next hn =>
      refine ⟨cs, rfl, ?_⟩
      have hz : ∀ v, isZ8 v = true → v = .int .u8 0 := by
        intro v hv
        unfold isZ8 at hv
        split at hv
        · split at hv
          · next m => rw [Nat.beq_eq] at hv; rw [hv]; rfl
          · cases hv
        · cases hv
      have hb : ∀ k, bys k 0 = List.replicate k 0 := by
        intro k
        induction k with
        | zero => rfl
        | succ k ih => rw [bys, ih, Nat.zero_div]; rfl
      unfold byC
      rw [hb, List.map_replicate, List.eq_replicate_iff]
      exact ⟨hn, fun v hv => hz v (List.all_eq_true.1 h v hv)⟩
    · cases h
  · cases h
theorem UR_sca {ρ : Ren} {a : AV} {v : Value} (h : VR ρ a v) (hs : sca a = true) : UR ρ 1 a [v] := by
  refine ⟨?_, rfl, ?_, ?_⟩
  · rw [sca_cellsL hs]; exact ⟨v, [], rfl, h, rfl⟩
  · rw [sca_cellsL hs]; simp [hs]
  · intro l x e; rw [e] at hs; cases hs
theorem UR_agg {ρ : Ren} {l : List AV} {cs : List Value} (h : VRs ρ l cs) (hs : l.all sca = true) : UR ρ l.length (.agg l) cs :=
  ⟨h, (VRs.length _ _ h).symm, hs, fun _ _ e => by cases e⟩
theorem UR_ba {ρ : Ren} {l x : Nat} (h : x < 256 ^ l) : UR ρ l (.ba l x) (byC l x) :=
  ⟨VRs_bytesL ρ l x, by rw [byC, List.length_map, bys_length], sca_bytesL l x, fun _ _ e => by injection e with e1 e2; subst e1; subst e2; exact h⟩
theorem agT_ok {t : TypeId} {i : TypeInfo} {d : TypeDesc} (hi : P.info? t = some i) (hd : P.underlying t = some d) (hb : i.bytes ≤ 1048576) (ha : isAggD d = true) (h : agT i ≠ .no) : TyF P t i d (agT i) := by
  unfold agT at h ⊢
  split at h
  · next cs hz =>
    simp only at h ⊢
    rw [brec_beq] at h ⊢
    split at h
    · next h1 =>
      rw [if_pos h1]
      rw [brec_ble] at h ⊢
      split at h
      · next h2 =>
        rw [if_pos h2]
        rw [brec, allSca_eq] at h ⊢
        split at h
        · next h3 =>
          rw [if_pos h3]
          refine ⟨hi, hd, h1, hb, h2, ⟨_, hz, fun ρ => ⟨cs, rfl, cvts_ok ρ _ h3, h3⟩, fun ρ => ?_⟩, ha, (fun n e => by cases e), (fun z e => by cases e), ?_⟩
          · have := UR_agg (cvts_ok ρ _ h3) h3
            rw [len_eq]; exact this
          · show isU8 P t = false
            rw [Bool.eq_false_iff]
            intro hu
            rw [isU8_iff, hd] at hu
            injection hu with hu
            rw [hu] at ha; cases ha
        · exact absurd rfl h
      · exact absurd rfl h
    · exact absurd rfl h
  · exact absurd rfl h
theorem scT_ok {t : TypeId} {i : TypeInfo} {d : TypeDesc} (hi : P.info? t = some i) (hd : P.underlying t = some d) (hb : i.bytes ≤ 1048576) (h1 : i.size = 1) (ha : isAggD d = false) (h : scT (isU8 P t) i ≠ .no) : TyF P t i d (scT (isU8 P t) i) := by
  unfold scT at h ⊢
  split at h
  · next v hz =>
    rw [brec] at h ⊢
    split at h
    · next h2 =>
      rw [if_pos h2]
      rw [brec] at h ⊢
      split at h
      · next h3 =>
        rw [if_pos h3]
        have hv := fun ρ => cvt_ok ρ v (sca_un h2)
        refine ⟨hi, hd, h1, hb, (by show 0 < 1; omega), ⟨v, hz, hv, fun ρ => ?_⟩, ha, (fun n e => by cases e), (fun z e => by injection e with e; rw [← e]; exact h2), ?_⟩
        · rw [(VR_cells (hv ρ) h2).1]
          exact UR_sca (hv ρ) h2
        · show isU8 P t = isTU8 (.sc (cvt v))
          rw [brec, brec] at h3
          cases h4 : isU8 P t <;> cases h5 : isTU8 (.sc (cvt v)) <;> rw [h4, h5] at h3 <;> first | rfl | cases h3
      · exact absurd rfl h
    · exact absurd rfl h
  · exact absurd rfl h
theorem tyOf_ok {t : TypeId} (h : tyOf P t ≠ .no) : ∃ i d, TyF P t i d (tyOf P t) := by
  unfold tyOf at h ⊢
  split at h
  · exact absurd rfl h
  · next i hi =>
    rw [brec_ble] at h
    split at h
    · next hb =>
      rw [brec_ble, if_pos hb]
      split at h
      · next n e hd =>
        rw [brec] at h ⊢
        split at h
        · next he =>
          rw [if_pos he]
          rw [brec_beq] at h ⊢
          split at h
          · next hn =>
            rw [if_pos hn]
            rw [brec_ble] at h ⊢
            split at h
            · next h1 =>
              rw [if_pos h1]
              rw [brec] at h ⊢
              split at h
              · next hz =>
                rw [if_pos hz]
                obtain ⟨cs, e1, e2⟩ := zer8_ok hz
                refine ⟨i, _, hi, hd, hn, hb, h1, ⟨_, e1, fun ρ => ⟨cs, rfl, e2, Nat.pow_pos (by omega)⟩, fun ρ => ?_⟩, rfl, fun m em => ?_, (fun z ez => by cases ez), ?_⟩
                · show UR ρ n (.ba n 0) cs.toList
                  rw [e2]; exact UR_ba (Nat.pow_pos (by omega))
                · injection em with em; subst em; exact ⟨e, rfl, he⟩
                · show isU8 P t = false
                  rw [Bool.eq_false_iff]
                  intro hu
                  rw [isU8_iff, hd] at hu
                  injection hu with hu; cases hu
              · exact absurd rfl h
            · exact absurd rfl h
          · exact absurd rfl h
        · next he => rw [if_neg he]; exact ⟨i, _, agT_ok hi hd hb rfl h⟩
      · next fs hd => exact ⟨i, _, agT_ok hi hd hb rfl h⟩
      · next d hn1 hn2 hd =>
        have ha : isAggD d = false := by
          cases d <;> first | rfl | exact (hn2 _ rfl).elim | exact (hn1 _ _ rfl).elim
        rw [brec_beq] at h ⊢
        split at h
        · next h1 => rw [if_pos h1]; exact ⟨i, d, scT_ok hi hd hb h1 ha h⟩
        · exact absurd rfl h
      · exact absurd rfl h
    · exact absurd rfl h
end Kv
end
end
end Go.Proofs.YtfkoaooceickiaaGreat
