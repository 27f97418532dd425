/- Parts of the proof: Kwo Kwp Kwq Kwr Kws Kwt. -/
import Derived.Orders
import Derived.Test.YtfkoaooceickiaaGreatH13
set_option linter.all false
set_option maxRecDepth 100000
namespace Go.Proofs.YtfkoaooceickiaaGreat
section
noncomputable section
namespace Kv
open Go.RowKit
variable {P : Program}
section
variable {ρ ρ1 : Ren} {w : World} {a : Act} {S : Sm} {n : Nat} {r r' : RG}
theorem q_same (o : Op) (h : SameA o.operands.toList r r') (g : HP) : (compQ P o).f r g = (compQ P o).f r' g := by
  cases o <;> first | rfl | skip
  case move x => have hx := h x (by simp [Op.operands]); simp only [compQ, bxrec]; rw [hx]
  case assign x => have hx := h x (by simp [Op.operands]); simp only [compQ, bxrec]; rw [hx]
  case pick c a b => have hc := h c (by simp [Op.operands]); have ha := h a (by simp [Op.operands]); have hb := h b (by simp [Op.operands]); simp only [compQ, bxrec]; rw [hc, ha, hb]
  case build t ps => simp only [compQ, bxrec]; rw [build_same t ps.toList (fun x hx => h x (by simpa [Op.operands] using hx))]
  case load t x => have hx := h x (by simp [Op.operands]); simp only [compQ, bxrec]; rw [hx]
  case nilCheck x => have hx := h x (by simp [Op.operands]); simp only [compQ, bxrec]; rw [hx]
  case binOp op t x y z => have hx := h x (by simp [Op.operands]); have hy := h y (by simp [Op.operands]); simp only [compQ, bxrec]; rw [hx, hy]
  case unOp op t x => have hx := h x (by simp [Op.operands]); simp only [compQ, bxrec]; rw [hx]
  case convert s t x => have hx := h x (by simp [Op.operands]); simp only [compQ, bxrec]; rw [hx]
  case makeFunc f x y =>
    have hx : (argsC x.toList).f r = (argsC x.toList).f r' := args_same _ fun z hz => h z (by simp [Op.operands]; exact .inl (by simpa using hz))
    have hy : (argsC y.toList).f r = (argsC y.toList).f r' := args_same _ fun z hz => h z (by simp [Op.operands]; exact .inr (by simpa using hz))
    simp only [compQ, bxrec, brec]
    repeat' split
    all_goals first | rfl | simp only [hx, hy]
  case slice t x lo hi mx =>
    have hx := h x (by simp [Op.operands])
    have h1 : (oargC lo).f r = (oargC lo).f r' := oarg_same _ fun z hz => h z (by simp [Op.operands]; exact .inr (.inl (by simpa using hz)))
    have h2 : (oargC hi).f r = (oargC hi).f r' := oarg_same _ fun z hz => h z (by simp [Op.operands]; exact .inr (.inr (.inl (by simpa using hz))))
    have h3 : (oargC mx).f r = (oargC mx).f r' := oarg_same _ fun z hz => h z (by simp [Op.operands]; exact .inr (.inr (.inr (by simpa using hz))))
    simp only [compQ, bxrec, brec]
    repeat' split
    all_goals first | rfl | simp only [hx, h1, h2, h3]
  case fieldAddr s x f =>
    have hx := h x (by simp [Op.operands])
    simp only [compQ]
    split
    · simp only [brec]
      split
      · rfl
      · simp only [bxrec]; rw [hx]
    · rfl
  case field s x f =>
    have hx := h x (by simp [Op.operands])
    simp only [compQ]
    split
    · simp only [bxrec]; rw [hx]
    · rfl
  case indexAddr t x y =>
    have hx := h x (by simp [Op.operands]); have hy := h y (by simp [Op.operands])
    simp only [compQ, bxrec]
    split
    · simp only [brec]
      split
      · rfl
      · simp only [hx, hy]
    · simp only [brec]
      split
      · rfl
      · simp only [hx, hy]
    · rfl
  case index t x y =>
    have hx := h x (by simp [Op.operands]); have hy := h y (by simp [Op.operands])
    simp only [compQ, bxrec]
    split
    · simp only [brec]
      split
      · rfl
      · simp only [hx, hy]
    · simp only [hx, hy]
    · rfl
  case extract x i => have hx := h x (by simp [Op.operands]); simp only [compQ, bxrec]; rw [hx]
  case call c =>
    obtain ⟨callee, ⟨args⟩, ⟨ats⟩⟩ := c
    simp only [compQ]
    split
    · rename_i x t tl
      simp only [bxrec]; rw [h x (by simp [Op.operands, Call.operands])]
    · rename_i x t tl
      simp only [bxrec]; rw [h x (by simp [Op.operands, Call.operands])]
    · rename_i x y
      simp only [bxrec]; rw [h x (by simp [Op.operands, Call.operands]), h y (by simp [Op.operands, Call.operands])]
    · rename_i x y
      simp only [bxrec]; rw [h x (by simp [Op.operands, Call.operands]), h y (by simp [Op.operands, Call.operands])]
    · rfl
theorem a_same (o : Op) (h : SameA o.operands.toList r r') (g : HP) (k : K) : (compA P o).f r g k = (compA P o).f r' g k := by
  cases o <;> first | rfl | skip
  case box t x => have hx := h x (by simp [Op.operands]); simp only [compA, bxrec]; rw [hx]
  case buildSlice t l ps =>
    simp only [compA]
    split
    · simp only [brec]
      split
      · simp only [bxrec]; rw [units_same _ ps.toList _ (fun x hx => h x (by simpa [Op.operands] using hx))]
      · rfl
    · rfl
  case makeSlice t x y =>
    have hx := h x (by simp [Op.operands]); have hy := h y (by simp [Op.operands])
    simp only [compA]
    split
    · simp only [bxrec]; rw [hx, hy]
    · rfl
  case range t x =>
    have hx := h x (by simp [Op.operands])
    simp only [compA, brec]
    split
    · simp only [bxrec]; rw [hx]
    · rfl
  case convert s t x =>
    have hx := h x (by simp [Op.operands])
    simp only [compA, brec]
    repeat' split
    all_goals first | rfl | (simp only [bxrec]; rw [hx])
theorem e_same (call : Go.Proofs.YtfkoaooceickiaaGreat.Kv.Call) (o : Op) (h : SameA o.operands.toList r r') (g : HP) (k : K) : (compE P S o).f call r g k = (compE P S o).f call r' g k := by
  cases o <;> first | rfl | skip
  case store t x y =>
    have hx := h x (by simp [Op.operands]); have hy := h y (by simp [Op.operands])
    simp only [compE, brec]
    split
    · rfl
    · simp only [bxrec]; rw [hx, hy]
  case next it b =>
    have hx := h it (by simp [Op.operands])
    simp only [compE, brec]
    split
    · simp only [bxrec]; rw [hx]
    · rfl
  case defer c =>
    obtain ⟨callee, ⟨args⟩, ⟨ats⟩⟩ := c
    simp only [compE]
    split
    · rename_i f
      simp only [bxrec]; rw [h f (by simp [Op.operands, Call.operands])]
    · rfl
  case call c =>
    obtain ⟨callee, ⟨args⟩, ⟨ats⟩⟩ := c
    cases callee with
    | invoke x m => rfl
    | value f =>
      have hargs : (argsC args).f r = (argsC args).f r' := args_same _ fun z hz => h z (by simp [Op.operands, Call.operands]; exact .inr hz)
      have hf := h f (by simp [Op.operands, Call.operands])
      cases f <;> simp only [compE, brec]
      case func g =>
        repeat' split
        all_goals first | rfl | (simp only [bxrec, hargs]; done) | skip
        all_goals (cases S.S g <;> simp only [bxrec, hargs])
      all_goals
        repeat' split
        all_goals first | rfl | simp only [bxrec, hargs, hf]
    | builtin b =>
      simp only [compE]
      split
      · rename_i s x t t' tl
        simp only [bxrec]; rw [h s (by simp [Op.operands, Call.operands]), h x (by simp [Op.operands, Call.operands])]
      · rename_i x y t tl
        simp only [bxrec]; rw [h x (by simp [Op.operands, Call.operands]), h y (by simp [Op.operands, Call.operands])]
      · rename_i x t tl
        simp only [bxrec]; rw [h x (by simp [Op.operands, Call.operands])]
      · rfl
end
end Kv
end
end
section
noncomputable section
namespace Kv
open Go.RowKit
variable {P : Program}
section
variable {S : Sm} {r : RG}
theorem q_nolook (o : Op) (hl : looks o = false) (h g : HP) : (compQ P o).f r h = (compQ P o).f r g := by
  cases o <;> first | rfl | (cases hl; done) | skip
  case makeFunc f x y =>
    simp only [compQ, bxrec]
    generalize (@Bool.rec (fun _ => Bool) false (okOps y.toList) (okOps x.toList)) = c
    cases c <;> rfl
  case fieldAddr s x f =>
    simp only [compQ]
    split
    · simp only [brec]
      split
      · rfl
      · simp only [bxrec]
    · rfl
  case field s x f =>
    simp only [compQ]
    split
    · simp only [bxrec]
    · rfl
  case indexAddr t x y =>
    simp only [compQ, bxrec]
    repeat' split
    all_goals first | rfl | (simp only [brec]; split <;> rfl)
  case index t x y =>
    simp only [compQ, bxrec]
    repeat' split
    all_goals first | rfl | (simp only [brec]; split <;> rfl)
  case call c =>
    obtain ⟨callee, ⟨args⟩, ⟨ats⟩⟩ := c
    simp only [compQ]
    split <;> first | rfl | simp only [bxrec]
def HLe (h g : HP) : Prop := ∀ i, i < h.n → g.get i = h.get i
theorem ldC_dead (ty : Ty) (o : Nat) : (ldC ty).f .dead o = .un := by cases ty <;> rfl
theorem HLe.live {h g : HP} (hl : HLe h g) {i : Nat} (hd : h.get i ≠ .dead) : g.get i = h.get i := by
  refine hl i (Nat.lt_of_not_le fun k => hd (HP.get_dead k))
theorem go_mono {h g : HP} (hl : HLe h g) {n c i o : Nat} {u8 : Bool} (hb : srcOf.go h n c u8 i o ≠ .bad) : srcOf.go g n c u8 i o = srcOf.go h n c u8 i o := by
  have hd : h.get i ≠ .dead := fun e => hb (by unfold srcOf.go; rw [e])
  unfold srcOf.go
  rw [hl.live hd]
theorem src_mono {h g : HP} (hl : HLe h g) {v : AV} {n c : Nat} {u8 : Bool} (hb : srcOf h v n c u8 ≠ .bad) : srcOf g v n c u8 = srcOf h v n c u8 := by
  cases v <;> first | rfl | exact go_mono hl hb
theorem onSlice_eq (v : AV) (φ : Nat → AV) : onSlice v φ = match lenV v with | some l => (match v with | .str _ _ => .un | _ => φ l) | none => .un := by cases v <;> rfl
theorem str_mono {h g : HP} (hl : HLe h g) {v : AV} (hu : strC v h ≠ .un) : strC v g = strC v h := by
  unfold strC at hu ⊢
  have key : ∀ l, (@Bool.rec (fun _ => AV) (match srcOf h v l 1 true with | .b m y => .str m y | _ => .un) (.str 0 0) (Nat.beq l 0)) ≠ .un →
      (@Bool.rec (fun _ => AV) (match srcOf g v l 1 true with | .b m y => .str m y | _ => .un) (.str 0 0) (Nat.beq l 0)) = (@Bool.rec (fun _ => AV) (match srcOf h v l 1 true with | .b m y => .str m y | _ => .un) (.str 0 0) (Nat.beq l 0)) := fun l hu => by
    rw [brec] at hu ⊢
    rw [brec]
    split
    · rfl
    · next q =>
      rw [if_neg q] at hu
      rw [src_mono hl (fun e => by rw [e] at hu; exact hu rfl)]
  cases v <;> first | rfl | exact key _ hu
theorem conv_mono {h g : HP} (hl : HLe h g) {s t : TypeId} {v : AV} (hu : (convC P s t).f v h ≠ .un) : (convC P s t).f v g = (convC P s t).f v h := by
  unfold convC at hu ⊢
  split at hu <;> first | rfl | skip
  simp only [brec] at hu ⊢
  split at hu
  · next q => rw [if_pos q]; exact str_mono hl hu
  · exact absurd rfl hu
theorem oIdx_mono {v : Option AV} {z : Nat} {φ ψ : Nat → AV} (h : ∀ n, φ n ≠ .un → ψ n = φ n) (hu : oIdx v z φ ≠ .un) : oIdx v z ψ = oIdx v z φ := by
  cases v with
  | none => exact h z hu
  | some v =>
    change onIdxA v φ ≠ .un at hu
    change onIdxA v ψ = onIdxA v φ
    cases v <;> first | rfl | skip
    case int k x =>
      unfold onIdxA onIntA at hu ⊢
      have e : ∀ c : Bool, ∀ φ : Nat → AV, @Bool.rec (fun _ => AV) (φ x) .un c = if c = true then .un else φ x := fun c φ => brec _ _ _
      simp only [e] at hu ⊢
      generalize (@Bool.rec (fun _ => Bool) false ((hfN k).ble x) (sgnN k)) = c at hu ⊢
      cases c with
      | true => rfl
      | false => exact h _ hu
theorem sliceV_mono {h g : HP} (hl : HLe h g) {u : Nat} {v : AV} {lo hi mx : Option AV} (hu : sliceV u h v lo hi mx ≠ .un) : sliceV u g v lo hi mx = sliceV u h v lo hi mx := by
  cases v <;> first | rfl | skip
  case sf i o l w =>
    by_cases hd : h.get i = .dead
    · unfold sliceV at hu ⊢
      simp only [brec_beq] at hu ⊢
      by_cases hw : w = u
      · rw [if_pos hw] at hu
        rw [if_pos hw, if_pos hw]
        refine oIdx_mono (fun a ha => oIdx_mono (fun b hb => ?_) ha) hu
        rw [hd] at hb ⊢
        have h0 : ∀ o, room .dead o u = 0 := fun _ => rfl
        rw [h0] at hb ⊢
        unfold sliceF at hb ⊢
        simp only [brec_ble] at hb ⊢
        by_cases h1 : a ≤ b
        · rw [if_pos h1] at hb
          rw [if_pos h1, if_pos h1]
          by_cases h2 : b ≤ 0
          · rw [if_pos h2] at hb
            rw [if_pos h2, if_pos (Nat.le_trans h2 (Nat.zero_le _))]
            have ea : a = 0 := by omega
            cases mx with
            | none => simp only [brec_beq, ea, if_true]
            | some m =>
              simp only at hb ⊢
              have := oIdx_mono (v := some m) (z := 0) (φ := fun m => sliceK u i o 0 a b m) (ψ := fun m => sliceK u i o (room (g.get i) o u) a b m) (fun n hn => by
                unfold sliceK at hn ⊢
                simp only [brec_ble] at hn ⊢
                by_cases h3 : n ≤ 0
                · rw [if_pos h3, if_pos (Nat.le_trans h3 (Nat.zero_le _))]
                · rw [if_neg h3] at hn; exact absurd rfl hn) hb
              exact this
          · rw [if_neg h2] at hb; exact absurd rfl hb
        · rw [if_neg h1] at hb; exact absurd rfl hb
      · rw [if_neg hw] at hu; exact absurd rfl hu
    · unfold sliceV
      simp only [hl.live hd]
theorem sliceX_mono {h g : HP} (hl : HLe h g) {t : TypeId} {v : AV} {lo hi mx : Option AV} (hu : (sliceX P t).f lo hi mx h v ≠ .un) : (sliceX P t).f lo hi mx g v = (sliceX P t).f lo hi mx h v := by
  unfold sliceX at hu ⊢
  split at hu
  · rfl
  · simp only [brec] at hu ⊢
    split <;> rfl
  · simp only [brec] at hu ⊢
    split
    · rfl
    · next q => rw [if_neg q] at hu; exact sliceV_mono hl hu
  · rfl
theorem q_mono (o : Op) {h g : HP} (hl : HLe h g) (hu : (compQ P o).f r h ≠ .un) : (compQ P o).f r g = (compQ P o).f r h := by
  by_cases hk : looks o = false
  · exact q_nolook o hk g h
  · cases o <;> first | exact absurd rfl hk | skip
    case load t x =>
      simp only [compQ, bxrec] at hu ⊢
      generalize (argC x).f r = v at hu ⊢
      cases v <;> first | rfl | skip
      case ptr i p =>
        have hd : h.get i ≠ .dead := fun e => hu (by
          show (ldC (tyOf P t)).f (h.get i) p = .un
          rw [e, ldC_dead])
        show (ldC (tyOf P t)).f (g.get i) p = (ldC (tyOf P t)).f (h.get i) p
        rw [hl.live hd]
    case convert s t x =>
      simp only [compQ, bxrec] at hu ⊢
      exact conv_mono hl hu
    case slice t x lo hi mx =>
      simp only [compQ] at hu ⊢
      generalize (@Bool.rec (fun _ => Bool) false (not (isNone mx)) (isNone hi)) = c at hu ⊢
      cases c with
      | true => rfl
      | false =>
        simp only [bxrec] at hu ⊢
        exact sliceX_mono hl hu
end
end Kv
end
end
section
noncomputable section
namespace Kv
open Go.RowKit
variable {P : Program}
theorem tb_eq (x i : Nat) : tb x i = x.testBit i := by
  unfold tb Nat.testBit
  have h1 : Nat.land (Nat.shiftRight x i) 1 = (x >>> i) % 2 := Nat.and_one_is_mod _
  have h2 : 1 &&& x >>> i = (x >>> i) % 2 := by rw [Nat.and_comm]; exact Nat.and_one_is_mod _
  rw [h1, h2]
  rcases Nat.mod_two_eq_zero_or_one (x >>> i) with h | h <;> rw [h] <;> rfl
theorem bindsA_eq (e : Edge) : bindsA e = Region.binds .any e := by
  obtain ⟨on, g⟩ := e
  cases g <;> rfl
def mkM (prev : List Nat) (l : List Edge) (s : Nat) : Nat := l.foldl (fun s e => @Bool.rec (fun _ => Nat) s (Nat.lor s (Nat.lor (Nat.pow 2 e.on) (prev.getD e.on 0))) (bindsA e)) s
theorem mkM_bit (prev : List Nat) (t : Nat) : ∀ (l : List Edge) (s : Nat), (mkM prev l s).testBit t = true ↔ s.testBit t = true ∨ ∃ e ∈ l, bindsA e = true ∧ (e.on = t ∨ (prev.getD e.on 0).testBit t = true)
  | [], s => by simp [mkM]
  | e :: l, s => by
    show (mkM prev l (@Bool.rec (fun _ => Nat) s (Nat.lor s (Nat.lor (Nat.pow 2 e.on) (prev.getD e.on 0))) (bindsA e))).testBit t = true ↔ _
    rw [mkM_bit prev t l, brec]
    have hor : (Nat.lor s (Nat.lor (Nat.pow 2 e.on) (prev.getD e.on 0))).testBit t = (s.testBit t || (decide (e.on = t) || (prev.getD e.on 0).testBit t)) := by
      show (s ||| ((2 ^ e.on) ||| (prev.getD e.on 0))).testBit t = _
      rw [Nat.testBit_or, Nat.testBit_or, Nat.testBit_two_pow]
    by_cases hb : bindsA e = true
    · rw [if_pos hb, hor]
      simp only [Bool.or_eq_true, decide_eq_true_eq]
      constructor
      · rintro ((h | h | h) | ⟨e', h1, h2⟩)
        · exact .inl h
        · exact .inr ⟨e, List.mem_cons_self, hb, .inl h⟩
        · exact .inr ⟨e, List.mem_cons_self, hb, .inr h⟩
        · exact .inr ⟨e', List.mem_cons_of_mem _ h1, h2⟩
      · rintro (h | ⟨e', h1, h2, h3⟩)
        · exact .inl (.inl h)
        · rcases List.mem_cons.1 h1 with rfl | h1
          · exact .inl (.inr h3)
          · exact .inr ⟨e', h1, h2, h3⟩
    · rw [if_neg hb]
      constructor
      · rintro (h | ⟨e', h1, h2⟩)
        · exact .inl h
        · exact .inr ⟨e', List.mem_cons_of_mem _ h1, h2⟩
      · rintro (h | ⟨e', h1, h2, h3⟩)
        · exact .inl h
        · rcases List.mem_cons.1 h1 with rfl | h1
          · exact absurd h2 hb
          · exact .inr ⟨e', h1, h2, h3⟩
theorem masks_cons (o : Oper) (l : List Oper) (a : List Nat) : masks (o :: l) a = masks l (mkM a.reverse o.after.toList 0 :: a) := rfl
theorem masks_take : ∀ (l : List Oper) (a : List Nat), (masks l a).take a.length = a.reverse ∧ (masks l a).length = a.length + l.length
  | [], a => ⟨by show a.reverse.take a.length = _; rw [List.take_of_length_le (by simp)], by show a.reverse.length = _; simp⟩
  | o :: l, a => by
    rw [masks_cons]
    obtain ⟨h1, h2⟩ := masks_take l (mkM a.reverse o.after.toList 0 :: a)
    constructor
    · have := congrArg (List.take a.length) h1
      rw [List.take_take, List.length_cons, Nat.min_eq_left (Nat.le_succ _)] at this
      rw [this, List.reverse_cons, List.take_append_of_le_length (by simp), List.take_of_length_le (by simp)]
    · rw [h2]; simp; omega
theorem masks_get : ∀ (l : List Oper) (a : List Nat) (j : Nat) (o : Oper), l[j]? = some o → (masks l a)[a.length + j]? = some (mkM ((masks l a).take (a.length + j)) o.after.toList 0)
  | [], a, j, o, h => by cases h
  | p :: l, a, 0, o, h => by
    injection h with h
    subst h
    obtain ⟨h1, h2⟩ := masks_take l (mkM a.reverse p.after.toList 0 :: a)
    obtain ⟨h3, h4⟩ := masks_take (p :: l) a
    rw [Nat.add_zero, h3]
    rw [masks_cons]
    have := congrArg (fun l => l[a.length]?) h1
    simp only [List.length_cons] at this
    rw [List.getElem?_take_of_lt (by omega)] at this
    rw [this, List.reverse_cons, List.getElem?_append_right (by simp)]
    simp
  | p :: l, a, j + 1, o, h => by
    rw [masks_cons]
    have := masks_get l (mkM a.reverse p.after.toList 0 :: a) j o h
    rw [List.length_cons, Nat.add_assoc, Nat.add_comm 1 j] at this
    exact this
def waits (ops : List Oper) (j t : Nat) : Bool := tb ((masks ops []).getD j 0) t
def Back (ops : List Oper) : Prop := ∀ j o, ops[j]? = some o → ∀ e ∈ o.after.toList, bindsA e = true → e.on < j
theorem waits_iff {ops : List Oper} (hb : Back ops) {j : Nat} {o : Oper} (ho : ops[j]? = some o) (t : Nat) : waits ops j t = true ↔ ∃ e ∈ o.after.toList, bindsA e = true ∧ (e.on = t ∨ waits ops e.on t = true) := by
  have h := masks_get ops [] j o ho
  rw [List.length_nil, Nat.zero_add] at h
  unfold waits
  rw [tb_eq, List.getD_eq_getElem?_getD, h, Option.getD_some, mkM_bit]
  simp only [Nat.zero_testBit, Bool.false_eq_true, false_or]
  constructor
  · rintro ⟨e, h1, h2, h3⟩
    refine ⟨e, h1, h2, h3.imp id fun h3 => ?_⟩
    rw [tb_eq, List.getD_eq_getElem?_getD]
    rw [List.getD_eq_getElem?_getD, List.getElem?_take_of_lt (hb j o ho e h1 h2)] at h3
    exact h3
  · rintro ⟨e, h1, h2, h3⟩
    refine ⟨e, h1, h2, h3.imp id fun h3 => ?_⟩
    rw [tb_eq, List.getD_eq_getElem?_getD] at h3
    rw [List.getD_eq_getElem?_getD, List.getElem?_take_of_lt (hb j o ho e h1 h2)]
    exact h3
theorem waits_lt {ops : List Oper} (hb : Back ops) : ∀ (j t : Nat), waits ops j t = true → t < j := by
  intro j
  induction j using Nat.strongRecOn with
  | _ j ih =>
    intro t h
    cases ho : ops[j]? with
    | none =>
      unfold waits at h
      have : (masks ops []).length = ops.length := by rw [(masks_take ops []).2]; simp
      rw [tb_eq, List.getD_eq_getElem?_getD, List.getElem?_eq_none (by rw [this]; exact List.getElem?_eq_none_iff.1 ho)] at h
      simp at h
    | some o =>
      obtain ⟨e, h1, h2, h3⟩ := (waits_iff hb ho t).1 h
      have h4 := hb j o ho e h1 h2
      rcases h3 with rfl | h3
      · exact h4
      · exact Nat.lt_trans (ih e.on h4 t h3) h4
def Closed (ops : List Oper) (L : Nat → Bool) : Prop := ∀ j o, ops[j]? = some o → L j = true → ∀ e ∈ o.after.toList, bindsA e = true → L e.on = true
theorem Closed.waits {ops : List Oper} {L : Nat → Bool} (hb : Back ops) (hc : Closed ops L) : ∀ (j t : Nat), L j = true → waits ops j t = true → L t = true := by
  intro j
  induction j using Nat.strongRecOn with
  | _ j ih =>
    intro t hj h
    cases ho : ops[j]? with
    | none => exact absurd (waits_lt hb j t h) (by
        unfold Kv.waits at h
        have : (masks ops []).length = ops.length := by rw [(masks_take ops []).2]; simp
        rw [tb_eq, List.getD_eq_getElem?_getD, List.getElem?_eq_none (by rw [this]; exact List.getElem?_eq_none_iff.1 ho)] at h
        simp at h)
    | some o =>
      obtain ⟨e, h1, h2, h3⟩ := (waits_iff hb ho t).1 h
      have h4 := hc j o ho hj e h1 h2
      rcases h3 with rfl | h3
      · exact h4
      · exact ih e.on (hb j o ho e h1 h2) t h4 h3
def Next (ops : List Oper) (L : Nat → Bool) (j : Nat) : Prop := L j = false ∧ ∃ o, ops[j]? = some o ∧ ∀ e ∈ o.after.toList, bindsA e = true → L e.on = true
theorem Next.waits {ops : List Oper} {L : Nat → Bool} (hb : Back ops) (hc : Closed ops L) {j t : Nat} (hj : Next ops L j) (h : waits ops j t = true) : L t = true := by
  obtain ⟨_, o, ho, hn⟩ := hj
  obtain ⟨e, h1, h2, h3⟩ := (waits_iff hb ho t).1 h
  have h4 := hn e h1 h2
  rcases h3 with rfl | h3
  · exact h4
  · exact hc.waits hb e.on t h4 h3
end Kv
end
end
section
noncomputable section
namespace Kv
open Go.RowKit
variable {P : Program}
section
variable {S : Sm} {r : RG} {h : HP}
def nsO (o : Oper) : List Nat := (opTmps o.op).filter (fun k => decide (k < 512))
theorem nsO_lt (o : Oper) : ∀ x ∈ nsO o, x < 512 := fun x hx => by simpa using (List.mem_filter.1 hx).2
theorem same_mask (o : Oper) (r : RG) : SameA o.op.operands.toList r (maskR (nsO o) r) := sameA_of fun k hk h5 => by
  rw [maskR_get _ r k (nsO_lt o) h5, if_pos (show k ∈ nsO o from List.mem_filter.2 ⟨hk, by simpa using h5⟩)]
inductive StepR (P : Program) (ops : List Oper) (o : Oper) (r : RG) (h : HP) : AV → HP → Prop
  | no : wantsG ops o.guard r = false → StepR P ops o r h (.tup []) h
  | q : wantsG ops o.guard r = true → isE o.op = false → isA P o.op = false → (compQ P o.op).f r h ≠ .un → StepR P ops o r h ((compQ P o.op).f r h) h
  | a (b : Blk) (v : AV) : wantsG ops o.guard r = true → isE o.op = false → isA P o.op = true → b ≠ .dead → AR P o (maskR (nsO o) r) h.n b v → StepR P ops o r h v (h.push b)
  | e (v : AV) (h' : HP) : wantsG ops o.guard r = true → isE o.op = true → ER P (Idles P) o (maskR (nsO o) r) h v h' → StepR P ops o r h v h'
def LkR (P : Program) (o : Oper) (a b : Nat) (r : RG) (v : AV) (h h' : HP) (lk : List Lk) : Prop := isE o.op = false → a ≠ b →
  (isA P o.op = false → looks o.op = true → (⟨lkQ (compQ P o.op).f r v, a, b⟩ : Lk) ∈ lk) ∧ (isA P o.op = true → (⟨lkA h.n h', a, b⟩ : Lk) ∈ lk)
theorem d_cons (ops : List Oper) (o : Oper) (a b : Nat) (l : List (Oper × Nat × Nat)) (call : Go.Proofs.YtfkoaooceickiaaGreat.Kv.Call) (vs : List HP) (lk : List Lk) (k : RG → HP → R) :
    ∃ F : AV → HP → List Lk, (∀ v h', (∀ x ∈ lk, x ∈ F v h') ∧ LkR P o a b r v h h' (F v h')) ∧
      (compD P S ops ((o, a, b) :: l)).f call r h vs lk k = if wantsG ops o.guard r = true then (compO P S o).f call r h (fun v h' => (compD P S ops l).f call (putR o.dst r v) h' (if isE o.op = true then h :: vs else vs) (F v h') k)
        else (compD P S ops l).f call (putR o.dst r (.tup [])) h (if isE o.op = true then h :: vs else vs) lk k := by
  obtain ⟨F, hF, e⟩ : ∃ F : AV → HP → List Lk, (∀ v h', (∀ x ∈ lk, x ∈ F v h') ∧ LkR P o a b r v h h' (F v h')) ∧
      (compDO P S o a b (compD P S ops l).f).f call r h vs lk k = (compO P S o).f call r h (fun v h' => (compD P S ops l).f call (putR o.dst r v) h' (if isE o.op = true then h :: vs else vs) (F v h') k) := by
    unfold compDO
    simp only [bxrec, putC_eq]
    rw [way_eq]
    by_cases h1 : isE o.op = true
    · refine ⟨fun _ _ => lk, fun v h' => ⟨fun _ hx => hx, (fun q => by rw [h1] at q; cases q)⟩, ?_⟩
      rw [if_pos h1]
      simp only [h1, if_true]
    · simp only [h1, if_false]
      by_cases h2 : isA P o.op = true
      · simp only [h2, if_true, brec_beq]
        by_cases hab : a = b
        · refine ⟨fun _ _ => lk, fun v h' => ⟨fun _ hx => hx, fun _ q => absurd hab q⟩, ?_⟩
          simp only [hab, if_true]
          simp
        · refine ⟨fun _ h' => ⟨lkA h.n h', a, b⟩ :: lk, fun v h' => ⟨fun _ hx => List.mem_cons_of_mem _ hx, fun _ _ => ⟨(fun q => by rw [h2] at q; cases q), fun _ => List.mem_cons_self⟩⟩, ?_⟩
          simp only [hab, if_false]
          simp
      · simp only [h2, if_false]
        by_cases hl : looks o.op = true ∧ a ≠ b
        · refine ⟨fun v _ => ⟨lkQ (compQ P o.op).f r v, a, b⟩ :: lk, fun v h' => ⟨fun _ hx => List.mem_cons_of_mem _ hx, fun _ _ => ⟨fun _ _ => List.mem_cons_self, fun q => absurd q h2⟩⟩, ?_⟩
          have e1 : not (Nat.beq a b) = true := by
            cases q : Nat.beq a b with
            | true => exact absurd ((beq_iff _ _).1 q) hl.2
            | false => rfl
          simp only [brec, hl.1, e1, if_true]
          simp
        · refine ⟨fun v _ => lk, fun v h' => ⟨fun _ hx => hx, fun _ q => ⟨fun _ q2 => absurd ⟨q2, q⟩ hl, fun q => absurd q h2⟩⟩, ?_⟩
          have e1 : (if looks o.op = true then not (Nat.beq a b) else false) = false := by
            by_cases q : looks o.op = true
            · rw [if_pos q]
              have : a = b := Classical.byContradiction fun z => hl ⟨q, z⟩
              rw [(beq_iff _ _).2 this]; rfl
            · rw [if_neg q]
          simp only [brec, e1]
          simp
  refine ⟨F, hF, ?_⟩
  have e2 : compD P S ops ((o, a, b) :: l) = @Bx.rec _ (fun _ => Bx DC) (fun g => (match o.guard with
    | none => compDO P S o a b g
    | some _ => @Bx.rec _ (fun _ => Bx DC) (fun f => @Bx.rec _ (fun _ => Bx DC) (fun w => @Bx.rec _ (fun _ => Bx DC) (fun s => ⟨fun call r h vs lk k => @Bool.rec (fun _ => _) (g call (s r (.tup [])) h (@Bool.rec (fun _ => _) vs (h :: vs) (isE o.op)) lk k) (f call r h vs lk k) (w r)⟩) (putC o.dst)) (wantC ops o.guard)) (compDO P S o a b g))) (compD P S ops l) := rfl
  rw [e2]
  simp only [bxrec]
  unfold wantsG
  cases hg : o.guard with
  | none =>
    rw [show (wantC ops none).f r = true from rfl, if_pos rfl]
    exact e
  | some g =>
    simp only [bxrec, putC_eq, brec]
    split
    · exact e
    · rfl
theorem o_step {call : Go.Proofs.YtfkoaooceickiaaGreat.Kv.Call} (hS : SmOk P S) (hc : CallOK P call) (ops : List Oper) (o : Oper) {k : K} {res : AV × HP} (hw : wantsG ops o.guard r = true) (hf : (compO P S o).f call r h k = some res) :
    ∃ v h', k v h' = some res ∧ StepR P ops o r h v h' := by
  rw [compO_eq] at hf
  by_cases h1 : isE o.op = true
  · rw [if_pos h1, e_same call o.op (same_mask o r)] at hf
    obtain ⟨v, h', k1, k2⟩ := e_ok hS hc o hf
    exact ⟨v, h', k1, .e v h' hw h1 k2⟩
  · have h1' : isE o.op = false := by simpa using h1
    rw [if_neg h1] at hf
    by_cases h2 : isA P o.op = true
    · rw [if_pos h2] at hf
      have hf : (compA P o.op).f r h k = some res := hf
      rw [a_same o.op (same_mask o r)] at hf
      obtain ⟨b, v, k0, k1, k2⟩ := a_ok o hf
      exact ⟨v, _, k1, .a b v hw h1' h2 k0 k2⟩
    · rw [if_neg h2] at hf
      have hf : frc ((compQ P o.op).f r h) (fun v => k v h) = some res := hf
      obtain ⟨hu, k1⟩ := frc_some hf
      exact ⟨_, _, k1, .q hw h1' (by simpa using h2) hu⟩
def vsL : List (Oper × Nat × Nat) → (Nat → HP) → List HP
  | [], _ => []
  | x :: l, H => (if isE x.1.op = true then [H 0] else []) ++ vsL l (fun t => H (t + 1))
structure TrR (P : Program) (ops : List Oper) (pl : List (Oper × Nat × Nat)) (Rr : Nat → RG) (H : Nat → HP) (V : Nat → AV) (lk : List Lk) : Prop where
  step : ∀ t o a b, pl[t]? = some (o, a, b) → StepR P ops o (Rr t) (H t) (V t) (H (t + 1)) ∧ Rr (t + 1) = putR o.dst (Rr t) (V t) ∧ (wantsG ops o.guard (Rr t) = true → LkR P o a b (Rr t) (V t) (H t) (H (t + 1)) lk)
theorem d_tr {call : Go.Proofs.YtfkoaooceickiaaGreat.Kv.Call} (hS : SmOk P S) (hc : CallOK P call) (ops : List Oper) : ∀ (l : List (Oper × Nat × Nat)) (r : RG) (h : HP) (vs : List HP) (lk : List Lk) {k : RG → HP → R} {res : AV × HP}, (compD P S ops l).f call r h vs lk k = some res →
    ∃ Rr H V lkf, Rr 0 = r ∧ H 0 = h ∧ TrR P ops l Rr H V lkf ∧ (∀ x ∈ lk, x ∈ lkf) ∧ lksOk (vs.reverse ++ vsL l H ++ [H l.length]) lkf = true ∧ k (Rr l.length) (H l.length) = some res
  | [], r, h, vs, lk, k, res, hf => by
    have e : (compD P S ops []).f call r h vs lk k = @Bool.rec (fun _ => _) none (k r h) (lksOk (h :: vs).reverse lk) := rfl
    rw [e, brec] at hf
    by_cases hl : lksOk (h :: vs).reverse lk = true
    · rw [if_pos hl] at hf
      refine ⟨fun _ => r, fun _ => h, fun _ => .un, lk, rfl, rfl, ⟨fun t o a b q => by simp at q⟩, fun _ hx => hx, ?_, hf⟩
      rw [List.reverse_cons] at hl
      simpa [vsL] using hl
    · rw [if_neg hl] at hf; cases hf
  | (o, a, b) :: l, r, h, vs, lk, k, res, hf => by
    obtain ⟨F, hF, e⟩ := d_cons (P := P) (S := S) (r := r) (h := h) ops o a b l call vs lk k
    rw [e] at hf
    have fin : ∀ v h' lk', StepR P ops o r h v h' → (∀ x ∈ lk, x ∈ lk') → (wantsG ops o.guard r = true → LkR P o a b r v h h' lk') → (compD P S ops l).f call (putR o.dst r v) h' (if isE o.op = true then h :: vs else vs) lk' k = some res →
        ∃ Rr H V lkf, Rr 0 = r ∧ H 0 = h ∧ TrR P ops ((o, a, b) :: l) Rr H V lkf ∧ (∀ x ∈ lk, x ∈ lkf) ∧ lksOk (vs.reverse ++ vsL ((o, a, b) :: l) H ++ [H ((o, a, b) :: l).length]) lkf = true ∧ k (Rr ((o, a, b) :: l).length) (H ((o, a, b) :: l).length) = some res := fun v h' lk' hs hsub hL hf => by
      obtain ⟨Rr, H, V, lkf, e1, e2, e3, e4, e5, e6⟩ := d_tr hS hc ops l _ _ _ _ hf
      refine ⟨fun t => Nat.casesOn t r Rr, fun t => Nat.casesOn t h H, fun t => Nat.casesOn t v V, lkf, rfl, rfl, ⟨fun t o' a' b' ht => ?_⟩, fun x hx => e4 x (hsub x hx), ?_, e6⟩
      · cases t with
        | zero =>
          injection ht with ht
          injection ht with q1 q2
          injection q2 with q2 q3
          subst q1; subst q2; subst q3
          refine ⟨?_, e1, fun hw q1 q2 => ?_⟩
          · show StepR P ops o r h v (H 0)
            rw [e2]; exact hs
          · have := hL hw q1 q2
            show (isA P o.op = false → looks o.op = true → (⟨lkQ (compQ P o.op).f r v, a, b⟩ : Lk) ∈ lkf) ∧ (isA P o.op = true → (⟨lkA h.n (H 0), a, b⟩ : Lk) ∈ lkf)
            rw [e2]
            exact ⟨fun z1 z2 => e4 _ (this.1 z1 z2), fun z1 => e4 _ (this.2 z1)⟩
        | succ t => exact e3.step t o' a' b' ht
      · have : vs.reverse ++ vsL ((o, a, b) :: l) (fun t => Nat.casesOn t h H) ++ [H l.length] = (if isE o.op = true then h :: vs else vs).reverse ++ vsL l H ++ [H l.length] := by
          show vs.reverse ++ ((if isE o.op = true then [h] else []) ++ vsL l H) ++ [H l.length] = _
          by_cases q : isE o.op = true
          · rw [if_pos q, if_pos q]; simp
          · rw [if_neg q, if_neg q]; simp
        show lksOk (vs.reverse ++ vsL ((o, a, b) :: l) (fun t => Nat.casesOn t h H) ++ [H l.length]) lkf = true
        rw [this]; exact e5
    by_cases hw : wantsG ops o.guard r = true
    · rw [if_pos hw] at hf
      obtain ⟨v, h', k1, k2⟩ := o_step hS hc ops o hw hf
      exact fin v h' (F v h') k2 (hF v h').1 (fun _ => (hF v h').2) k1
    · rw [if_neg hw] at hf
      exact fin _ _ lk (.no (by simpa using hw)) (fun _ hx => hx) (fun q => absurd q hw) hf
end
end Kv
end
end
section
noncomputable section
namespace Kv
open Go.RowKit
variable {P : Program}
theorem waits_trans {ops : List Oper} (hb : Back ops) : ∀ (c b a : Nat), waits ops c b = true → waits ops b a = true → waits ops c a = true := by
  intro c
  induction c using Nat.strongRecOn with
  | _ c ih =>
    intro b a h1 h2
    cases ho : ops[c]? with
    | none =>
      unfold waits at h1
      have : (masks ops []).length = ops.length := by rw [(masks_take ops []).2]; simp
      rw [tb_eq, List.getD_eq_getElem?_getD, List.getElem?_eq_none (by rw [this]; exact List.getElem?_eq_none_iff.1 ho)] at h1
      simp at h1
    | some o =>
      obtain ⟨e, k1, k2, k3⟩ := (waits_iff hb ho b).1 h1
      refine (waits_iff hb ho a).2 ⟨e, k1, k2, .inr ?_⟩
      rcases k3 with rfl | k3
      · exact h2
      · exact ih e.on (hb c o ho e k1 k2) b a k3 h2
def esOf (ops : List Oper) : List Nat := (ops.zipIdx.filter (fun (o, _) => isE o.op)).map (·.2)
structure PlanOK (ops : List Oper) : Prop where
  back : Back ops
  names : ∀ (j : Nat) (o : Oper) (i : Nat) (p : Oper) (d : Tmp), ops[j]? = some o → ops[i]? = some p → p.dst = some d → d ∈ namesOf ops o → i ≠ j → if i ≤ j then waits ops j i = true else waits ops i j = true
  chain : ∀ (i j a b : Nat), (esOf ops)[i]? = some a → (esOf ops)[j]? = some b → i < j → waits ops b a = true
def spanOf (ops : List Oper) (j : Nat) : Nat × Nat := (((esOf ops).filter (waits ops j)).length, ((esOf ops).filter (fun e => !(waits ops e j))).length)
theorem chain_adj : ∀ (es ms : List Nat), chainOk es ms = true → ∀ i a b, es[i]? = some a → es[i + 1]? = some b → tb (ms.getD b 0) a = true
  | [], ms, h, i, a, b, h1, _ => by simp at h1
  | [x], ms, h, i, a, b, h1, h2 => by simp at h2
  | x :: y :: l, ms, h, i, a, b, h1, h2 => by
    have h : (tb (ms.getD y 0) x && chainOk (y :: l) ms) = true := h
    rw [Bool.and_eq_true] at h
    cases i with
    | zero =>
      injection h1 with h1; injection h2 with h2
      subst h1; subst h2; exact h.1
    | succ i => exact chain_adj (y :: l) ms h.2 i a b h1 h2
theorem plan_ok {ops : List Oper} {ss : List (Nat × Nat)} (hp : plan ops = some ss) : PlanOK ops ∧ ss.length = ops.length ∧ ∀ j, j < ops.length → ss[j]? = some (spanOf ops j) := by
  have e : plan ops = bif namesOk ops (masks ops []) && chainOk (esOf ops) (masks ops []) then some (spans (masks ops []) (esOf ops)) else none := rfl
  rw [e] at hp
  have hlen : (masks ops []).length = ops.length := by rw [(masks_take ops []).2]; simp
  cases hc : namesOk ops (masks ops []) && chainOk (esOf ops) (masks ops []) with
  | false => rw [hc] at hp; cases hp
  | true =>
    rw [hc] at hp
    injection hp with hp
    rw [Bool.and_eq_true] at hc
    obtain ⟨hn, hch⟩ := hc
    have hn : ∀ j o, ops[j]? = some o → (o.after.toList.all (fun e => not (bindsA e) || Nat.ble (Nat.succ e.on) j) && ops.zipIdx.all fun (p, i) => match p.dst with
      | some d => Nat.beq i j || !(namesOf ops o).any (Nat.beq d ·) || @Bool.rec (fun _ => Bool) (tb ((masks ops []).getD i 0) j) (tb ((masks ops []).getD j 0) i) (Nat.ble i j)
      | none => true) = true := fun j o ho => by
      unfold namesOk at hn
      rw [List.all_eq_true] at hn
      have hjl : j < ops.length := (List.getElem?_eq_some_iff.1 ho).1
      have hmem : ((o, j), (masks ops []).getD j 0) ∈ ops.zipIdx.zip (masks ops []) := by
        rw [List.mem_iff_getElem?]
        refine ⟨j, ?_⟩
        rw [List.getElem?_zip_eq_some]
        refine ⟨by rw [List.getElem?_zipIdx, ho]; simp, ?_⟩
        rw [List.getD_eq_getElem?_getD, List.getElem?_eq_getElem (by omega)]; rfl
      exact hn _ hmem
    have hback : Back ops := fun j o ho e he hb => by
      have := hn j o ho
      rw [Bool.and_eq_true] at this
      have := List.all_eq_true.1 this.1 e he
      rw [hb] at this
      exact (ble_iff _ _).1 (by simpa [not] using this)
    refine ⟨⟨hback, fun j o i p d ho hpi hd hm hne => ?_, fun i j a b ha hb hij => ?_⟩, ?_, fun j hj => ?_⟩
    · have := hn j o ho
      rw [Bool.and_eq_true] at this
      have hz : (p, i) ∈ ops.zipIdx := by
        rw [List.mem_iff_getElem?]
        exact ⟨i, by rw [List.getElem?_zipIdx, hpi]; simp⟩
      have := List.all_eq_true.1 this.2 (p, i) hz
      simp only [hd] at this
      have h1 : Nat.beq i j = false := by
        cases q : Nat.beq i j with
        | true => exact absurd ((beq_iff _ _).1 q) hne
        | false => rfl
      have h2 : (namesOf ops o).any (Nat.beq d ·) = true := List.any_eq_true.2 ⟨d, hm, (beq_iff _ _).2 rfl⟩
      rw [h1, h2] at this
      simp only [Bool.false_or, Bool.not_true] at this
      rw [brec_ble] at this
      split
      · next q => rw [if_pos q] at this; exact this
      · next q => rw [if_neg q] at this; exact this
    · have key : ∀ d i a b, (esOf ops)[i]? = some a → (esOf ops)[i + d + 1]? = some b → waits ops b a = true := by
        intro d
        induction d with
        | zero => intro i a b ha hb; exact chain_adj _ _ hch i a b ha hb
        | succ d ih =>
          intro i a b ha hb
          have hlt : i + d + 1 < (esOf ops).length := by have := (List.getElem?_eq_some_iff.1 hb).1; omega
          have hm := List.getElem?_eq_getElem hlt
          exact waits_trans hback b _ a (chain_adj _ _ hch (i + d + 1) _ b hm (by rw [← hb]; congr 1)) (ih i a _ ha hm)
      exact key (j - i - 1) i a b ha (by rw [← hb]; congr 1; omega)
    · rw [← hp]; unfold spans; simp [hlen]
    · rw [← hp]
      unfold spans
      have : (masks ops [])[j]? = some ((masks ops []).getD j 0) := by rw [List.getD_eq_getElem?_getD, List.getElem?_eq_getElem (by omega)]; rfl
      rw [List.getElem?_map, List.getElem?_zipIdx, this]
      simp only [Option.map_some]
      congr 1
      unfold spanOf waits
      simp
theorem filter_take {α : Type} (p : α → Bool) : ∀ (l : List α), (∀ (i j : Nat) (a b : α), l[i]? = some a → l[j]? = some b → i < j → p b = true → p a = true) → l.filter p = l.take (l.filter p).length
  | [], _ => rfl
  | x :: l, h => by
    have ih := filter_take p l fun i j a b h1 h2 h3 => h (i + 1) (j + 1) a b h1 h2 (by omega)
    by_cases hx : p x = true
    · rw [List.filter_cons_of_pos hx, List.length_cons, List.take_succ_cons, ← ih]
    · have : l.filter p = [] := List.filter_eq_nil_iff.2 fun y hy hpy => by
        obtain ⟨i, hi⟩ := List.mem_iff_getElem?.1 hy
        exact hx (h 0 (i + 1) x y rfl hi (by omega) hpy)
      rw [List.filter_cons_of_neg hx, this]; rfl
theorem filter_len_mono {α : Type} {p q : α → Bool} : ∀ (l : List α), (∀ x ∈ l, p x = true → q x = true) → (l.filter p).length ≤ (l.filter q).length
  | [], _ => Nat.le_refl _
  | x :: l, h => by
    have ih := filter_len_mono l fun y hy => h y (List.mem_cons_of_mem _ hy)
    by_cases hp : p x = true
    · rw [List.filter_cons_of_pos hp, List.filter_cons_of_pos (h x List.mem_cons_self hp)]
      exact Nat.succ_le_succ ih
    · rw [List.filter_cons_of_neg hp]
      by_cases hq : q x = true
      · rw [List.filter_cons_of_pos hq]; exact Nat.le_succ_of_le ih
      · rw [List.filter_cons_of_neg hq]; exact ih
theorem filter_len_eq {α : Type} {p q : α → Bool} : ∀ (l : List α), (∀ x ∈ l, p x = true → q x = true) → (l.filter p).length = (l.filter q).length → ∀ x ∈ l, q x = true → p x = true
  | [], _, _ => fun x hx => by cases hx
  | x :: l, h, e => by
    have hm := filter_len_mono l fun y hy => h y (List.mem_cons_of_mem _ hy)
    have hl : ∀ y ∈ l, p y = true → q y = true := fun y hy => h y (List.mem_cons_of_mem _ hy)
    intro y hy hqy
    by_cases hp : p x = true
    · rw [List.filter_cons_of_pos hp, List.filter_cons_of_pos (h x List.mem_cons_self hp), List.length_cons, List.length_cons] at e
      rcases List.mem_cons.1 hy with rfl | hy
      · exact hp
      · exact filter_len_eq l hl (by omega) y hy hqy
    · rw [List.filter_cons_of_neg hp] at e
      by_cases hq : q x = true
      · rw [List.filter_cons_of_pos hq, List.length_cons] at e; omega
      · rw [List.filter_cons_of_neg hq] at e
        rcases List.mem_cons.1 hy with rfl | hy
        · exact absurd hqy hq
        · exact filter_len_eq l hl e y hy hqy
theorem esOf_mem {ops : List Oper} {e : Nat} : e ∈ esOf ops ↔ ∃ o, ops[e]? = some o ∧ isE o.op = true := by
  unfold esOf
  rw [List.mem_map]
  constructor
  · rintro ⟨⟨o, i⟩, h1, rfl⟩
    obtain ⟨h2, h3⟩ := List.mem_filter.1 h1
    obtain ⟨k, hk⟩ := List.mem_iff_getElem?.1 h2
    rw [List.getElem?_zipIdx] at hk
    cases hq : ops[k]? with
    | none => rw [hq] at hk; cases hk
    | some p =>
      rw [hq] at hk
      simp only [Option.map_some, Option.some.injEq, Prod.mk.injEq] at hk
      obtain ⟨rfl, rfl⟩ := hk
      exact ⟨p, by simpa using hq, h3⟩
  · rintro ⟨o, h1, h2⟩
    refine ⟨(o, e), List.mem_filter.2 ⟨?_, h2⟩, rfl⟩
    rw [List.mem_iff_getElem?]
    exact ⟨e, by rw [List.getElem?_zipIdx, h1]; simp⟩
theorem zip_sorted (p : Oper × Nat → Bool) : ∀ (l : List Oper) (n : Nat), ((l.zipIdx n).filter p).map (·.2) = ((l.zipIdx n).filter p).map (·.2) ∧ List.Pairwise (· < ·) (((l.zipIdx n).filter p).map (·.2)) ∧ ∀ e ∈ ((l.zipIdx n).filter p).map (·.2), n ≤ e
  | [], n => ⟨rfl, .nil, fun e he => by simp at he⟩
  | o :: l, n => by
    obtain ⟨_, h1, h2⟩ := zip_sorted p l (n + 1)
    refine ⟨rfl, ?_, fun e he => ?_⟩
    · rw [List.zipIdx_cons]
      by_cases hp : p (o, n) = true
      · rw [List.filter_cons_of_pos hp, List.map_cons]
        exact .cons (fun e he => by have := h2 e he; show n < e; omega) h1
      · rw [List.filter_cons_of_neg hp]; exact h1
    · rw [List.zipIdx_cons] at he
      by_cases hp : p (o, n) = true
      · rw [List.filter_cons_of_pos hp, List.map_cons] at he
        rcases List.mem_cons.1 he with rfl | he
        · exact Nat.le_refl _
        · have := h2 e he; omega
      · rw [List.filter_cons_of_neg hp] at he
        have := h2 e he; omega
theorem es_lt {ops : List Oper} {i j a b : Nat} (ha : (esOf ops)[i]? = some a) (hb : (esOf ops)[j]? = some b) : i < j ↔ a < b := by
  have hs : List.Pairwise (· < ·) (esOf ops) := (zip_sorted (fun (o, _) => isE o.op) ops 0).2.1
  have key : ∀ i j a b, (esOf ops)[i]? = some a → (esOf ops)[j]? = some b → i < j → a < b := fun i j a b ha hb hij => by
    obtain ⟨h1, h2⟩ := List.getElem?_eq_some_iff.1 ha
    obtain ⟨h3, h4⟩ := List.getElem?_eq_some_iff.1 hb
    rw [← h2, ← h4]
    exact List.pairwise_iff_getElem.1 hs i j h1 h3 hij
  constructor
  · exact key i j a b ha hb
  · intro h
    rcases Nat.lt_trichotomy i j with q | q | q
    · exact q
    · subst q; rw [ha] at hb; injection hb with hb; omega
    · have := key j i b a hb ha q; omega
theorem vsL_eq : ∀ (l : List (Oper × Nat × Nat)) (H : Nat → HP) (n : Nat), vsL l (fun t => H (n + t)) = ((((l.map (·.1)).zipIdx n).filter (fun (o, _) => isE o.op)).map (·.2)).map H
  | [], H, n => rfl
  | x :: l, H, n => by
    have ih := vsL_eq l H (n + 1)
    have e : (fun t => H (n + (t + 1))) = fun t => H (n + 1 + t) := funext fun t => by rw [Nat.add_assoc, Nat.add_comm 1]
    unfold vsL
    rw [e, ih, List.map_cons, List.zipIdx_cons]
    by_cases q : isE x.1.op = true
    · rw [if_pos q, List.filter_cons_of_pos (by exact q)]; rfl
    · rw [if_neg q, List.filter_cons_of_neg (by exact q)]; rfl
theorem lkOk_get {x : Lk} : ∀ (vs : List HP) (n : Nat), lkOk vs n x = true → ∀ m h, vs[m]? = some h → x.a ≤ n + m → n + m ≤ x.b → x.t h = true
  | [], n, _, m, h, hm, _, _ => by simp at hm
  | g :: vs, n, hk, m, h, hm, h1, h2 => by
    have hk : @Bool.rec (fun _ => Bool) (lkOk vs (n + 1) x) (@Bool.rec (fun _ => Bool) false (lkOk vs (n + 1) x) (x.t g)) (@Bool.rec (fun _ => Bool) false (Nat.ble n x.b) (Nat.ble x.a n)) = true := hk
    have tail : lkOk vs (n + 1) x = true := by
      generalize (@Bool.rec (fun _ => Bool) false (Nat.ble n x.b) (Nat.ble x.a n)) = c at hk
      cases c with
      | false => exact hk
      | true =>
        have hk : @Bool.rec (fun _ => Bool) false (lkOk vs (n + 1) x) (x.t g) = true := hk
        cases q : x.t g with
        | true => rw [q] at hk; exact hk
        | false => rw [q] at hk; cases hk
    cases m with
    | zero =>
      injection hm with hm
      subst hm
      rw [(ble_iff _ _).2 (show x.a ≤ n from h1), (ble_iff _ _).2 (show n ≤ x.b from h2)] at hk
      have hk : @Bool.rec (fun _ => Bool) false (lkOk vs (n + 1) x) (x.t g) = true := hk
      cases q : x.t g with
      | true => rfl
      | false => rw [q] at hk; cases hk
    | succ m => exact lkOk_get vs (n + 1) tail m h hm (by omega) (by omega)
theorem lksOk_mem {vs : List HP} {x : Lk} : ∀ (l : List Lk), lksOk vs l = true → x ∈ l → lkOk vs 0 x = true
  | [], _, hx => by cases hx
  | y :: l, h, hx => by
    unfold lksOk at h
    rw [brec] at h
    split at h
    · next q =>
      rcases List.mem_cons.1 hx with rfl | hx
      · exact q
      · exact lksOk_mem l h hx
    · cases h
end Kv
end
end
section
noncomputable section
namespace Kv
open Go.RowKit
variable {P : Program}
theorem eqL_eq {f : AV → AV → Bool} (hf : ∀ a b, f a b = true → a = b) : ∀ (l m : List AV), eqL f l m = true → l = m
  | [], [], _ => rfl
  | [], b :: m, h => by cases h
  | a :: l, [], h => by cases h
  | a :: l, b :: m, h => by
    have h : (f a b && eqL f l m) = true := h
    rw [Bool.and_eq_true] at h
    rw [hf a b h.1, eqL_eq hf l m h.2]
theorem eqA_eq : ∀ (n : Nat) (a b : AV), eqA n a b = true → a = b
  | 0, _, _, h => by cases h
  | n + 1, a, b, h => by
    have ih := eqA_eq n
    unfold eqA at h
    split at h
    all_goals try simp only [Bool.and_eq_true, beq_iff] at h
    case h_1 x y => cases x <;> cases y <;> first | rfl | (cases h; done)
    case h_2 => obtain ⟨rfl, rfl⟩ := h; rfl
    case h_3 => rw [h]
    case h_4 => obtain ⟨rfl, rfl⟩ := h; rfl
    case h_5 => obtain ⟨rfl, rfl⟩ := h; rfl
    case h_6 => rfl
    case h_7 => obtain ⟨⟨⟨rfl, rfl⟩, rfl⟩, rfl⟩ := h; rfl
    case h_8 => obtain ⟨⟨⟨rfl, rfl⟩, rfl⟩, rfl⟩ := h; rfl
    case h_9 => rfl
    case h_10 => rfl
    case h_11 => rfl
    case h_12 => rfl
    case h_13 => obtain ⟨rfl, rfl⟩ := h; rfl
    case h_14 => rw [eqL_eq ih _ _ h]
    case h_15 => rw [eqL_eq ih _ _ h]
    case h_16 =>
      obtain ⟨⟨rfl, h1⟩, h2⟩ := h
      rw [eqL_eq ih _ _ h1, eqL_eq ih _ _ h2]
    case h_17 => cases h
theorem eqT_eq : ∀ (s t : RT AV), eqT s t = true → s = t
  | .l a, .l b, h => by rw [eqA_eq 4 a b h]
  | .l a, .n _ _ _, h => by cases h
  | .n _ _ _, .l _, h => by cases h
  | .n m x y, .n k z u, h => by
    have h : @Bool.rec (fun _ => Bool) false (@Bool.rec (fun _ => Bool) false (eqT y u) (eqT x z)) (Nat.beq m k) = true := h
    obtain ⟨h1, h2⟩ := and_split h
    obtain ⟨h3, h4⟩ := and_split h2
    rw [(beq_iff _ _).1 h1, eqT_eq x z h3, eqT_eq y u h4]
theorem eqB_eq (a b : Blk) (h : eqB a b = true) : a = b := by
  cases a <;> cases b <;> first | (cases h; done) | skip
  case row.row u n s v m t =>
    have h : @Bool.rec (fun _ => Bool) false (@Bool.rec (fun _ => Bool) false (eqT s t) (Nat.beq n m)) (Nat.beq u v) = true := h
    obtain ⟨h1, h2⟩ := and_split h
    obtain ⟨h3, h4⟩ := and_split h2
    rw [(beq_iff _ _).1 h1, (beq_iff _ _).1 h3, eqT_eq s t h4]
  case by.by l x m y =>
    have h : @Bool.rec (fun _ => Bool) false (Nat.beq x y) (Nat.beq l m) = true := h
    obtain ⟨h1, h2⟩ := and_split h
    rw [(beq_iff _ _).1 h1, (beq_iff _ _).1 h2]
  case si.si l x p m y q =>
    have h : @Bool.rec (fun _ => Bool) false (@Bool.rec (fun _ => Bool) false (Nat.beq p q) (Nat.beq x y)) (Nat.beq l m) = true := h
    obtain ⟨h1, h2⟩ := and_split h
    obtain ⟨h3, h4⟩ := and_split h2
    rw [(beq_iff _ _).1 h1, (beq_iff _ _).1 h3, (beq_iff _ _).1 h4]
def pushes (h : HP) (l : List Blk) : HP := l.foldl HP.push h
theorem pushes_n : ∀ (l : List Blk) (h : HP), (pushes h l).n = h.n + l.length
  | [], h => rfl
  | b :: l, h => by
    show (pushes (h.push b) l).n = _
    rw [pushes_n l, HP.push_n, List.length_cons]; omega
theorem pushes_wf : ∀ (l : List Blk) (h : HP), h.wf → (pushes h l).wf
  | [], h, hw => hw
  | b :: l, h, hw => pushes_wf l _ (HP.push_wf b hw)
theorem pushes_low : ∀ (l : List Blk) (h : HP), h.wf → ∀ i, i < h.n → (pushes h l).get i = h.get i
  | [], h, _, i, _ => rfl
  | b :: l, h, hw, i, hi => by
    show (pushes (h.push b) l).get i = _
    rw [pushes_low l _ (HP.push_wf b hw) i (by rw [HP.push_n]; omega), HP.get_push b hw, if_neg (by omega)]
theorem pushes_high : ∀ (l : List Blk) (h : HP), h.wf → ∀ i, (pushes h l).get (h.n + i) = (l[i]?).getD .dead
  | [], h, hw, i => HP.get_dead (Nat.le_add_right _ _)
  | b :: l, h, hw, 0 => by
    show (pushes (h.push b) l).get h.n = _
    rw [pushes_low l _ (HP.push_wf b hw) _ (by rw [HP.push_n]; omega), HP.get_push b hw, if_pos rfl]; rfl
  | b :: l, h, hw, i + 1 => by
    show (pushes (h.push b) l).get (h.n + (i + 1)) = _
    have := pushes_high l (h.push b) (HP.push_wf b hw) i
    rw [HP.push_n, Nat.add_right_comm] at this
    exact this
def adB (ops : List Oper) (H : Nat → HP) (t : Nat) : List Blk := match ops[t]? with
  | some o => if isE o.op = true then List.replicate ((H (t + 1)).n - (H t).n) .dead else if (H (t + 1)).n = (H t).n then [] else [(H (t + 1)).get (H t).n]
  | none => []
def tlB (ops : List Oper) (H : Nat → HP) : Nat → Nat → List Blk
  | 0, _ => []
  | k + 1, t => adB ops H t ++ tlB ops H k (t + 1)
def GG (ops : List Oper) (H : Nat → HP) (t : Nat) : HP := pushes (H t) (tlB ops H (ops.length - t) t)
section
variable {ops : List Oper} {H : Nat → HP} {Rr : Nat → RG} {V : Nat → AV}
structure HS (P : Program) (ops : List Oper) (Rr : Nat → RG) (H : Nat → HP) (V : Nat → AV) : Prop where
  wf : ∀ t, t ≤ ops.length → (H t).wf
  low : ∀ t, t ≤ ops.length → ∀ i, LowB (H t).n ((H t).get i)
  mono : ∀ t, t < ops.length → (H t).n ≤ (H (t + 1)).n
  reg : ∀ t, t ≤ ops.length → ∀ k, k < 512 → LowV (H t).n (getR (Rr t) k)
  step : ∀ t o, ops[t]? = some o → StepR P ops o (Rr t) (H t) (V t) (H (t + 1)) ∧ Rr (t + 1) = putR o.dst (Rr t) (V t)
theorem HS.le (hs : HS P ops Rr H V) : ∀ (d t : Nat), t + d ≤ ops.length → (H t).n ≤ (H (t + d)).n
  | 0, _, _ => Nat.le_refl _
  | d + 1, t, h => Nat.le_trans (hs.mono t (by omega)) (by have := hs.le d (t + 1) (by omega); rwa [Nat.add_right_comm] at this)
theorem HS.le' (hs : HS P ops Rr H V) {s t : Nat} (h : s ≤ t) (ht : t ≤ ops.length) : (H s).n ≤ (H t).n := by
  have := hs.le (t - s) s (by omega)
  rwa [show s + (t - s) = t by omega] at this
theorem GG_end : GG ops H ops.length = H ops.length := by unfold GG; rw [Nat.sub_self]; rfl
theorem GG_unfold {t : Nat} (ht : t < ops.length) : GG ops H t = pushes (pushes (H t) (adB ops H t)) (tlB ops H (ops.length - (t + 1)) (t + 1)) := by
  unfold GG
  obtain ⟨k, hk⟩ : ∃ k, ops.length - t = k + 1 := ⟨ops.length - t - 1, by omega⟩
  rw [hk, show ops.length - (t + 1) = k by omega]
  show (adB ops H t ++ tlB ops H k (t + 1)).foldl HP.push (H t) = _
  rw [List.foldl_append]; rfl
theorem GG_quiet (hs : HS P ops Rr H V) {t : Nat} {o : Oper} (ho : ops[t]? = some o) (he : isE o.op = false) : GG ops H t = GG ops H (t + 1) := by
  have ht := (List.getElem?_eq_some_iff.1 ho).1
  rw [GG_unfold ht]
  have hsr := (hs.step t o ho).1
  have hwf := hs.wf t (by omega)
  have e : adB ops H t = if (H (t + 1)).n = (H t).n then [] else [(H (t + 1)).get (H t).n] := by
    unfold adB
    rw [ho]
    simp only [he, Bool.false_eq_true, if_false]
  have : pushes (H t) (adB ops H t) = H (t + 1) := by
    rw [e]
    generalize V t = v at hsr
    generalize hq : H (t + 1) = h' at hsr ⊢
    cases hsr with
    | no _ => rw [if_pos rfl]; rfl
    | q _ _ _ _ => rw [if_pos rfl]; rfl
    | a b v _ _ _ _ _ =>
      rw [if_neg (by rw [HP.push_n]; omega), HP.get_push b hwf, if_pos rfl]; rfl
    | e v h' _ q _ => rw [he] at q; cases q
  rw [this]; rfl
theorem ad_len (hs : HS P ops Rr H V) {t : Nat} (ht : t < ops.length) : (H t).n + (adB ops H t).length = (H (t + 1)).n := by
  have hm := hs.mono t ht
  obtain ⟨o, ho⟩ : ∃ o, ops[t]? = some o := ⟨_, List.getElem?_eq_getElem ht⟩
  unfold adB
  rw [ho]
  simp only
  split
  · simp; omega
  · next he =>
    split
    · next q => rw [q]; rfl
    · next q =>
      have hsr := (hs.step t o ho).1
      generalize V t = v at hsr
      generalize hq : H (t + 1) = h' at hsr q ⊢
      cases hsr with
      | no _ => exact absurd rfl q
      | q _ _ _ _ => exact absurd rfl q
      | a b v _ _ _ _ _ => rw [HP.push_n]; rfl
      | e v h' _ z _ => exact absurd z he
theorem GG_n (hs : HS P ops Rr H V) : ∀ (k t : Nat), t + k = ops.length → (GG ops H t).n = (H ops.length).n
  | 0, t, h => by rw [show t = ops.length from h, GG_end]
  | k + 1, t, h => by
    have ih := GG_n hs k (t + 1) (by omega)
    have ht : t < ops.length := by omega
    rw [GG_unfold ht, pushes_n, pushes_n, ad_len hs ht, ← pushes_n]
    exact ih
theorem GG_wf (hs : HS P ops Rr H V) {t : Nat} (h : t ≤ ops.length) : (GG ops H t).wf := pushes_wf _ _ (hs.wf t h)
theorem GG_low (hs : HS P ops Rr H V) {t : Nat} (h : t ≤ ops.length) {i : Nat} (hi : i < (H t).n) : (GG ops H t).get i = (H t).get i := pushes_low _ _ (hs.wf t h) i hi
theorem GG_above (hs : HS P ops Rr H V) {t : Nat} (ht : t < ops.length) {i : Nat} (hi : (H (t + 1)).n ≤ i) : (GG ops H t).get i = (GG ops H (t + 1)).get i := by
  have hl := ad_len hs ht
  rw [GG_unfold ht]
  have hw := hs.wf t (by omega)
  have e1 := pushes_high (tlB ops H (ops.length - (t + 1)) (t + 1)) (pushes (H t) (adB ops H t)) (pushes_wf _ _ hw) (i - (H (t + 1)).n)
  have e2 := pushes_high (tlB ops H (ops.length - (t + 1)) (t + 1)) (H (t + 1)) (hs.wf (t + 1) (by omega)) (i - (H (t + 1)).n)
  rw [pushes_n, hl, show (H (t + 1)).n + (i - (H (t + 1)).n) = i by omega] at e1
  rw [show (H (t + 1)).n + (i - (H (t + 1)).n) = i by omega] at e2
  rw [e1]
  exact e2.symm
theorem GG_aboves (hs : HS P ops Rr H V) : ∀ (d t : Nat) {i : Nat}, t + d ≤ ops.length → (H (t + d)).n ≤ i → (GG ops H t).get i = (GG ops H (t + d)).get i
  | 0, _, _, _, _ => rfl
  | d + 1, t, i, h, hi => by
    have h1 := hs.le d (t + 1) (by omega)
    rw [show t + 1 + d = t + (d + 1) by omega] at h1
    rw [GG_above hs (by omega) (Nat.le_trans h1 hi)]
    have := GG_aboves hs d (t + 1) (i := i) (by omega) (by rw [show t + 1 + d = t + (d + 1) by omega]; exact hi)
    rw [show t + 1 + d = t + (d + 1) by omega] at this
    exact this
theorem GG_between (hs : HS P ops Rr H V) : ∀ (d t : Nat), t + d ≤ ops.length → (∀ e o, t ≤ e → e < t + d → ops[e]? = some o → isE o.op = false) → GG ops H t = GG ops H (t + d)
  | 0, _, _, _ => rfl
  | d + 1, t, h, hq => by
    obtain ⟨o, ho⟩ : ∃ o, ops[t]? = some o := ⟨_, List.getElem?_eq_getElem (by omega)⟩
    rw [GG_quiet hs ho (hq t o (Nat.le_refl _) (by omega) ho)]
    have := GG_between hs d (t + 1) (by omega) fun e o h1 h2 h3 => hq e o (by omega) (by omega) h3
    rw [show t + 1 + d = t + (d + 1) by omega] at this
    exact this
theorem GG_lowB (hs : HS P ops Rr H V) : ∀ (k t : Nat), t + k = ops.length → ∀ i, LowB (H ops.length).n ((GG ops H t).get i)
  | 0, t, h, i => by rw [show t = ops.length from h, GG_end]; exact hs.low _ (Nat.le_refl _) i
  | k + 1, t, h, i => by
    have ih := GG_lowB hs k (t + 1) (by omega) i
    have ht : t < ops.length := by omega
    have hn := hs.le' (s := t + 1) (t := ops.length) (by omega) (Nat.le_refl _)
    rcases Nat.lt_or_ge i (H t).n with h1 | h1
    · rw [GG_low hs (by omega) h1]
      exact (hs.low t (by omega) i).mono (Nat.le_trans (hs.mono t ht) hn)
    · rcases Nat.lt_or_ge i (H (t + 1)).n with h2 | h2
      · have hl := ad_len hs ht
        have hw := hs.wf t (by omega)
        have e1 : (GG ops H t).get i = (pushes (H t) (adB ops H t)).get i := by
          rw [GG_unfold ht, pushes_low _ _ (pushes_wf _ _ hw) i (by rw [pushes_n]; omega)]
        have e2 := pushes_high (adB ops H t) (H t) hw (i - (H t).n)
        rw [show (H t).n + (i - (H t).n) = i by omega] at e2
        rw [e1, e2]
        obtain ⟨o, ho⟩ : ∃ o, ops[t]? = some o := ⟨_, List.getElem?_eq_getElem ht⟩
        have hcase : ∀ x, x ∈ adB ops H t → LowB (H ops.length).n x := fun x hx => by
          unfold adB at hx
          rw [ho] at hx
          simp only at hx
          split at hx
          · rw [(List.mem_replicate.1 hx).2]; exact .inl rfl
          · split at hx
            · cases hx
            · rw [List.mem_singleton.1 hx]
              exact (hs.low (t + 1) (by omega) _).mono hn
        cases hx : (adB ops H t)[i - (H t).n]? with
        | none => exact .inl rfl
        | some x => exact hcase x (List.mem_of_getElem? hx)
      · rw [GG_above hs ht h2]; exact ih
def regL (ops : List Oper) (Rr : Nat → RG) (V : Nat → AV) (L : Nat → Bool) : Nat → RG
  | 0 => Rr 0
  | t + 1 => if L t = true then putR ((ops[t]?).bind (·.dst)) (regL ops Rr V L t) (V t) else regL ops Rr V L t
theorem putR_get {dst : Option Tmp} {r : RG} {v : AV} {k : Nat} (hd : ∀ d, dst = some d → d < 512) (hk : k < 512) : getR (putR dst r v) k = if dst = some k then v else getR r k := by
  cases dst with
  | none => rw [if_neg (by simp)]; rfl
  | some d =>
    show getR (setR r d v) k = _
    rw [getR_setR hk (hd d rfl)]
    by_cases e : k = d
    · subst e; rw [if_pos rfl, if_pos rfl]
    · rw [if_neg e, if_neg (fun h => e (by injection h with h; exact h.symm))]
theorem putR_congr {dst : Option Tmp} {r r' : RG} {v : AV} {k : Nat} (hd : ∀ d, dst = some d → d < 512) (hk : k < 512) (h : getR r k = getR r' k) : getR (putR dst r v) k = getR (putR dst r' v) k := by
  rw [putR_get hd hk, putR_get hd hk, h]
end
end Kv
end
end
end Go.Proofs.YtfkoaooceickiaaGreat
