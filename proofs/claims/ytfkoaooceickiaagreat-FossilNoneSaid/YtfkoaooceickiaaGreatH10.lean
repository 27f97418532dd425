/- Parts of the proof: Kvq Kvr Kvs Kvt Kvu. -/
import Derived.Test.YtfkoaooceickiaaGreatH09
set_option linter.all false
set_option maxRecDepth 100000
namespace Go.Proofs.YtfkoaooceickiaaGreat
section
noncomputable section
namespace Kv
open Go.RowKit
variable {P : Program}
section
variable {ρ : Ren} {w : World} {h : HP}
theorem unC_ok (op : UnOp) {a : AV} {a' : Value} (ha : VR ρ a a') (hu : (unC op).f a ≠ .un) : QS P ρ w (Op.unary op a') ((unC op).f a) := by
  cases op
  case not =>
    obtain ⟨b, rfl⟩ := onBl_ne hu
    obtain rfl := ha
    refine ⟨.bool (!b), rfl, ?_⟩
    show Value.bool _ = .bool (not b)
    rw [not_eq']
  case neg =>
    obtain ⟨c, x, rfl⟩ := onInt_ne hu
    obtain ⟨rfl, hx, hc⟩ := VR_int.1 ha
    refine ⟨.int (kindOf c) ((kindOf c).wrap (0 - toI c x)), rfl, VR_int.2 ⟨?_, Nat.mod_lt _ (mdN_pos c), hc⟩⟩
    congr 1
    refine wrap_of hc (Nat.mod_lt _ (mdN_pos c)) ?_
    show _ = (((mdN c - x) % mdN c : Nat) : Int)
    rw [natmod, Int.sub_emod, toI_emod, ← Int.sub_emod]
    have : ((mdN c - x : Nat) : Int) = 0 - (x : Int) + mdN c := by omega
    rw [this, Int.add_emod_right]
  case xor =>
    obtain ⟨c, x, rfl⟩ := onInt_ne hu
    obtain ⟨rfl, hx, hc⟩ := VR_int.1 ha
    have hp := mdN_pos c
    have e1 : ∀ b : BitVec (kindOf c).bits, b.toNat = mdN c - 1 - x → VR ρ (.int c (mdN c - 1 - x)) (.int (kindOf c) ((kindOf c).wrap b.toNat)) := fun b hb => by
      rw [hb]
      have h1 : mdN c - 1 - x < mdN c := by omega
      exact VR_int.2 ⟨by rw [wrap_nat hc h1], h1, hc⟩
    have e2 : BitVec.ofInt (kindOf c).bits (if (kindOf c).signed = true then -1 else (kindOf c).max) = BitVec.allOnes (kindOf c).bits := by
      rcases c8 hc with rfl | rfl | rfl | rfl | rfl | rfl | rfl | rfl <;> decide
    refine ⟨_, rfl, e1 (BitVec.ofInt _ (if (kindOf c).signed = true then -1 else (kindOf c).max) ^^^ BitVec.ofInt _ (toI c x)) ?_⟩
    rw [e2, BitVec.allOnes_xor, ofInt_toI hc hx, BitVec.toNat_not, ofNat_toNat hc hx, bits_eq hc, ← mdN_eq]
  case plus => exact absurd rfl hu
theorem mdN_dvd {c j : Nat} (hc : c < 8) (hj : j < 8) : (mdN j : Int) ∣ (mdN 7 : Int) := by
  rcases c8 hj with rfl | rfl | rfl | rfl | rfl | rfl | rfl | rfl <;> decide
theorem cvI_ok {c j x : Nat} (hc : c < 8) (hj : j < 8) (hx : x < mdN c) : (kindOf j).wrap (toI c x) = toI j (cvI c j x) ∧ cvI c j x < mdN j := by
  have e : cvI c j x = if hfN c ≤ x then (if sgnN c = true then (x + (mdN 7 - mdN c)) % mdN j else x % mdN j) else x % mdN j := by
    show @Bool.rec (fun _ => Nat) _ (@Bool.rec (fun _ => Nat) _ _ (sgnN c)) (Nat.ble (hfN c) x) = _
    rw [brec_ble, brec]; rfl
  have hlt : cvI c j x < mdN j := by
    rw [e]
    split
    · split <;> exact Nat.mod_lt _ (mdN_pos j)
    · exact Nat.mod_lt _ (mdN_pos j)
  refine ⟨wrap_of hj hlt ?_, hlt⟩
  have h7 : mdN c ≤ mdN 7 := by rcases c8 hc with rfl | rfl | rfl | rfl | rfl | rfl | rfl | rfl <;> decide
  rw [e]
  rcases toI_range hx with ⟨s1, h1, e1⟩ | ⟨e1, h1⟩
  · rw [if_pos h1, if_pos s1, natmod, e1]
    have h2 : ((x + (mdN 7 - mdN c) : Nat) : Int) = (x : Int) - mdN c + mdN 7 := by omega
    rw [h2, Int.add_emod, Int.emod_eq_zero_of_dvd (mdN_dvd hc hj), Int.add_zero, Int.emod_emod]
  · rw [e1]
    by_cases h2 : hfN c ≤ x
    · rw [if_pos h2, if_neg (fun hs => by have := h1 hs; omega), natmod]
    · rw [if_neg h2, natmod]
theorem onSlice_ne {v : AV} {φ : Nat → AV} (hu : onSlice v φ ≠ .un) : ∃ l, lenV v = some l ∧ onSlice v φ = φ l ∧ (∀ l x, v ≠ .str l x) := by cases v <;> first | exact ⟨_, rfl, rfl, (fun _ _ e => by cases e)⟩ | exact absurd rfl hu
theorem VR_slice {v : AV} {v' : Value} {l : Nat} (hv : VR ρ v v') (hl : lenV v = some l) (hs : ∀ l x, v ≠ .str l x) : ∃ a k, v' = .slice a l k := by
  cases v <;> first
    | (cases hl; done)
    | exact absurd rfl (hs _ _)
    | (injection hl with hl; subst hl; obtain rfl : _ = _ := hv; exact ⟨_, _, rfl⟩)
    | (injection hl with hl; subst hl; obtain ⟨_, _, rfl⟩ := hv; exact ⟨_, _, rfl⟩)
    | (injection hl with hl; subst hl; obtain ⟨_, _, _, rfl, _⟩ := hv; exact ⟨_, _, rfl⟩)
    | (injection hl with hl; subst hl; obtain ⟨_, _, _, _, rfl, _⟩ := hv; exact ⟨_, _, rfl⟩)
theorem conv_ok (hr : HR ρ h w) {s t : TypeId} {v : AV} {v' : Value} (hv : VR ρ v v') (hu : (convC P s t).f v h ≠ .un) : QS P ρ w (convert s t v') ((convC P s t).f v h) := by
  unfold convC at hu ⊢
  split at hu
  · next d k hs ht =>
    obtain ⟨c, x, rfl⟩ := onInt_ne hu
    obtain ⟨rfl, hx, hc⟩ := VR_int.1 hv
    obtain ⟨h1, h2⟩ := cvI_ok hc (knum_lt k) hx
    rw [kindOf_knum] at h1
    refine ⟨.int k (k.wrap (toI c x)), ?_, VR_int.2 ⟨?_, h2, knum_lt k⟩⟩
    · unfold convert
      rw [rb (r_underlying hs w), rb (r_underlying ht w)]; rfl
    · rw [kindOf_knum, h1]
  · next hs ht =>
    obtain ⟨l, x, rfl⟩ := onStr_ne hu
    obtain ⟨st, rfl, hst⟩ := hv
    refine ⟨.string st, ?_, st, rfl, hst⟩
    unfold convert
    rw [rb (r_underlying hs w), rb (r_underlying ht w)]; rfl
  · next e hs ht =>
    rw [brec] at hu ⊢
    by_cases he : isU8 P e = true
    · rw [if_pos he] at hu ⊢
      have he' := (isU8_iff e).1 he
      have hu : strC v h ≠ .un := hu
      show QS P ρ w _ (strC v h)
      obtain ⟨n, hl, e1, hns⟩ := onSlice_ne (v := v) (φ := fun l => @Bool.rec (fun _ => AV) (match srcOf h v l 1 true with | .b m y => .str m y | _ => .un) (.str 0 0) (Nat.beq l 0)) hu
      have e2 : strC v h = @Bool.rec (fun _ => AV) (match srcOf h v n 1 true with | .b m y => .str m y | _ => .un) (.str 0 0) (Nat.beq n 0) := e1
      rw [e2] at hu ⊢
      rw [brec_beq] at hu ⊢
      obtain ⟨a, k, rfl⟩ := VR_slice hv hl hns
      have hrun : (convert s t (.slice a n k)).run P w = (Conv.bytesToString (.slice a n k)).run P w := by
        cases a with
        | none =>
          unfold convert
          rw [rb (r_underlying hs w), rb (r_underlying ht w)]
          simp only
          rw [rb (r_underlying he' w)]
        | some a =>
          unfold convert
          rw [rb (r_underlying hs w), rb (r_underlying ht w)]
          simp only
          rw [rb (r_underlying he' w)]
      by_cases h0 : n = 0
      · rw [if_pos h0]
        subst h0
        refine ⟨.string .empty, ?_, .empty, rfl, rfl, by decide⟩
        rw [hrun]
        cases a with
        | none => rfl
        | some a => exact run_bytesToString w a 0 k [] rfl
      · rw [if_neg h0] at hu ⊢
        have hne : srcOf h v n 1 true ≠ .bad := fun e => by rw [e] at hu; exact hu rfl
        obtain ⟨cs, h1, h2⟩ := src_ok (P := P) hr (n := n) (c := 1) (u8 := true) (fun _ => rfl) (by omega) hv hl (Nat.le_refl n) (fun _ _ _ => rfl) hne
        generalize srcOf h v n 1 true = src at *
        cases src <;> first | (exact absurd rfl hu) | skip
        next m y =>
        obtain ⟨rfl, _, rfl, h5⟩ := h2
        cases a with
        | none =>
          have : (#[] : Array Value) = (byC m y).toArray := by
            have h1 : (Result.ok (#[] : Array Value) w) = .ok (byC m y).toArray w := h1
            injection h1
          have := congrArg Array.size this
          simp [byC_length] at this
          omega
        | some a =>
          have h1 : (loadCells a (m * 1)).run P w = .ok (byC m y).toArray w := h1
          rw [Nat.mul_one] at h1
          have h6 := run_bytesToString (P := P) w a m k ((bys m y).map fun b => ((b : Nat) : Int)) (by
            rw [h1]
            unfold byC
            rw [List.map_map]; rfl)
          refine ⟨_, by rw [hrun]; exact h6, _, rfl, ?_, h5⟩
          have hf : ∀ (l : List Nat) (s : ByteArray), (∀ b ∈ l, b < 256) → ((l.map fun b => ((b : Nat) : Int)).foldl (fun r n => r.push (UInt8.ofNat n.toNat)) s).data.toList.map UInt8.toNat = s.data.toList.map UInt8.toNat ++ l := by
            intro l
            induction l with
            | nil => intro s _; simp
            | cons b l ih =>
              intro s hl
              rw [List.map_cons, List.foldl_cons, ih _ fun c hc => hl c (List.mem_cons_of_mem _ hc)]
              simp [ByteArray.data_push, Nat.mod_eq_of_lt (hl b List.mem_cons_self)]
          have := hf (bys m y) .empty (bys_lt m y)
          simpa using this
    · rw [if_neg he] at hu; exact absurd rfl hu
  · exact absurd rfl hu
end
end Kv
end
end
section
noncomputable section
namespace Kv
open Go.RowKit
variable {P : Program}
section
variable {ρ : Ren} {w : World} {h : HP}
theorem part_ok {t : TypeId} {ty : Ty} (hty : tyOf P t = ty) {l : List AV} {cs : Array Value} (hl : VRs ρ l cs.toList) (hs : l.all sca = true) {p : Nat} (hu : ldU (.agg l) p ty ≠ .un) : QS P ρ w (part t cs p) (ldU (.agg l) p ty) := by
  have hn : tyOf P t ≠ .no := fun e => by rw [← hty, e] at hu; exact hu rfl
  obtain ⟨i, d, F⟩ := tyOf_ok hn
  rw [hty] at F
  have hlen := VRs.length _ _ hl
  rw [Array.length_toList] at hlen
  cases ty with
  | no => exact absurd rfl hu
  | sc z =>
    have e : ldU (.agg l) p (.sc z) = nth l p := rfl
    rw [e, nth_eq] at hu ⊢
    have hp : p < l.length := by
      rcases Nat.lt_or_ge p l.length with h | h
      · exact h
      · rw [List.getElem?_eq_none h] at hu; exact absurd rfl hu
    obtain ⟨x, y, e1, e2, e3⟩ := VRs.get p hl hp
    rw [e1]
    refine ⟨y, ?_, e3⟩
    unfold part
    rw [rb (r_isAgg F.hd w), show isAggD d = false from F.agg]
    simp only [Bool.false_eq_true, if_false]
    rw [← Array.getElem?_toList, e2]; rfl
  | ag c z =>
    have e : ldU (.agg l) p (.ag c z) = cellsA l p c (.agg l) := rfl
    rw [e] at hu ⊢
    obtain ⟨h1, h2⟩ := cellsA_ok hu
    rw [h2]
    refine ⟨.agg (cs.extract p (p + c)), ?_, _, rfl, ?_, all_sca_take _ (all_sca_drop _ hs)⟩
    · unfold part
      rw [rb (r_isAgg F.hd w), show isAggD d = true from F.agg]
      simp only [if_true]
      rw [rb (r_sizeOf F.hi w), show i.size = c from F.size]; rfl
    · have := (hl.drop p).take c
      have e3 : (cs.extract p (p + c)).toList = (cs.toList.drop p).take c := by
        rw [Array.toList_extract, List.extract_eq_take_drop]; congr 1; omega
      rw [e3]; exact this
  | ba n => exact absurd rfl hu
theorem fieldOf_ok {s f : Nat} {p : Nat} {ty : Ty} (hf : fieldOf P s f = some (p, ty)) : ∃ fs x, P.underlying s = some (.struct fs) ∧ fs[f]? = some x ∧ p = x.offset ∧ ty = tyOf P x.type := by
  unfold fieldOf at hf
  split at hf
  · next fs hs =>
    cases hx : fs[f]? with
    | none => rw [hx] at hf; cases hf
    | some x =>
      rw [hx] at hf
      injection hf with hf
      injection hf with h1 h2
      exact ⟨fs, x, hs, hx, h1.symm, h2.symm⟩
  · cases hf
theorem field_ok {s f p : Nat} {ty : Ty} (hf : fieldOf P s f = some (p, ty)) {v : AV} {v' : Value} (hv : VR ρ v v') (hu : onAggA v (fun l => ldU (.agg l) p ty) ≠ .un) : QS P ρ w (Instr.field s v' f) (onAggA v (fun l => ldU (.agg l) p ty)) := by
  obtain ⟨fs, x, h1, h2, rfl, rfl⟩ := fieldOf_ok hf
  obtain ⟨l, rfl⟩ := onAgg_ne hu
  obtain ⟨cs, rfl, h3, h4⟩ := hv
  obtain ⟨y, e1, e2⟩ := part_ok (P := P) (w := w) rfl h3 h4 hu
  refine ⟨y, ?_, e2⟩
  unfold Instr.field
  rw [rb (r_underlying h1 w)]
  simp only [h2]
  exact e1
theorem fieldAddr_ok {s f p : Nat} {ty : Ty} (hf : fieldOf P s f = some (p, ty)) (hc : ty.cells ≠ 0) {v : AV} {v' : Value} (hv : VR ρ v v') (hu : onPtrA v (fun i o => .ptr i (Nat.add o p)) ≠ .un) : QS P ρ w (Instr.fieldAt s v' f) (onPtrA v (fun i o => .ptr i (Nat.add o p))) := by
  obtain ⟨fs, x, h1, h2, rfl, rfl⟩ := fieldOf_ok hf
  obtain ⟨i, o, rfl⟩ := onPtr_ne hu
  obtain ⟨g, κ, hi0, rfl⟩ := hv
  obtain ⟨i0, d0, F⟩ := tyOf_ok (P := P) (t := x.type) (fun h => hc (by rw [h]; rfl))
  refine ⟨.pointer (some ⟨g, o + x.offset, none⟩), ?_, g, κ, hi0, rfl⟩
  unfold Instr.fieldAt
  rw [rb (r_underlying h1 w)]
  simp only [h2]
  rw [rb (show (Instr.sureAddr (.pointer (some ⟨g, o, none⟩))).run P w = .ok ⟨g, o, none⟩ w from rfl)]
  have : (fieldPlace ⟨g, o, none⟩ x).run P w = .ok ⟨g, o + x.offset, none⟩ w := by
    unfold fieldPlace
    rw [rb (size_ty F w), if_neg hc, add_at]; rfl
  rw [rb this]; rfl
theorem indexArr_ok {t e n : Nat} (hd : P.underlying t = some (.array n e)) (he : (tyOf P e).cells ≠ 0) {v y : AV} {v' y' : Value} (hv : VR ρ v v') (hy : VR ρ y y')
    (hu : onPtrA v (fun i o => onIdxA y (fun j => @Bool.rec (fun _ => AV) .un (.ptr i (Nat.add o (Nat.mul j (tyOf P e).cells))) (Nat.ble (Nat.succ j) n))) ≠ .un) : QS P ρ w (Instr.indexAt t v' y') (onPtrA v (fun i o => onIdxA y (fun j => @Bool.rec (fun _ => AV) .un (.ptr i (Nat.add o (Nat.mul j (tyOf P e).cells))) (Nat.ble (Nat.succ j) n)))) := by
  obtain ⟨i0, d0, F⟩ := tyOf_ok (P := P) (t := e) (fun h => he (by rw [h]; rfl))
  obtain ⟨i, o, rfl⟩ := onPtr_ne hu
  obtain ⟨g, κ, hi0, rfl⟩ := hv
  have e0 : ∀ φ : Nat → Nat → AV, onPtrA (.ptr i o) φ = φ i o := fun _ => rfl
  rw [e0] at hu ⊢
  obtain ⟨k, j, rfl, e1⟩ := idx_val hy hu
  rw [e1] at hu ⊢
  rw [brec_ble] at hu ⊢
  by_cases hj : Nat.succ j ≤ n
  · rw [if_pos hj]
    refine ⟨.pointer (some ⟨g, o + j * (tyOf P e).cells, none⟩), ?_, g, κ, hi0, rfl⟩
    unfold Instr.indexAt
    rw [rb (r_asIntOf k j w)]
    simp only
    rw [rb (r_underlying hd w)]
    simp only
    rw [rb (show (Instr.sureAddr (.pointer (some ⟨g, o, none⟩))).run P w = .ok ⟨g, o, none⟩ w from rfl)]
    rw [rb (x := (pure (some ⟨g, o, none⟩, n, e) : Sem (Option Addr × Nat × TypeId))) (a := (some ⟨g, o, none⟩, n, e)) (w' := w) rfl]
    simp only
    rw [rb (r_underlying hd w)]
    rw [if_pos ⟨by omega, by omega⟩]
    rw [rb (size_ty F w)]
    show Result.ok (Value.pointer (some (Addr.add _ _))) w = _
    rw [add_at]; rfl
  · rw [if_neg hj] at hu; exact absurd rfl hu
theorem onSl_ne {v : AV} {φ : Nat → Nat → Nat → AV} (hu : onSlA v φ ≠ .un) : ∃ i o l, onSlA v φ = φ i o l ∧ ∀ {ρ : Ren} {v' : Value}, VR ρ v v' → ∃ g κ c, ρ i = some (g, κ) ∧ v' = .slice (some ⟨g, o, none⟩) l c := by
  cases v <;> first
    | exact absurd rfl hu
    | exact ⟨_, _, _, rfl, fun ⟨g, κ, c, h1, h2, _⟩ => ⟨g, κ, c, h1, h2⟩⟩
    | exact ⟨_, _, _, rfl, fun ⟨g, κ, h1, h2, _⟩ => ⟨g, κ, _, h1, h2⟩⟩
theorem indexSl_ok {t e : Nat} (hd : P.underlying t = some (.slice e)) (he : (tyOf P e).cells ≠ 0) {v y : AV} {v' y' : Value} (hv : VR ρ v v') (hy : VR ρ y y')
    (hu : onSlA v (fun i o l => onIdxA y (fun j => @Bool.rec (fun _ => AV) .un (.ptr i (Nat.add o (Nat.mul j (tyOf P e).cells))) (Nat.ble (Nat.succ j) l))) ≠ .un) : QS P ρ w (Instr.indexAt t v' y') (onSlA v (fun i o l => onIdxA y (fun j => @Bool.rec (fun _ => AV) .un (.ptr i (Nat.add o (Nat.mul j (tyOf P e).cells))) (Nat.ble (Nat.succ j) l)))) := by
  obtain ⟨i0, d0, F⟩ := tyOf_ok (P := P) (t := e) (fun h => he (by rw [h]; rfl))
  obtain ⟨i, o, l, e0, hx⟩ := onSl_ne hu
  obtain ⟨g, κ, c, hi0, rfl⟩ := hx hv
  rw [e0] at hu ⊢
  obtain ⟨k, j, rfl, e1⟩ := idx_val hy hu
  rw [e1] at hu ⊢
  rw [brec_ble] at hu ⊢
  by_cases hj : Nat.succ j ≤ l
  · rw [if_pos hj]
    refine ⟨.pointer (some ⟨g, o + j * (tyOf P e).cells, none⟩), ?_, g, κ, hi0, rfl⟩
    unfold Instr.indexAt
    rw [rb (r_asIntOf k j w)]
    simp only
    rw [rb (r_underlying hd w)]
    simp only
    rw [rb (x := (pure (some ⟨g, o, none⟩, l, e) : Sem (Option Addr × Nat × TypeId))) (a := (some ⟨g, o, none⟩, l, e)) (w' := w) rfl]
    simp only
    rw [rb (r_underlying hd w)]
    rw [if_pos ⟨by omega, by omega⟩]
    rw [rb (size_ty F w)]
    show Result.ok (Value.pointer (some (Addr.add _ _))) w = _
    rw [add_at]; rfl
  · rw [if_neg hj] at hu; exact absurd rfl hu
theorem index_agg_ok {t e n : Nat} (hd : P.underlying t = some (.array n e)) (he : (tyOf P e).cells ≠ 0) {v y : AV} {v' y' : Value} (hv : VR ρ v v') (hy : VR ρ y y')
    (hu : onAggA v (fun l => onIdxA y (fun j => @Bool.rec (fun _ => AV) .un (ldU (.agg l) (Nat.mul j (tyOf P e).cells) (tyOf P e)) (Nat.ble (Nat.succ j) n))) ≠ .un) : QS P ρ w (Instr.index t v' y') (onAggA v (fun l => onIdxA y (fun j => @Bool.rec (fun _ => AV) .un (ldU (.agg l) (Nat.mul j (tyOf P e).cells) (tyOf P e)) (Nat.ble (Nat.succ j) n)))) := by
  obtain ⟨i0, d0, F⟩ := tyOf_ok (P := P) (t := e) (fun h => he (by rw [h]; rfl))
  obtain ⟨l, rfl⟩ := onAgg_ne hu
  obtain ⟨cs, rfl, h3, h4⟩ := hv
  have e0 : ∀ φ : List AV → AV, onAggA (.agg l) φ = φ l := fun _ => rfl
  rw [e0] at hu ⊢
  obtain ⟨k, j, rfl, e1⟩ := idx_val hy hu
  rw [e1] at hu ⊢
  rw [brec_ble] at hu ⊢
  by_cases hj : Nat.succ j ≤ n
  · rw [if_pos hj] at hu ⊢
    obtain ⟨x, e2, e3⟩ := part_ok (P := P) (w := w) rfl h3 h4 hu
    refine ⟨x, ?_, e3⟩
    unfold Instr.index
    rw [rb (r_asIntOf k j w)]
    simp only
    rw [rb (r_underlying hd w)]
    simp only
    rw [if_pos ⟨by omega, by omega⟩]
    rw [rb (size_ty F w)]
    exact e2
  · rw [if_neg hj] at hu; exact absurd rfl hu
theorem index_str_ok {t : Nat} (hd : P.underlying t = some .string) {v y : AV} {v' y' : Value} (hv : VR ρ v v') (hy : VR ρ y y')
    (hu : onStrA v (fun l z => onIdxA y (fun j => @Bool.rec (fun _ => AV) .un (.int 4 (byt l z j)) (Nat.ble (Nat.succ j) l))) ≠ .un) : QS P ρ w (Instr.index t v' y') (onStrA v (fun l z => onIdxA y (fun j => @Bool.rec (fun _ => AV) .un (.int 4 (byt l z j)) (Nat.ble (Nat.succ j) l)))) := by
  obtain ⟨l, z, rfl⟩ := onStr_ne hu
  obtain ⟨s, rfl, hs⟩ := hv
  have e0 : ∀ φ : Nat → Nat → AV, onStrA (.str l z) φ = φ l z := fun _ => rfl
  rw [e0] at hu ⊢
  obtain ⟨k, j, rfl, e1⟩ := idx_val hy hu
  rw [e1] at hu ⊢
  rw [brec_ble] at hu ⊢
  by_cases hj : Nat.succ j ≤ l
  · rw [if_pos hj]
    have hz := SR_size hs
    have hlt : j < s.size := by omega
    refine ⟨.int .u8 ((s[j]'hlt).toNat : Nat), ?_, ?_⟩
    · unfold Instr.index
      rw [rb (r_asIntOf k j w)]
      simp only
      rw [rb (r_underlying hd w)]
      simp only
      rw [if_pos (show (0 : Int) ≤ (j : Nat) by omega)]
      have : s[((j : Nat) : Int).toNat]? = some (s[j]'hlt) := by
        show s[j]? = _
        exact getElem?_pos s j hlt
      rw [this]; rfl
    · have e3 : (s.data.toList.map UInt8.toNat)[j]? = (bys l z)[j]? := by rw [hs.1]
      rw [bys_byt (show j < l by omega), List.getElem?_map] at e3
      have e4 : s.data.toList[j]? = some (s[j]'hlt) := by
        rw [Array.getElem?_toList]
        exact Array.getElem?_eq_getElem hlt
      rw [e4] at e3
      injection e3 with e3
      rw [e3]
      exact VR_byte ρ (byt_lt l z j)
  · rw [if_neg hj] at hu; exact absurd rfl hu
theorem lenN_ok {n : Nat} (hu : lenN n ≠ .un) : VR ρ (lenN n) (goInt (n : Nat)) := by
  have e : lenN n = if n ≤ 1000000000 then .int 3 n else .un := brec_ble _ _ _ _
  rw [e] at hu ⊢
  by_cases hn : n ≤ 1000000000
  · rw [if_pos hn]
    have h1 : n < mdN 3 := Nat.lt_of_le_of_lt hn (by decide)
    refine VR_int.2 ⟨?_, h1, by decide⟩
    show Value.int .i64 (n : Nat) = .int .i64 (toI 3 n)
    rw [toI_nat h1 (fun _ => Nat.lt_of_le_of_lt hn (by decide))]
  · rw [if_neg hn] at hu; exact absurd rfl hu
theorem len_ok {t : TypeId} {ts : Array TypeId} (ht : ts[0]? = some t) {v : AV} {v' : Value} (hv : VR ρ v v') (hu : (lenC P t).f v ≠ .un) (ty : TypeId) : QS P ρ w (Builtin.len_ ts ty #[v']) ((lenC P t).f v) := by
  unfold lenC at hu ⊢
  split at hu
  · next hd =>
    obtain ⟨l, x, rfl⟩ := onStr_ne hu
    obtain ⟨s, rfl, hs⟩ := hv
    have hu : lenN l ≠ .un := hu
    refine ⟨goInt s.size, ?_, ?_⟩
    · unfold Builtin.len_
      simp only [ht]
      show ((underlying t) >>= _).run P w = _
      rw [rb (r_underlying hd w)]; rfl
    · rw [SR_size hs]; exact lenN_ok hu
  · next e hd =>
    obtain ⟨l, h1, h2, h3⟩ := onSlice_ne hu
    obtain ⟨a, k, rfl⟩ := VR_slice hv h1 h3
    have hu : onSlice v lenN ≠ .un := hu
    refine ⟨goInt l, ?_, ?_⟩
    · unfold Builtin.len_
      simp only [ht]
      show ((underlying t) >>= _).run P w = _
      rw [rb (r_underlying hd w)]; rfl
    · show VR ρ (onSlice v lenN) _
      rw [h2] at hu ⊢
      exact lenN_ok hu
  · exact absurd rfl hu
theorem cap_ok {t : TypeId} {ts : Array TypeId} (ht : ts[0]? = some t) {v : AV} {v' : Value} (hv : VR ρ v v') (hu : (capC P t).f v ≠ .un) (ty : TypeId) : QS P ρ w (Builtin.cap_ ts ty #[v']) ((capC P t).f v) := by
  unfold capC at hu ⊢
  split at hu
  · next e hd =>
    have hr : ∀ a l k, v' = .slice a l k → (Builtin.cap_ ts ty #[v']).run P w = .ok (goInt k) w := fun a l k ev => by
      subst ev
      unfold Builtin.cap_
      simp only [ht]
      show ((underlying t) >>= _).run P w = _
      rw [rb (r_underlying hd w)]; rfl
    cases v
    case nils =>
      obtain rfl := hv
      have hu : lenN 0 ≠ .un := hu
      exact ⟨goInt (0 : Nat), hr _ _ _ rfl, (show VR ρ (lenN 0) _ from lenN_ok hu)⟩
    case sl i o l c =>
      obtain ⟨g, κ, _, rfl, _⟩ := hv
      have hu : lenN c ≠ .un := hu
      exact ⟨goInt c, hr _ _ _ rfl, (show VR ρ (lenN c) _ from lenN_ok hu)⟩
    all_goals exact absurd rfl hu
  · exact absurd rfl hu
end
end Kv
end
end
section
noncomputable section
namespace Kv
open Go.RowKit
variable {P : Program}
section
variable {ρ : Ren} {w : World} {h : HP}
theorem mxC_ok {f : Nat → Nat → Bool} {m2 : Value → Value → Sem Value} (hf : ∀ c x y, c < 8 → x < mdN c → y < mdN c → ∀ w : World, (m2 (.int (kindOf c) (toI c x)) (.int (kindOf c) (toI c y))).run P w = .ok (.int (kindOf c) (if f (ordN c x) (ordN c y) = true then toI c y else toI c x)) w) {a b : AV} {a' b' : Value} (ha : VR ρ a a') (hb : VR ρ b b') (hu : (maxC f).f a b ≠ .un) : QS P ρ w (m2 a' b') ((maxC f).f a b) := by
  obtain ⟨c, x, rfl⟩ := onInt_ne hu
  have hu' : onIntA b (fun j y => @Bool.rec (fun _ => AV) .un (@Bool.rec (fun _ => AV) (.int c x) (.int c y) (f (Nat.mod (Nat.add x (hfN c)) (mdN c)) (Nat.mod (Nat.add y (hfN c)) (mdN c)))) (Nat.beq c j)) ≠ .un := hu
  obtain ⟨j, y, rfl⟩ := onInt_ne hu'
  have e : (maxC f).f (.int c x) (.int j y) = if c = j then (if f ((x + hfN c) % mdN c) ((y + hfN c) % mdN c) = true then .int c y else .int c x) else .un := by
    show @Bool.rec (fun _ => AV) .un (@Bool.rec (fun _ => AV) (.int c x) (.int c y) (f (Nat.mod (Nat.add x (hfN c)) (mdN c)) (Nat.mod (Nat.add y (hfN c)) (mdN c)))) (Nat.beq c j) = _
    rw [brec_beq, brec]; rfl
  clear hu'
  rw [e] at hu ⊢
  by_cases hcj : c = j
  · subst hcj
    rw [if_pos rfl]
    obtain ⟨rfl, hx, hc⟩ := VR_int.1 ha
    obtain ⟨rfl, hy, _⟩ := VR_int.1 hb
    have hh := hfN_le c
    have o1 : ∀ z, z < mdN c → (z + hfN c) % mdN c = ordN c z := fun z hz => by
      unfold ordN
      by_cases hs : sgnN c = true
      · rw [if_pos hs]
      · rw [if_neg hs]
        rw [if_neg hs] at hh
        rw [show z + hfN c = z by omega, Nat.mod_eq_of_lt hz]
    rw [o1 x hx, o1 y hy]
    refine ⟨_, hf c x y hc hx hy w, ?_⟩
    by_cases hff : f (ordN c x) (ordN c y) = true
    · rw [if_pos hff, if_pos hff]; exact VR_int.2 ⟨rfl, hy, hc⟩
    · rw [if_neg hff, if_neg hff]; exact VR_int.2 ⟨rfl, hx, hc⟩
  · rw [if_neg hcj] at hu; exact absurd rfl hu
theorem max2_ok (c x y : Nat) (hc : c < 8) (hx : x < mdN c) (hy : y < mdN c) (w : World) : (Builtin.max2 (.int (kindOf c) (toI c x)) (.int (kindOf c) (toI c y))).run P w = .ok (.int (kindOf c) (if Nat.ble (Nat.succ (ordN c x)) (ordN c y) = true then toI c y else toI c x)) w := by
  have h1 := ordN_lt hx hy
  unfold Builtin.max2
  simp only
  rw [rp]
  congr 2
  by_cases h : toI c y > toI c x
  · rw [if_pos h, if_pos ((ble_iff _ _).2 (h1.1 h))]
  · rw [if_neg h, if_neg (fun k => h (h1.2 ((ble_iff _ _).1 k)))]
theorem min2_ok (c x y : Nat) (hc : c < 8) (hx : x < mdN c) (hy : y < mdN c) (w : World) : (Builtin.min2 (.int (kindOf c) (toI c x)) (.int (kindOf c) (toI c y))).run P w = .ok (.int (kindOf c) (if Nat.ble (Nat.succ (ordN c y)) (ordN c x) = true then toI c y else toI c x)) w := by
  have h1 := ordN_lt hy hx
  unfold Builtin.min2
  simp only
  rw [rp]
  congr 2
  by_cases h : toI c y < toI c x
  · rw [if_pos h, if_pos ((ble_iff _ _).2 (h1.1 h))]
  · rw [if_neg h, if_neg (fun k => h (h1.2 ((ble_iff _ _).1 k)))]
theorem fold2 (m2 : Value → Value → Sem Value) (x y : Value) {v : Value} (h : (m2 x y).run P w = .ok v w) : ([y].foldlM m2 x).run P w = .ok v w := by
  simp only [List.foldlM_cons, List.foldlM_nil]
  rw [rb h]; rfl
theorem setfold : ∀ (vs : List Value) (k o : Nat) (c : Array Value), o + k + vs.length ≤ c.size → (vs.zipIdx k).foldl (fun cs (x : Value × Nat) => cs.setIfInBounds (o + x.2) x.1) c = splC c (o + k) vs
  | [], k, o, c, h => by rw [splC_nil]; rfl
  | v :: vs, k, o, c, h => by
    rw [List.zipIdx_cons, List.foldl_cons]
    have h' : o + k + (vs.length + 1) ≤ c.size := h
    rw [setfold vs (k + 1) o _ (by simp; omega)]
    rw [← splC_cons c (o + k) v vs (by omega)]; rfl
theorem arr_zipfold (vs : Array Value) (o : Nat) (c : Array Value) (h : o + vs.size ≤ c.size) : vs.zipIdx.foldl (fun cs (x : Value × Nat) => cs.setIfInBounds (o + x.2) x.1) c = splC c o vs.toList := by
  rw [← Array.foldl_toList, Array.toList_zipIdx]
  exact setfold vs.toList 0 o c (by simpa using h)
theorem mapM_ok {α β : Type} (f : α → Sem β) (g : α → β) : ∀ l : List α, (∀ x ∈ l, (f x).run P w = .ok (g x) w) → (l.mapM f).run P w = .ok (l.map g) w
  | [], _ => rfl
  | x :: l, h => by
    rw [List.mapM_cons, rb (h x List.mem_cons_self), rb (mapM_ok f g l fun y hy => h y (List.mem_cons_of_mem _ hy))]; rfl
theorem amapM_ok {α β : Type} (f : α → Sem β) (g : α → β) (l : Array α) (h : ∀ x ∈ l.toList, (f x).run P w = .ok (g x) w) : (l.mapM f).run P w = .ok (l.map g) w := by
  have h1 := mapM_ok (P := P) (w := w) f g l.toList h
  rw [← Array.toList_mapM] at h1
  have h2 : ((fun a => a.toList) <$> l.mapM f) = (l.mapM f >>= fun a => pure a.toList) := by rw [bind_pure_comp]
  rw [h2] at h1
  have h3 : ((l.mapM f >>= fun a => pure a.toList : Sem (List β))).run P w = _ := Sem.run_bind' P (l.mapM f) (fun a => (pure a.toList : Sem (List β))) w
  rw [h1] at h3
  cases h4 : (l.mapM f).run P w with
  | ok b w' =>
    rw [h4] at h3
    have h3 : Result.ok (l.toList.map g) w = .ok b.toList w' := h3
    injection h3 with h5 h6
    subst h6
    congr 1
    apply Array.ext'
    rw [← h5, Array.toList_map]
  | halt x w' =>
    rw [h4] at h3
    cases h3
theorem fill_ok {r : RG} {a : Act} (rr : RR ρ r a) (place : Nat → Option (Nat × Nat)) : ∀ (ps : List (Nat × Operand)) (c : List AV) (cs : Array Value), VRs ρ c cs.toList → c.all sca = true → (fillP P place ps).f r c ≠ [] →
    ∃ cs', Instr.fill place cs (ps.map fun (i, x) => (i, a.eval x)) = some cs' ∧ VRs ρ ((fillP P place ps).f r c) cs'.toList ∧ ((fillP P place ps).f r c).all sca = true
  | [], c, cs, hc, hs, _ => ⟨cs, rfl, hc, hs⟩
  | (i, x) :: ps, c, cs, hc, hs, hne => by
    have e : (fillP P place ((i, x) :: ps)).f r c = match place i with
        | none => []
        | some (o, n) => if size ((argC x).f r) = n then (if o + n ≤ c.length then (if (cellsL ((argC x).f r)).all sca = true then (fillP P place ps).f r (splL c o (cellsL ((argC x).f r))) else []) else []) else [] := by
      rw [fillP]
      cases place i with
      | none => rfl
      | some p =>
        obtain ⟨o, n⟩ := p
        simp only [bxrec, brec_beq, brec_ble]
        simp only [brec, len_eq, spl_splL, allSca_eq]; rfl
    rw [e] at hne ⊢
    rw [List.map_cons]
    unfold Instr.fill
    cases hp : place i with
    | none => rw [hp] at hne; exact absurd rfl hne
    | some p =>
      obtain ⟨o, n⟩ := p
      rw [hp] at hne
      simp only at hne ⊢
      by_cases h1 : size ((argC x).f r) = n
      · rw [if_pos h1] at hne ⊢
        by_cases h2 : o + n ≤ c.length
        · rw [if_pos h2] at hne ⊢
          by_cases h3 : (cellsL ((argC x).f r)).all sca = true
          · rw [if_pos h3] at hne ⊢
            have hu : (argC x).f r ≠ .un := fun e => by rw [e] at h3; cases h3
            have ht : ∀ l, (argC x).f r ≠ .tup l := fun l e => by rw [e] at h3; cases h3
            obtain ⟨k1, k2, k3, k4⟩ := VR_size (arg_ok rr x hu) ht
            have hlc := VRs.length _ _ hc
            rw [Array.length_toList] at k2
            have hcs := Array.length_toList (xs := cs)
            rw [if_neg (by simp only [ne_eq, Bool.or_eq_true, decide_eq_true_eq, not_or]; omega)]
            rw [arr_zipfold _ _ _ (by omega)]
            refine fill_ok rr place ps _ _ ?_ (all_sca_spl hs k3) hne
            rw [splC_eq]
            exact hc.spl k1
          · rw [if_neg h3] at hne; exact absurd rfl hne
        · rw [if_neg h2] at hne; exact absurd rfl hne
      · rw [if_neg h1] at hne; exact absurd rfl hne
end
end Kv
end
end
section
noncomputable section
namespace Kv
open Go.RowKit
variable {P : Program}
section
variable {ρ : Ren} {w : World} {h : HP} {r : RG} {a : Act}
theorem vq {s : Sem Value} {x : AV} (hq : QS P ρ w s x) : ∃ v, ((do pure (Next.value (← s))) : Sem Next).run P w = .ok (.value v) w ∧ VR ρ x v := by
  obtain ⟨v, h1, h2⟩ := hq
  exact ⟨v, by rw [rb h1]; rfl, h2⟩
theorem oarg_ok (rr : RR ρ r a) (x : Option Operand) : OR ρ ((oargC x).f r) (x.map a.eval) := by
  cases x with
  | none => trivial
  | some x =>
    have e : (oargC (some x)).f r = some ((argC x).f r) := by simp only [oargC, bxrec]
    rw [e]
    exact fun hu => arg_ok rr x hu
theorem args_len (l : List Operand) : True := trivial
theorem load_ok (hr : HR ρ h w) {t : TypeId} {x : AV} {x' : Value} (hx : VR ρ x x') (hu : onPtrA x (fun i o => (ldC (tyOf P t)).f (h.get i) o) ≠ .un) : QS P ρ w (Instr.loadAt t x') (onPtrA x (fun i o => (ldC (tyOf P t)).f (h.get i) o)) := by
  obtain ⟨i, o, rfl⟩ := onPtr_ne hu
  obtain ⟨g, κ, hi0, rfl⟩ := hx
  have hu : (ldC (tyOf P t)).f (h.get i) o ≠ .un := hu
  have hn : tyOf P t ≠ .no := fun e => by
    rw [e] at hu
    cases hg : h.get i <;> rw [hg] at hu <;> first
      | exact hu rfl
      | (apply hu
         refine (brec_ble _ _ _ _).trans ?_
         split <;> rfl)
  obtain ⟨i0, d0, F⟩ := tyOf_ok hn
  obtain ⟨_, ob, h1, h2⟩ := hr.at_ i g κ hi0
  exact ld_ok F h1 h2 hu
theorem ptr_arg {x : AV} {φ : Nat → Nat → AV} (hu : onPtrA x φ ≠ .un) : x ≠ .un := fun e => by rw [e] at hu; exact hu rfl
theorem build_ok (rr : RR ρ r a) (t : TypeId) (ps : Array (Nat × Operand)) (hu : (buildC P t ps.toList).f r ≠ .un) : QS P ρ w (Instr.build t (ps.map fun (i, x) => (i, a.eval x))) ((buildC P t ps.toList).f r) := by
  have hn : tyOf P t ≠ .no := fun e => by unfold buildC at hu; rw [e] at hu; exact hu rfl
  obtain ⟨i0, d0, F⟩ := tyOf_ok hn
  obtain ⟨z, hz, hzv, hzu⟩ := F.zero
  have hZ : (Instr.build t (ps.map fun (i, x) => (i, a.eval x))).run P w = (do
      match ← underlying t with
      | .struct fields =>
        let places ← fields.mapM fun f => do pure (f.offset, ← sizeOf f.type)
        let some cells := Instr.fill (places[·]?) z.cells (ps.map fun (i, x) => (i, a.eval x)).toList | stuck "build: no such field, or a part of the wrong size"
        pure (.agg cells)
      | .array _ elem =>
        let size ← sizeOf elem
        let some cells := Instr.fill (fun i => some (i * size, size)) z.cells (ps.map fun (i, x) => (i, a.eval x)).toList | stuck "build: a part of the wrong size"
        pure (.agg cells)
      | _ => stuck "build: struct or array type expected" : Sem Value).run P w := by
    unfold Instr.build
    rw [rb (r_zeroValue F.hi hz w)]
    rfl
  have hpl : (ps.map fun (i, x) => (i, a.eval x)).toList = ps.toList.map fun (i, x) => (i, a.eval x) := by simp
  unfold buildC at hu ⊢
  split at hu
  · next n hty =>
    rw [hty] at F hzv hzu
    split at hu
    · next hps =>
      obtain ⟨e, hd, he⟩ := F.ba n rfl
      subst hd
      have he' := (isU8_iff e).1 he
      obtain ⟨ie, hie⟩ : ∃ ie, P.info? e = some ie := by
        unfold Program.underlying at he'
        cases hx : P.info? e with
        | none => rw [hx] at he'; cases he'
        | some ie => exact ⟨ie, rfl⟩
      refine ⟨.agg z.cells, ?_, z.cells, rfl, ?_, Nat.pow_pos (by omega)⟩
      · unfold QS at *
        rw [hZ, rb (r_underlying F.hd w)]
        simp only
        rw [rb (r_sizeOf hie w), hpl, hps]; rfl
      · exact VRs_bytes_inv (hzu ρ).vs
    · exact absurd rfl hu
  · next n z0 hty =>
    rw [hty] at F hzv hzu
    have hzl : VRs ρ z0 z.cells.toList := (hzu ρ).vs
    have hzs : z0.all sca = true := (hzu ρ).sc
    have fin : ∀ (place : Nat → Option (Nat × Nat)), fixN n ((fillP P place ps.toList).f r z0) ≠ .un → ∃ cs', Instr.fill place z.cells (ps.toList.map fun (i, x) => (i, a.eval x)) = some cs' ∧ VR ρ (fixN n ((fillP P place ps.toList).f r z0)) (.agg cs') := fun place hu => by
      have e : fixN n ((fillP P place ps.toList).f r z0) = if ((fillP P place ps.toList).f r z0).length = n then .agg ((fillP P place ps.toList).f r z0) else .un := by
        show @Bool.rec (fun _ => AV) _ _ _ = _
        rw [brec_beq, len_eq]
      rw [e] at hu ⊢
      by_cases hl : ((fillP P place ps.toList).f r z0).length = n
      · rw [if_pos hl]
        have hp : 0 < n := F.pos
        have hne : (fillP P place ps.toList).f r z0 ≠ [] := fun e => by rw [e] at hl; simp at hl; omega
        obtain ⟨cs', h1, h2, h3⟩ := fill_ok rr place ps.toList z0 z.cells hzl hzs hne
        exact ⟨cs', h1, cs', rfl, h2, h3⟩
      · rw [if_neg hl] at hu; exact absurd rfl hu
    split at hu
    · next k e hae =>
      have hd : P.underlying t = some (.array k e) := by
        unfold arrOf at hae
        split at hae
        · next n' e' h => injection hae with hae; injection hae with h1 h2; subst h1; subst h2; exact h
        · cases hae
      rw [brec_beq] at hu ⊢
      by_cases hc : (tyOf P e).cells = 0
      · rw [if_pos hc] at hu; exact absurd rfl hu
      · rw [if_neg hc, bxrec] at hu ⊢
        obtain ⟨i1, d1, F1⟩ := tyOf_ok (P := P) (t := e) (fun h => hc (by rw [h]; rfl))
        obtain ⟨cs', h1, h2⟩ := fin _ hu
        refine ⟨.agg cs', ?_, h2⟩
        rw [hZ, rb (r_underlying hd w)]
        simp only
        rw [rb (size_ty F1 w), hpl]
        have : (fun i => some (i * (tyOf P e).cells, (tyOf P e).cells)) = placeA (tyOf P e).cells := rfl
        rw [this, h1]; rfl
    · next hae =>
      rw [brec] at hu ⊢
      by_cases hf : fieldsOk P t = true
      · rw [if_pos hf, bxrec] at hu ⊢
        obtain ⟨cs', h1, h2⟩ := fin _ hu
        unfold fieldsOk at hf
        split at hf
        · next fs hd =>
          have hall : ∀ l : List Field, allL (hasI P) l = true → ∀ x ∈ l, ∃ i, P.info? x.type = some i := by
            intro l
            induction l with
            | nil => intro _ x hx; cases hx
            | cons y l ih =>
              intro hl x hx
              have hl : @Bool.rec (fun _ => Bool) false (allL (hasI P) l) (hasI P y) = true := hl
              rw [brec] at hl
              by_cases hy : hasI P y = true
              · rw [if_pos hy] at hl
                rcases List.mem_cons.1 hx with rfl | hx
                · unfold hasI at hy
                  cases hi : P.info? x.type with
                  | none => rw [hi] at hy; cases hy
                  | some i => exact ⟨i, rfl⟩
                · exact ih hl x hx
              · rw [if_neg hy] at hl; cases hl
          have hm := amapM_ok (P := P) (w := w) (fun f : Field => (do pure (f.offset, ← sizeOf f.type) : Sem (Nat × Nat))) (fun f => (f.offset, ((P.info? f.type).map (·.size)).getD 0)) fs (fun x hx => by
            obtain ⟨i, hi⟩ := hall _ hf x hx
            rw [rb (r_sizeOf hi w), hi]; rfl)
          refine ⟨.agg cs', ?_, h2⟩
          rw [hZ, rb (r_underlying hd w)]
          simp only
          rw [rb hm, hpl]
          have hplace : ∀ (ps : List (Nat × Value)) (c cs : Array Value), Instr.fill (placeF P t) c ps = some cs → Instr.fill ((fs.map fun f => (f.offset, ((P.info? f.type).map (·.size)).getD 0))[·]?) c ps = some cs := by
            intro ps
            induction ps with
            | nil => intro c cs h; exact h
            | cons p ps ih =>
              obtain ⟨i, v⟩ := p
              intro c cs h
              unfold Instr.fill at h ⊢
              cases hp : placeF P t i with
              | none => rw [hp] at h; cases h
              | some q =>
                have hq : (fs.map fun f => (f.offset, ((P.info? f.type).map (·.size)).getD 0))[i]? = some q := by
                  unfold placeF at hp
                  split at hp
                  · next o ty hfo =>
                    rw [brec_beq] at hp
                    by_cases hc : ty.cells = 0
                    · rw [if_pos hc] at hp; cases hp
                    · rw [if_neg hc] at hp
                      injection hp with hp
                      subst hp
                      obtain ⟨fs', x, k1, k2, rfl, rfl⟩ := fieldOf_ok hfo
                      rw [hd] at k1
                      injection k1 with k1
                      injection k1 with k1
                      subst k1
                      rw [Array.getElem?_map, k2]
                      obtain ⟨i1, d1, F1⟩ := tyOf_ok (P := P) (t := x.type) (fun h => hc (by rw [h]; rfl))
                      show some (x.offset, _) = _
                      rw [F1.hi]
                      show some (x.offset, i1.size) = _
                      rw [F1.size]
                  · cases hp
                rw [hp] at h
                rw [hq]
                simp only at h ⊢
                split at h
                · cases h
                · next hcnd => rw [if_neg hcnd]; exact ih _ _ h
          rw [hplace _ _ _ h1]; rfl
        · cases hf
      · rw [if_neg hf] at hu; exact absurd rfl hu
  · exact absurd rfl hu
end
end Kv
end
end
section
noncomputable section
namespace Kv
open Go.RowKit
variable {P : Program}
section
variable {ρ : Ren} {w : World} {h : HP} {r : RG} {a : Act}
theorem nil_ok {v : AV} {v' : Value} (hv : VR ρ v v') (hu : nilC v ≠ .un) (dst : Option Tmp) (x : Operand) (hx : a.eval x = v') (ty : TypeId) (pos : String) (after : Array Edge) (gd : Option (Nat × Bool)) : ∃ y, (execOp a.eval ⟨dst, .nilCheck x, ty, pos, after, gd⟩).run P w = .ok (.value y) w ∧ VR ρ (nilC v) y := by
  have e : (∃ p, v' = .pointer (some p)) ∨ (∃ f c d, v' = .func (.func f) c d) → (execOp a.eval ⟨dst, .nilCheck x, ty, pos, after, gd⟩).run P w = .ok (.value v') w := fun hp => by
    unfold execOp
    simp only [hx]
    rcases hp with ⟨p, rfl⟩ | ⟨f, c, d, rfl⟩ <;> rfl
  cases v
  case ptr i o =>
    obtain ⟨g, κ, hi, rfl⟩ := hv
    exact ⟨_, e (.inl ⟨_, rfl⟩), g, κ, hi, rfl⟩
  case fn f c d =>
    obtain ⟨c', d', rfl, h1, h2⟩ := hv
    cases f
    case func f => exact ⟨_, e (.inr ⟨_, _, _, rfl⟩), c', d', rfl, h1, h2⟩
    all_goals exact absurd rfl hu
  all_goals exact absurd rfl hu
theorem bi_run (ev : Operand → Value) (b : Builtin) (l : List Operand) (ts : Array TypeId) (dst : Option Tmp) (ty : TypeId) (pos : String) (after : Array Edge) (gd : Option (Nat × Bool)) (w : World) : (execOp ev ⟨dst, .call ⟨.builtin b, ⟨l⟩, ts⟩, ty, pos, after, gd⟩).run P w = (Go.builtin b ts ty ((⟨l⟩ : Array Operand).map fun | .const _ => true | _ => false) ⟨l.map ev⟩).run P w := by
  have e : (⟨l⟩ : Array Operand).map ev = ⟨l.map ev⟩ := by simp
  unfold execOp
  show ((resolve ev ⟨.builtin b, ⟨l⟩, ts⟩ ty) >>= fun d => invoke d.target d.args).run P w = _
  rw [rb (a := (⟨.builtin b ts ty ((⟨l⟩ : Array Operand).map fun | .const _ => true | _ => false), (⟨l⟩ : Array Operand).map ev⟩ : Deferred)) (w' := w) rfl, e]
  rfl
theorem q_ok (rr : RR ρ r a) (hr : HR ρ h w) (o : Oper) (hu : (compQ P o.op).f r h ≠ .un) : ∃ v, (execOp a.eval o).run P w = .ok (.value v) w ∧ VR ρ ((compQ P o.op).f r h) v := by
  obtain ⟨dst, op, ty, pos, after, gd⟩ := o
  simp only at hu ⊢
  cases op
  case move x =>
    have e : (compQ P (.move x)).f r h = (argC x).f r := by simp only [compQ, bxrec]
    rw [e] at hu ⊢
    exact ⟨_, rfl, arg_ok rr x hu⟩
  case assign x =>
    have e : (compQ P (.assign x)).f r h = (argC x).f r := by simp only [compQ, bxrec]
    rw [e] at hu ⊢
    exact ⟨_, rfl, arg_ok rr x hu⟩
  case pick c x y =>
    have e : (compQ P (.pick c x y)).f r h = onBlA ((argC c).f r) (fun t => @Bool.rec (fun _ => AV) ((argC y).f r) ((argC x).f r) t) := by simp only [compQ, bxrec]
    rw [e] at hu ⊢
    obtain ⟨b, hb⟩ := onBl_ne hu
    have hc := arg_ok rr c (by rw [hb]; intro e; cases e)
    rw [hb] at hc hu ⊢
    have hc : a.eval c = .bool b := hc
    have e2 : ∀ φ : Bool → AV, onBlA (.bl b) φ = φ b := fun _ => rfl
    rw [e2] at hu ⊢
    refine ⟨if b = true then a.eval x else a.eval y, ?_, ?_⟩
    · unfold execOp
      simp only [hc]
      cases b <;> rfl
    · cases b
      · exact arg_ok rr y hu
      · exact arg_ok rr x hu
  case build t ps =>
    have e : (compQ P (.build t ps)).f r h = (buildC P t ps.toList).f r := by simp only [compQ, bxrec]
    rw [e] at hu ⊢
    exact vq (build_ok rr t ps hu)
  case load t x =>
    have e : (compQ P (.load t x)).f r h = onPtrA ((argC x).f r) (fun i o => (ldC (tyOf P t)).f (h.get i) o) := by simp only [compQ, bxrec]
    rw [e] at hu ⊢
    exact vq (load_ok hr (arg_ok rr x (ptr_arg hu)) hu)
  case nilCheck x =>
    have e : (compQ P (.nilCheck x)).f r h = nilC ((argC x).f r) := by simp only [compQ, bxrec]
    rw [e] at hu ⊢
    exact nil_ok (arg_ok rr x (fun e => by rw [e] at hu; exact hu rfl)) hu dst x rfl ty pos after gd
  case binOp op t x y yt =>
    have e : (compQ P (.binOp op t x y yt)).f r h = (binC P op t).f ((argC x).f r) ((argC y).f r) := by simp only [compQ, bxrec]
    rw [e] at hu ⊢
    have hhead := binC_head hu
    have hx := arg_ok rr x (fun e => by rw [e] at hhead; cases hhead)
    have hy' : (argC y).f r ≠ .un := fun e => by
      rw [e] at hu
      apply hu
      exact bin_un _ _ _
    have hy := arg_ok rr y hy'
    obtain ⟨v, h1, h2⟩ := binC_ok op t _ _ _ _ w hx hy hu
    refine ⟨v, ?_, h2⟩
    show ((do eqGuard op t x y (a.eval x) (a.eval y); binOp op t (a.eval x) (a.eval y)) >>= fun v => pure (Next.value v)).run P w = _
    rw [rb (show (do eqGuard op t x y (a.eval x) (a.eval y); binOp op t (a.eval x) (a.eval y) : Sem Value).run P w = .ok v w from by rw [rb (guard_ok hx hhead op t x y (a.eval y) w)]; exact h1)]
    rfl
  case unOp op t x =>
    have e : (compQ P (.unOp op t x)).f r h = (unC op).f ((argC x).f r) := by simp only [compQ, bxrec]
    rw [e] at hu ⊢
    refine vq (unC_ok op (arg_ok rr x (fun e => ?_)) hu)
    rw [e] at hu
    cases op <;> exact hu rfl
  case convert s t x =>
    have e : (compQ P (.convert s t x)).f r h = (convC P s t).f ((argC x).f r) h := by simp only [compQ, bxrec]
    rw [e] at hu ⊢
    refine vq (conv_ok hr (arg_ok rr x (fun e => ?_)) hu)
    rw [e] at hu
    apply hu
    exact conv_un _ _ _
  case makeFunc f x y =>
    have e : (compQ P (.makeFunc f x y)).f r h = if (if okOps x.toList = true then okOps y.toList else false) = true then .fn f ((argsC x.toList).f r) ((argsC y.toList).f r) else .un := by
      simp only [compQ, brec]
      by_cases hk : (if okOps x.toList = true then okOps y.toList else false) = true
      · rw [if_pos hk, if_pos hk]
      · rw [if_neg hk, if_neg hk]; rfl
    rw [e] at hu ⊢
    by_cases hk : (if okOps x.toList = true then okOps y.toList else false) = true
    · rw [if_pos hk]
      have h1 : okOps x.toList = true := by
        by_cases h : okOps x.toList = true
        · exact h
        · rw [if_neg h] at hk; cases hk
      rw [if_pos h1] at hk
      refine ⟨.func f (x.map a.eval) (y.map a.eval), rfl, _, _, rfl, ?_, ?_⟩
      · rw [Array.toList_map]; exact args_ok rr _ h1
      · rw [Array.toList_map]; exact args_ok rr _ hk
    · rw [if_neg hk] at hu; exact absurd rfl hu
  case slice t x lo hi mx =>
    have e : (compQ P (.slice t x lo hi mx)).f r h = if (if isNone hi = true then not (isNone mx) else false) = true then .un else (sliceX P t).f ((oargC lo).f r) ((oargC hi).f r) ((oargC mx).f r) h ((argC x).f r) := by
      simp only [compQ, brec]
      by_cases hk : (if isNone hi = true then not (isNone mx) else false) = true
      · rw [if_pos hk, if_pos hk]; rfl
      · rw [if_neg hk, if_neg hk]
    rw [e] at hu ⊢
    by_cases hk : (if isNone hi = true then not (isNone mx) else false) = true
    · rw [if_pos hk] at hu; exact absurd rfl hu
    · rw [if_neg hk] at hu ⊢
      have hmx : hi.map a.eval = none → mx.map a.eval = none := fun hn => by
        cases hi with
        | some y => cases hn
        | none =>
          change ¬ (not (isNone mx)) = true at hk
          cases mx with
          | none => rfl
          | some y => exact absurd rfl hk
      have o1 := oarg_ok (ρ := ρ) rr lo
      have o2 := oarg_ok (ρ := ρ) rr hi
      have o3 := oarg_ok (ρ := ρ) rr mx
      have hx : (argC x).f r ≠ .un → VR ρ ((argC x).f r) (a.eval x) := arg_ok rr x
      have key : QS P ρ w (Instr.sliceAt t (a.eval x) (lo.map a.eval) (hi.map a.eval) (mx.map a.eval)) ((sliceX P t).f ((oargC lo).f r) ((oargC hi).f r) ((oargC mx).f r) h ((argC x).f r)) := by
        generalize (argC x).f r = v at *
        generalize a.eval x = v' at *
        generalize (oargC lo).f r = lo1 at *
        generalize (oargC hi).f r = hi1 at *
        generalize (oargC mx).f r = mx1 at *
        generalize lo.map a.eval = lo2 at *
        generalize hi.map a.eval = hi2 at *
        generalize mx.map a.eval = mx2 at *
        unfold sliceX at hu ⊢
        split at hu
        · next hd =>
          cases mx1 with
          | some m => exact absurd rfl hu
          | none =>
            cases mx2 with
            | some m => exact o3.elim
            | none =>
              obtain ⟨l, z, rfl⟩ := onStr_ne hu
              obtain ⟨s, rfl, hs⟩ := hx (fun e => by cases e)
              exact slice_str hd hs o1 o2 hu
        · next n e hd =>
          rw [brec_beq] at hu ⊢
          by_cases hc : (tyOf P e).cells = 0
          · rw [if_pos hc] at hu; exact absurd rfl hu
          · rw [if_neg hc] at hu ⊢
            obtain ⟨i, o, rfl⟩ := onPtr_ne hu
            obtain ⟨g, κ, hi0, rfl⟩ := hx (fun e => by cases e)
            exact slice_arr hd hc hi0 o1 o2 o3 hmx hu
        · next e hd =>
          rw [brec_beq] at hu ⊢
          by_cases hc : (tyOf P e).cells = 0
          · rw [if_pos hc] at hu; exact absurd rfl hu
          · rw [if_neg hc] at hu ⊢
            have hv : v ≠ .un := fun e => by subst e; exact hu rfl
            exact slice_sl hr hd hc (hx hv) o1 o2 o3 hmx hu
        · exact absurd rfl hu
      exact vq key
  case fieldAddr s x f =>
    unfold compQ at hu ⊢
    simp only at hu ⊢
    split at hu
    · next p tyf hf =>
      rw [brec_beq] at hu ⊢
      by_cases hc : tyf.cells = 0
      · rw [if_pos hc] at hu; exact absurd rfl hu
      · rw [if_neg hc] at hu ⊢
        simp only [bxrec] at hu ⊢
        exact vq (fieldAddr_ok hf hc (arg_ok rr x (ptr_arg hu)) hu)
    · exact absurd rfl hu
  case field s x f =>
    unfold compQ at hu ⊢
    simp only at hu ⊢
    split at hu
    · next p tyf hf =>
      simp only [bxrec] at hu ⊢
      exact vq (field_ok hf (arg_ok rr x (fun e => by rw [e] at hu; exact hu rfl)) hu)
    · exact absurd rfl hu
  case indexAddr t x y =>
    unfold compQ at hu ⊢
    simp only [bxrec] at hu ⊢
    split at hu
    · next n e hd =>
      rw [brec_beq] at hu ⊢
      by_cases hc : (tyOf P e).cells = 0
      · rw [if_pos hc] at hu; exact absurd rfl hu
      · rw [if_neg hc] at hu ⊢
        have hx := arg_ok rr x (ptr_arg hu)
        have hy : (argC y).f r ≠ .un := fun e => by
          obtain ⟨i, o, hi⟩ := onPtr_ne hu
          apply hu
          show onPtrA _ _ = _
          rw [hi, e]; rfl
        exact vq (indexArr_ok hd hc hx (arg_ok rr y hy) hu)
    · next e hd =>
      rw [brec_beq] at hu ⊢
      by_cases hc : (tyOf P e).cells = 0
      · rw [if_pos hc] at hu; exact absurd rfl hu
      · rw [if_neg hc] at hu ⊢
        have hx : (argC x).f r ≠ .un := fun e => by
          apply hu
          show onSlA _ _ = _
          rw [e]; rfl
        have hy : (argC y).f r ≠ .un := fun e => by
          apply hu
          obtain ⟨i, o, l, h1, _⟩ := onSl_ne hu
          show onSlA _ _ = _
          rw [h1, e]; rfl
        exact vq (indexSl_ok hd hc (arg_ok rr x hx) (arg_ok rr y hy) hu)
    · exact absurd rfl hu
  case index t x y =>
    unfold compQ at hu ⊢
    simp only [bxrec] at hu ⊢
    split at hu
    · next n e hd =>
      rw [brec_beq] at hu ⊢
      by_cases hc : (tyOf P e).cells = 0
      · rw [if_pos hc] at hu; exact absurd rfl hu
      · rw [if_neg hc] at hu ⊢
        obtain ⟨l, hl⟩ := onAgg_ne hu
        have hx := arg_ok rr x (fun e => by rw [e] at hl; cases hl)
        have hy : (argC y).f r ≠ .un := fun e => by
          apply hu
          show onAggA _ _ = _
          rw [hl, e]; rfl
        exact vq (index_agg_ok hd hc hx (arg_ok rr y hy) hu)
    · next hd =>
      obtain ⟨l, z, hl⟩ := onStr_ne hu
      have hx := arg_ok rr x (fun e => by rw [e] at hl; cases hl)
      have hy : (argC y).f r ≠ .un := fun e => by
        apply hu
        show onStrA _ _ = _
        rw [hl, e]; rfl
      exact vq (index_str_ok hd hx (arg_ok rr y hy) hu)
    · exact absurd rfl hu
  case extract t i =>
    have e : (compQ P (.extract t i)).f r h = onTupA ((argC t).f r) (fun l => nth l i) := by simp only [compQ, bxrec]
    rw [e] at hu ⊢
    obtain ⟨l, hl⟩ := onTup_ne hu
    have hx := arg_ok rr t (fun e => by rw [e] at hl; cases hl)
    rw [hl] at hx hu ⊢
    obtain ⟨l', e1, h1⟩ := hx
    have e2 : ∀ φ : List AV → AV, onTupA (.tup l) φ = φ l := fun _ => rfl
    rw [e2, nth_eq] at hu ⊢
    have hi : i < l.length := by
      rcases Nat.lt_or_ge i l.length with h | h
      · exact h
      · rw [List.getElem?_eq_none h] at hu; exact absurd rfl hu
    obtain ⟨x, y, k1, k2, k3⟩ := VRs.get i h1 hi
    rw [k1]
    refine ⟨y, ?_, k3⟩
    unfold execOp
    simp only [e1, Instr.extract]
    rw [← Array.getElem?_toList, k2]; rfl
  case call c =>
    obtain ⟨cal, ⟨as⟩, ⟨ts⟩⟩ := c
    unfold compQ at hu ⊢
    simp only at hu ⊢
    split at hu
    · next x t ts =>
      simp only [bxrec] at hu ⊢
      have hx : (argC x).f r ≠ .un := fun e => by
        rw [e] at hu; exact hu (len_un t)
      rw [bi_run]
      exact vq (s := Builtin.len_ ⟨t :: ts⟩ ty #[a.eval x]) (len_ok (t := t) (ts := ⟨t :: ts⟩) rfl (arg_ok rr x hx) hu ty)
    · next x t ts =>
      simp only [bxrec] at hu ⊢
      have hx : (argC x).f r ≠ .un := fun e => by
        rw [e] at hu; exact hu (cap_un t)
      rw [bi_run]
      exact vq (s := Builtin.cap_ ⟨t :: ts⟩ ty #[a.eval x]) (cap_ok (t := t) (ts := ⟨t :: ts⟩) rfl (arg_ok rr x hx) hu ty)
    · next x y =>
      simp only [bxrec] at hu ⊢
      have hx : (argC x).f r ≠ .un := fun e => by
        rw [e] at hu; exact hu rfl
      have hy : (argC y).f r ≠ .un := fun e => by
        rw [e] at hu; exact hu (mx_un _ _)
      rw [bi_run]
      refine vq (w := w) (s := Builtin.max_ ⟨ts⟩ ty #[a.eval x, a.eval y]) ?_
      obtain ⟨v, h1, h2⟩ := mxC_ok (m2 := Builtin.max2) max2_ok (arg_ok rr x hx) (arg_ok rr y hy) hu
      exact ⟨v, fold2 _ _ _ h1, h2⟩
    · next x y =>
      simp only [bxrec] at hu ⊢
      have hx : (argC x).f r ≠ .un := fun e => by
        rw [e] at hu; exact hu rfl
      have hy : (argC y).f r ≠ .un := fun e => by
        rw [e] at hu; exact hu (mx_un _ _)
      rw [bi_run]
      refine vq (w := w) (s := Builtin.min_ ⟨ts⟩ ty #[a.eval x, a.eval y]) ?_
      obtain ⟨v, h1, h2⟩ := mxC_ok (m2 := Builtin.min2) min2_ok (arg_ok rr x hx) (arg_ok rr y hy) hu
      exact ⟨v, fold2 _ _ _ h1, h2⟩
    · exact absurd rfl hu
  all_goals exact absurd rfl hu
where
  bin_un (op : BinOp) (t : TypeId) (a : AV) : (binC P op t).f a .un = .un := by
    unfold binC
    split
    · next k _ =>
      cases op <;> first | (cases a <;> rfl) | (cases k <;> cases a <;> rfl)
    · cases op <;> (cases a <;> rfl)
    · cases op <;> (cases a <;> rfl)
    · cases op <;> (cases a <;> rfl)
    · rw [brec_beq]
      split
      · rfl
      · cases op <;> (cases a <;> rfl)
    · cases op <;> (cases a <;> rfl)
    · cases op <;> (cases a <;> rfl)
    · rfl
  mx_un (f : Nat → Nat → Bool) (a : AV) : (maxC f).f a .un = .un := by
    cases a <;> rfl
  len_un (t : TypeId) : (lenC P t).f .un = .un := by
    unfold lenC; split <;> rfl
  cap_un (t : TypeId) : (capC P t).f .un = .un := by
    unfold capC; split <;> rfl
  conv_un (s t : TypeId) (h : HP) : (convC P s t).f .un h = .un := by
    unfold convC
    split
    · rfl
    · rfl
    · rw [brec]; split <;> rfl
    · rfl
end
end Kv
end
end
end Go.Proofs.YtfkoaooceickiaaGreat
