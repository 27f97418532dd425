/- Parts of the proof: Kvy Kvz Kwa Kwb Kwc Kwd Kwe Kwf Kwg Kwh Kwi. -/
import Derived.Defers
import Derived.Test.YtfkoaooceickiaaGreatH11
set_option linter.all false
set_option maxRecDepth 100000
namespace Go.Proofs.YtfkoaooceickiaaGreat
section
noncomputable section
namespace Kv
open Go.RowKit
variable {P : Program}
section
variable {ρ : Ren} {w : World} {h : HP} {r : RG} {a : Act} {I : List Deferred → Prop}
theorem onLenR_some {v : AV} {φ : Nat → R} {res : AV × HP} (e : onLenR v φ = some res) : ∃ l, lenV v = some l ∧ φ l = some res := by
  obtain ⟨l, h1, h2⟩ := onLenR_ne (v := v) (φ := φ) (by rw [e]; intro h; cases h)
  exact ⟨l, h1, by rw [← h2]; exact e⟩
theorem onSlR_sl {v : AV} {φ : Nat → Nat → Nat → R} {res : AV × HP} (e : onSlR v φ = some res) : ∃ i o l, lenV v = some l ∧ φ i o l = some res ∧ ∀ ρ' v', VR ρ' v v' → ∃ g κ c, ρ' i = some (g, κ) ∧ v' = .slice (some ⟨g, o, none⟩) l c := by
  cases v <;> first
    | (cases e; done)
    | exact ⟨_, _, _, rfl, e, fun ρ' v' h => by obtain ⟨b, κ, h1, h2, _⟩ := h; exact ⟨b, κ, _, h1, h2⟩⟩
    | exact ⟨_, _, _, rfl, e, fun ρ' v' h => by obtain ⟨b, κ, c, h1, h2, _⟩ := h; exact ⟨b, κ, c, h1, h2⟩⟩
theorem zc_bytes {z : Array Value} (n : Nat) (h : z.toList = [Value.int .u8 (0 : Nat)]) : (zc z n).toList = byC n 0 := by
  have hs : z.size = 1 := by rw [← Array.length_toList, h]; rfl
  unfold byC
  rw [bys0, List.map_replicate, List.eq_replicate_iff]
  have hl : (zc z n).toList.length = n := by rw [Array.length_toList, zc_size]
  refine ⟨hl, fun b hb => ?_⟩
  obtain ⟨k, hk⟩ := List.getElem?_of_mem hb
  have hkl := (List.getElem?_eq_some_iff.1 hk).1
  rw [zc_get _ _ (by omega) (by omega), h, hs, Nat.mod_one] at hk
  injection hk with hk
  exact hk.symm
theorem BR.cells_of {κ : Nat} {b : Blk} {ob : Obj} (hB : BR ρ κ b ob) (hd : b ≠ .dead) (hs : ∀ l y p, b ≠ .si l y p) : ∃ cs tid fr, ob = .cells cs tid fr ∧ cs.size = κ ∧ NF fr κ := by
  cases b with
  | dead => exact absurd rfl hd
  | si l y p => exact absurd rfl (hs l y p)
  | row u n t => obtain ⟨c, ty, fr, e, h1, h2, _⟩ := hB; exact ⟨c, ty, fr, e, h1, h2.nf⟩
  | «by» l x => obtain ⟨c, ty, fr, e, h1, h2, _⟩ := hB; exact ⟨c, ty, fr, e, h1, h2⟩
theorem zsrc_ok {t : TypeId} {i : TypeInfo} {d : TypeDesc} {ty : Ty} (F : TyF P t i d ty) (ρ : Ren) (n : Nat) {z : Value} (hz : i.zero = some z) : SrcR ρ n ty.cells (zsrc ty n) (zc z.cells (n * ty.cells)).toList := by
  obtain ⟨z', e, hs, hu⟩ := zero_cells F
  rw [hz] at e; injection e with e; subst e
  unfold zsrc
  rw [brec]
  by_cases h8 : isTU8 ty = true
  · rw [if_pos h8]
    have hty := isTU8_eq h8
    subst hty
    have h1 : z.cells.toList = [Value.int .u8 (0 : Nat)] := by
      obtain ⟨x, y, e1, e2, e3⟩ := (hu ρ).vs
      have e3 : y = [] := e3
      rw [e1, e3, (VR_int.1 e2).1]; rfl
    have hc : (Ty.sc (.int 4 0)).cells = 1 := rfl
    rw [hc, Nat.mul_one]
    exact ⟨rfl, rfl, zc_bytes n h1, Nat.pow_pos (by omega)⟩
  · rw [if_neg h8]
    refine ⟨F.pos, by rw [Array.length_toList, zc_size, Nat.mul_comm], fun k hk => ?_⟩
    rw [RT.mk_get]
    have := zc_chunk z.cells (by have := F.pos; omega) n k hk
    rw [hs] at this
    unfold chunk
    rw [this]; exact hu ρ
theorem zeroCells_eq (z : Array Value) (n : Nat) : Builtin.zeroCells z n = zc z (n * z.size) := rfl
theorem clear_ok {t e : TypeId} (he : elemOf P t = some e) (x : Operand) (ts : List TypeId) (dst : Option Tmp) (ty : TypeId) (pos : String) (after : Array Edge) (gd : Option (Nat × Bool)) {k : K} {res : AV × HP}
    (hf : (clearC (tyOf P e)).f ((argC x).f r) h k = some res) :
    ∃ v h', k v h' = some res ∧ ER P I ⟨dst, .call ⟨.builtin .clear, ⟨[x]⟩, ⟨t :: ts⟩⟩, ty, pos, after, gd⟩ r h v h' := by
  unfold clearC at hf
  rw [brec_beq] at hf
  by_cases hc : (tyOf P e).cells = 0
  · rw [if_pos hc] at hf; cases hf
  · rw [if_neg hc] at hf
    simp only [brec] at hf
    by_cases hns : noStr ((argC x).f r) = true
    · rw [if_pos hns] at hf
      obtain ⟨n, hl, hf⟩ := onLenR_some hf
      have hn : tyOf P e ≠ .no := fun e => by rw [e] at hc; exact hc rfl
      obtain ⟨it, d, F⟩ := tyOf_ok hn
      obtain ⟨z, z1, z2, z3⟩ := zero_cells F
      have hx : (argC x).f r ≠ .un := fun e => by rw [e] at hl; cases hl
      by_cases hn0 : Nat.beq n 0 = true
      · rw [if_pos hn0] at hf
        have hn0 := (beq_iff _ _).1 hn0
        subst hn0
        refine ⟨_, _, hf, ER.of_value fun ρ a w rr hr => ⟨ρ, .tuple #[], w, ?_, Ext.refl hr, ⟨_, rfl, rfl⟩⟩⟩
        obtain ⟨b, c, ev⟩ := VR_slice (arg_ok rr x hx) hl (fun l y e => by rw [e] at hns; cases hns)
        rw [bi_run]
        have hrun : (Builtin.clear_ ⟨t :: ts⟩ ty ⟨[a.eval x]⟩).run P w = .ok (.tuple #[]) w := by
          unfold Builtin.clear_
          show ((underlying t) >>= _).run P w = _
          rw [rb (r_underlying (elemOf_eq he) w), ev]
          cases b <;> rfl
        show ((do pure (Next.value (← Builtin.clear_ ⟨t :: ts⟩ ty ⟨[a.eval x]⟩)) : Sem Next)).run P w = _
        rw [rb hrun]; rfl
      · rw [if_neg hn0] at hf
        obtain ⟨i, o, l, hl2, hf, hv⟩ := onSlR_sl hf
        obtain ⟨h1, h2⟩ := gb_some hf
        refine ⟨_, _, h2, ER.of_value fun ρ a w rr hr => ?_⟩
        obtain ⟨g, κ, c, hi, ev⟩ := hv ρ _ (arg_ok rr x hx)
        have hln : l = n := by rw [hl] at hl2; injection hl2 with q; exact q.symm
        subst hln
        obtain ⟨ob, ho, hB⟩ := hr.obj hi
        have hlive : h.get i ≠ .dead := fun q => by rw [q] at h1; exact h1 rfl
        obtain ⟨cs, tid, fr, rfl, k1, k2⟩ := hB.cells_of hlive (fun l y p q => by rw [q] at h1; exact h1 rfl)
        obtain ⟨m1, m2⟩ := putS_ok hB (zsrc_ok F ρ l z1) h1
        refine ⟨ρ, .tuple #[], setB w g (.cells (splC cs o (zc z.cells (l * (tyOf P e).cells)).toList) tid fr), ?_, Ext.setB hr hi hlive m2, ⟨_, rfl, rfl⟩⟩
        rw [bi_run]
        have hrun : (Builtin.clear_ ⟨t :: ts⟩ ty ⟨[a.eval x]⟩).run P w = .ok (.tuple #[]) (setB w g (.cells (splC cs o (zc z.cells (l * (tyOf P e).cells)).toList) tid fr)) := by
          unfold Builtin.clear_
          show ((underlying t) >>= _).run P w = _
          have hl0 : l ≠ 0 := fun q => hn0 ((beq_iff _ _).2 q)
          obtain ⟨l', rfl⟩ : ∃ l', l = l' + 1 := ⟨l - 1, by omega⟩
          rw [rb (r_underlying (elemOf_eq he) w), ev]
          show ((zeroValue e) >>= fun z => (storeCells ⟨g, o, none⟩ (Builtin.zeroCells z.cells (l' + 1)).toList) >>= fun _ => pure (Value.tuple #[])).run P w = _
          rw [rb (r_zeroValue F.hi z1 w), zeroCells_eq, z2]
          rw [rb (r_storeCells k1 k2 _ w cs o 0 ho k1 (by omega) (zsrc_ok F ρ _ z1).one)]
          rfl
        show ((do pure (Next.value (← Builtin.clear_ ⟨t :: ts⟩ ty ⟨[a.eval x]⟩)) : Sem Next)).run P w = _
        rw [rb hrun]; rfl
    · rw [if_neg hns] at hf; cases hf
theorem putS_bad (b : Blk) (o n c : Nat) : putS b o n c .bad = .dead := by cases b <;> rfl
theorem first0 {v : AV} {v' : Value} {l c : Nat} (hv : VR ρ v v') (hl : lenV v = some l) : (Builtin.firstCells c 0 v').run P w = .ok #[] w := by
  have hs : ∀ b k m, v' = .slice b k m → (Builtin.firstCells c 0 v').run P w = .ok #[] w := fun b k m e => by
    subst e
    cases b with
    | none => rfl
    | some a =>
      unfold Builtin.firstCells
      simp only
      rw [Nat.zero_mul]; rfl
  by_cases hstr : ∃ l x, v = .str l x
  · obtain ⟨l', x, rfl⟩ := hstr
    obtain ⟨s, rfl, h⟩ := hv
    unfold Builtin.firstCells
    simp only
    rw [rp]
    congr 1
    simp
  · obtain ⟨b, k, e⟩ := VR_slice hv hl (fun l x e => hstr ⟨l, x, e⟩)
    exact hs _ _ _ e
theorem copy_ok {t e : TypeId} (he : elemOf P t = some e) (x y : Operand) (ts : List TypeId) (dst : Option Tmp) (ty : TypeId) (pos : String) (after : Array Edge) (gd : Option (Nat × Bool)) {k : K} {res : AV × HP}
    (hf : (copyC (tyOf P e)).f ((argC x).f r) ((argC y).f r) h k = some res) :
    ∃ v h', k v h' = some res ∧ ER P I ⟨dst, .call ⟨.builtin .copy, ⟨[x, y]⟩, ⟨t :: ts⟩⟩, ty, pos, after, gd⟩ r h v h' := by
  unfold copyC at hf
  rw [brec_beq] at hf
  by_cases hc : (tyOf P e).cells = 0
  · rw [if_pos hc] at hf; cases hf
  · rw [if_neg hc] at hf
    simp only [brec] at hf
    by_cases hns : noStr ((argC x).f r) = true
    · rw [if_pos hns] at hf
      by_cases hys : okStr ((argC y).f r) (tyOf P e).cells = true
      · rw [if_pos hys] at hf
        obtain ⟨m, hlx, hf⟩ := onLenR_some hf
        obtain ⟨n, hly, hf⟩ := onLenR_some hf
        have hn : tyOf P e ≠ .no := fun e => by rw [e] at hc; exact hc rfl
        obtain ⟨it, d, F⟩ := tyOf_ok hn
        have hx : (argC x).f r ≠ .un := fun e => by rw [e] at hlx; cases hlx
        have hy : (argC y).f r ≠ .un := fun e => by rw [e] at hly; cases hly
        have hmin : Nat.min n m = if Nat.ble m n = true then m else n := by
          show min n m = _
          by_cases q : Nat.ble m n = true
          · rw [if_pos q]; have := (ble_iff _ _).1 q; omega
          · rw [if_neg q]; have : ¬ m ≤ n := fun z => q ((ble_iff _ _).2 z); omega
        rw [← hmin] at hf
        have hmn : Nat.min n m ≤ n := Nat.min_le_left _ _
        have hmm : Nat.min n m ≤ m := Nat.min_le_right _ _
        generalize hq : Nat.min n m = q at *
        have hstr : ∀ l z, (argC y).f r = .str l z → (tyOf P e).cells = 1 := fun l z ey => by rw [ey] at hys; exact (beq_iff _ _).1 hys
        have h8 : isTU8 (tyOf P e) = true → (tyOf P e).cells = 1 := fun h => by rw [isTU8_eq h]; rfl
        have fin : ∀ (a : Act) (w w' : World) (b : Option Addr) (c : Nat) (cells : Array Value), a.eval x = .slice b m c → (Builtin.lenOf (a.eval y)).run P w = .ok n w → (Builtin.firstCells (tyOf P e).cells q (a.eval y)).run P w = .ok cells w →
            (match b with | some a => storeCells a cells.toList | none => pure () : Sem Unit).run P w = .ok () w' → (execOp a.eval ⟨dst, .call ⟨.builtin .copy, ⟨[x, y]⟩, ⟨t :: ts⟩⟩, ty, pos, after, gd⟩).run P w = .ok (.value (goInt (q : Nat))) w' := fun a w w' b c cells ex hlen hfc hst => by
          rw [bi_run]
          have hrun : (Builtin.copy_ ⟨t :: ts⟩ ty ⟨[a.eval x, a.eval y]⟩).run P w = .ok (goInt (q : Nat)) w' := by
            unfold Builtin.copy_
            show ((underlying t) >>= _).run P w = _
            rw [rb (r_underlying (elemOf_eq he) w), ex]
            show ((Builtin.lenOf (a.eval y)) >>= _).run P w = _
            rw [rb hlen]
            show ((sizeOf e) >>= _).run P w = _
            rw [rb (r_sizeOf F.hi w), F.size, show Nat.min n m = q from hq]
            show ((Builtin.firstCells (tyOf P e).cells q (a.eval y)) >>= _).run P w = _
            rw [rb hfc]
            cases b with
            | none => injection hst with _ h; subst h; rfl
            | some ad =>
              show ((storeCells ad cells.toList) >>= _).run P w = _
              rw [rb hst]; rfl
          show ((do pure (Next.value (← Builtin.copy_ ⟨t :: ts⟩ ty ⟨[a.eval x, a.eval y]⟩)) : Sem Next)).run P w = _
          rw [rb hrun]; rfl
        by_cases hq0 : Nat.beq q 0 = true
        · rw [if_pos hq0] at hf
          have hq0 := (beq_iff _ _).1 hq0
          refine ⟨_, _, hf, ER.of_value fun ρ a w rr hr => ⟨ρ, goInt (q : Nat), w, ?_, Ext.refl hr, ?_⟩⟩
          · obtain ⟨b, c, ev⟩ := VR_slice (arg_ok rr x hx) hlx (fun l y e => by rw [e] at hns; cases hns)
            refine fin a w w b c #[] ev (VR_len (arg_ok rr y hy) hly w) ?_ ?_
            · rw [hq0]; exact first0 (arg_ok rr y hy) hly
            · cases b <;> rfl
          · rw [hq0]; exact lenN_ok (ρ := ρ) (n := 0) (by intro h; cases h)
        · rw [if_neg hq0] at hf
          obtain ⟨i, o, l, hl2, hf, hv⟩ := onSlR_sl hf
          by_cases hqb : Nat.ble q 1000000000 = true
          · rw [if_pos hqb] at hf
            have hqb := (ble_iff _ _).1 hqb
            obtain ⟨h1, h2⟩ := gb_some hf
            refine ⟨_, _, h2, ER.of_value fun ρ a w rr hr => ?_⟩
            obtain ⟨g, κ, c, hi, ev⟩ := hv ρ _ (arg_ok rr x hx)
            have hln : l = m := by rw [hlx] at hl2; injection hl2 with q; exact q.symm
            subst hln
            obtain ⟨ob, ho, hB⟩ := hr.obj hi
            have hlive : h.get i ≠ .dead := fun q => by rw [q] at h1; exact h1 rfl
            obtain ⟨cs, tid, fr, rfl, k1, k2⟩ := hB.cells_of hlive (fun l y p q => by rw [q] at h1; exact h1 rfl)
            obtain ⟨vs, s1, s2⟩ := src_ok hr h8 F.pos (arg_ok rr y hy) hly hmn hstr (u8 := isTU8 (tyOf P e)) (fun q => by rw [q] at h1; exact h1 (putS_bad _ _ _ _))
            obtain ⟨m1, m2⟩ := putS_ok hB s2 h1
            refine ⟨ρ, goInt (q : Nat), setB w g (.cells (splC cs o vs) tid fr), ?_, Ext.setB hr hi hlive m2, ?_⟩
            · exact fin a w _ _ c _ ev (VR_len (arg_ok rr y hy) hly w) s1 (r_storeCells k1 k2 _ w cs o 0 ho k1 (by omega) s2.one)
            · have e : lenN q = .int 3 q := by
                show @Bool.rec (fun _ => AV) .un (.int 3 q) (Nat.ble q 1000000000) = _
                rw [brec_ble, if_pos hqb]
              have := lenN_ok (ρ := ρ) (n := q) (by rw [e]; intro h; cases h)
              rwa [e] at this
          · rw [if_neg hqb] at hf; cases hf
      · rw [if_neg hys] at hf; cases hf
    · rw [if_neg hns] at hf; cases hf
end
end Kv
end
end
section
noncomputable section
namespace Kv
open Go.RowKit
variable {P : Program}
section
variable {ρ : Ren} {w : World} {h : HP} {r : RG} {a : Act} {I : List Deferred → Prop}
theorem rowB_ge {t : TypeId} {i : TypeInfo} {d : TypeDesc} {ty : Ty} (F : TyF P t i d ty) (ρ : Ren) {n c : Nat} (hn : n ≤ c) {z : Value} (hz : i.zero = some z) (tid : TypeId) : BR ρ (c * ty.cells) (rowB ty n) (.cells (zc z.cells (c * ty.cells)) tid (0, 0)) := by
  obtain ⟨z', e, hs, hu⟩ := zero_cells F
  rw [hz] at e; injection e with e; subst e
  have hNF : NF (0, 0) (c * ty.cells) := fun o _ => by simp
  have hpos := F.pos
  rw [rowB_eq F]
  by_cases h8 : isTU8 ty = true
  · rw [if_pos h8]
    have hty := isTU8_eq h8
    subst hty
    have h1 : z.cells.toList = [Value.int .u8 (0 : Nat)] := by
      obtain ⟨x, y, e1, e2, e3⟩ := (hu ρ).vs
      have e3 : y = [] := e3
      rw [e1, e3, (VR_int.1 e2).1]; rfl
    have hc : (Ty.sc (.int 4 0)).cells = 1 := rfl
    rw [hc] at hs hNF ⊢
    rw [Nat.mul_one] at hNF ⊢
    refine ⟨_, _, _, rfl, zc_size _ _, hNF, hn, Nat.pow_pos (by omega), ?_⟩
    rw [zc_bytes c h1]
    unfold byC
    rw [bys0, bys0, ← List.map_take, List.take_replicate, Nat.min_eq_left hn]
  · rw [if_neg h8]
    have hm : n * ty.cells ≤ c * ty.cells := Nat.mul_le_mul_right _ hn
    refine ⟨_, _, _, rfl, zc_size _ _, rfl, hpos, by rw [Nat.mul_comm]; exact hm, ⟨2 ^ dep n, RT.mk_wf _ _, dep_le n⟩, fun k hk => ?_⟩
    rw [RT.mk_get, ← hs, zc_chunk _ (by omega) _ _ (by omega), hs]
    exact hu ρ
theorem grown_cells (z : Array Value) (hz : 0 < z.size) {l n c : Nat} {old new : List Value} (ho : old.length = z.size * l) (hn : new.length = z.size * n) (hc : l + n ≤ c) :
    splC (splC (zc z (c * z.size)) 0 old) (l * z.size) new = old.toArray ++ new.toArray ++ zc z ((c - (l + n)) * z.size) := by
  have hm : (l + n) * z.size ≤ c * z.size := Nat.mul_le_mul_right _ hc
  have hsub : (c - (l + n)) * z.size = c * z.size - (l + n) * z.size := Nat.sub_mul _ _ _
  rw [Nat.add_mul] at hm hsub
  rw [Nat.mul_comm] at ho hn
  have h0 := splC_splC (zc z (c * z.size)) 0 old new (by rw [zc_size]; omega)
  rw [Nat.zero_add, ho] at h0
  rw [h0]
  apply Array.ext'
  rw [splC_eq]
  simp only [Array.toList_append]
  unfold splL
  rw [List.take_zero, List.nil_append, Nat.zero_add]
  congr 1
  apply List.ext_getElem?
  intro k
  rw [List.getElem?_drop, List.length_append, ho, hn]
  have hL : (zc z (c * z.size)).toList.length = c * z.size := by rw [Array.length_toList, zc_size]
  have hR : (zc z ((c - (l + n)) * z.size)).toList.length = (c - (l + n)) * z.size := by rw [Array.length_toList, zc_size]
  by_cases hk : k < (c - (l + n)) * z.size
  · rw [zc_get _ _ (by omega) hz, zc_get _ _ hk hz]
    congr 1
    rw [show l * z.size + n * z.size + k = k + (l + n) * z.size by rw [Nat.add_mul]; omega, Nat.add_mul_mod_self_right]
  · rw [List.getElem?_eq_none (by omega), List.getElem?_eq_none (by omega)]
end
end Kv
end
end
section
noncomputable section
namespace Kv
open Go.RowKit
variable {P : Program}
section
variable {ρ : Ren} {w : World} {h : HP} {r : RG} {a : Act} {I : List Deferred → Prop}
theorem growBy_le (need : Nat) : ∀ (k c : Nat), c ≤ 2 * need + 192 → Builtin.growBy need k c ≤ 2 * need + 192
  | 0, c, h => h
  | k + 1, c, h => by
    unfold Builtin.growBy
    by_cases hc : c ≥ need
    · rw [if_pos hc]; exact h
    · rw [if_neg hc]; exact growBy_le need k _ (by omega)
theorem next_le {need old : Nat} (h : old < need) : Builtin.nextslicecap need old ≤ 2 * need + 192 := by
  unfold Builtin.nextslicecap
  by_cases h1 : need > 2 * old
  · rw [if_pos h1]; omega
  · rw [if_neg h1]
    by_cases h2 : old < 256
    · rw [if_pos h2]; omega
    · rw [if_neg h2]; exact growBy_le need 4 old (by omega)
theorem nobc_ok {t : TypeId} {i : TypeInfo} {d : TypeDesc} {ty : Ty} (F : TyF P t i d ty) {s : Src} {n : Nat} {vs : List Value} (hs : SrcR ρ n ty.cells s vs) : SrcR ρ n ty.cells (nobc ty s) vs := by
  unfold nobc
  split
  · obtain ⟨h1, h2, h3, h4⟩ := hs
    have h1 : vs = [] := h1
    subst h1
    have hn : n = 0 := by
      have h3 : 0 = ty.cells * n := h3
      rcases Nat.mul_eq_zero.1 h3.symm with h | h
      · have := F.pos; omega
      · exact h
    subst hn
    rw [brec]
    by_cases h8 : isTU8 ty = true
    · rw [if_pos h8]
      have hty := isTU8_eq h8
      subst hty
      exact ⟨rfl, rfl, rfl, by decide⟩
    · rw [if_neg h8]
      exact ⟨F.pos, rfl, fun k hk => absurd hk (by omega)⟩
  · exact hs
def extB : Blk → Nat
  | .row u n _ => u * n
  | .by l _ => l
  | _ => 0
theorem BR.pre {κ κ' : Nat} {b : Blk} {c c' : Array Value} {tid tid' : TypeId} {fr fr' : Nat × Nat} (hB : BR ρ κ b (.cells c tid fr)) (hs : c'.size = κ') (hf : NF fr' κ') (hz : (∃ u n t, b = .row u n t) → NZ fr' κ') (hl : extB b ≤ κ') (he : c'.toList.take (extB b) = c.toList.take (extB b)) : BR ρ κ' b (.cells c' tid' fr') := by
  cases b with
  | dead => trivial
  | si l y p => obtain ⟨s, e, _⟩ := hB; cases e
  | «by» l x =>
    obtain ⟨c1, ty1, fr1, e, h1, h2, h3, h4, h5⟩ := hB
    injection e with e1 e2 e3
    subst e1
    exact ⟨_, _, _, rfl, hs, hf, hl, h4, he.trans h5⟩
  | row u n t =>
    obtain ⟨c1, ty1, fr1, e, h1, h2, h3, h4, h5, h6⟩ := hB
    injection e with e1 e2 e3
    subst e1
    refine ⟨_, _, _, rfl, hs, hz ⟨u, n, t, rfl⟩, h3, hl, h5, fun i hi => ?_⟩
    have hm : (i + 1) * u ≤ n * u := Nat.mul_le_mul_right _ hi
    rw [Nat.add_mul, Nat.mul_comm n] at hm
    have hk : ∀ l : List Value, (l.drop (i * u)).take u = ((l.take (u * n)).drop (i * u)).take u := fun l => by
      rw [List.drop_take, List.take_take, Nat.min_eq_left (by omega)]
    have he : c'.toList.take (u * n) = c.toList.take (u * n) := he
    rw [hk, he, ← hk]
    exact h6 i hi
end
end Kv
end
end
section
noncomputable section
namespace Kv
open Go.RowKit
variable {P : Program}
section
variable {w w' : World}
theorem app_in {t t' e : TypeId} {ts : List TypeId} {d' : TypeDesc} {i : TypeInfo} {d : TypeDesc} {ty : Ty} (hsl : P.underlying t = some (.slice e)) (hd' : P.underlying t' = some d') (F : TyF P e i d ty) (hd0 : ∀ k, d' ≠ .int k)
    {base : Option Addr} {l c n : Nat} {x : Value} {cells : Array Value} (hlen : (Builtin.lenOf x).run P w = .ok n w) (hfc : (Builtin.firstCells ty.cells n x).run P w = .ok cells w) (hroom : l + n ≤ c)
    (hst : (match base with | some a => storeCells (a.add (l * ty.cells)) cells.toList | none => pure () : Sem Unit).run P w = .ok () w') (ty0 : TypeId) :
    (Builtin.append_ ⟨t :: t' :: ts⟩ ty0 ⟨[.slice base l c, x]⟩).run P w = .ok (.slice base (l + n) c) w' := by
  unfold Builtin.append_
  show ((underlying t) >>= _).run P w = _
  rw [rb (r_underlying hsl w)]
  show ((sizeOf e) >>= _).run P w = _
  rw [rb (r_sizeOf F.hi w), F.size]
  show ((underlying t') >>= _).run P w = _
  rw [rb (r_underlying hd' w)]
  rw [rb (a := false) (w' := w) (by cases d' <;> first | rfl | exact absurd rfl (hd0 _))]
  simp only [Bool.not_false, if_true, Bool.false_eq_true, if_false]
  show ((Builtin.lenOf x) >>= _).run P w = _
  rw [rb hlen]
  simp only [if_pos hroom]
  show ((Builtin.firstCells ty.cells n x) >>= _).run P w = _
  rw [rb hfc]
  cases base with
  | none => injection hst with _ h; subst h; rfl
  | some ad =>
    show ((storeCells (ad.add (l * ty.cells)) cells.toList) >>= _).run P w = _
    rw [rb hst]; rfl
theorem app_new {t t' e : TypeId} {ts : List TypeId} {d' : TypeDesc} {i : TypeInfo} {d : TypeDesc} {ty : Ty} (hsl : P.underlying t = some (.slice e)) (hd' : P.underlying t' = some d') (F : TyF P e i d ty) (hd0 : ∀ k, d' ≠ .int k)
    {base : Option Addr} {l c n : Nat} {x : Value} {old new : Array Value} (hlen : (Builtin.lenOf x).run P w = .ok n w) (hroom : c < l + n) (hb : l + n ≤ 100000000)
    (hfo : (Builtin.firstCells ty.cells l (.slice base l c)).run P { w with drawn := w.drawn + 1 } = .ok old { w with drawn := w.drawn + 1 }) (hfc : (Builtin.firstCells ty.cells n x).run P { w with drawn := w.drawn + 1 } = .ok new { w with drawn := w.drawn + 1 }) {z : Value} (hz : i.zero = some z) (ty0 : TypeId) :
    ∃ ca, l + n ≤ ca ∧ (Builtin.append_ ⟨t :: t' :: ts⟩ ty0 ⟨[.slice base l c, x]⟩).run P w = .ok (.slice (some ⟨w.heap.size, 0, none⟩) (l + n) ca) (pushB { w with drawn := w.drawn + 1 } (.cells (old ++ new ++ zc z.cells ((ca - (l + n)) * z.cells.size)) e (0, 0))) := by
  have hc : ∃ ca, l + n ≤ ca ∧ (choose (.appendCap (l + n) c e)).run P w = .ok ca { w with drawn := w.drawn + 1 } := ⟨_, Nat.le_add_right _ _, rfl⟩
  obtain ⟨ca, h1, h2⟩ := hc
  refine ⟨ca, h1, ?_⟩
  have hn := next_le hroom
  have hby := F.bytes
  have hnb : ¬ (Builtin.nextslicecap (l + n) c * i.bytes > 2 ^ 48) := by
    have : Builtin.nextslicecap (l + n) c * i.bytes ≤ (2 * (l + n) + 192) * 1048576 := Nat.mul_le_mul hn hby
    omega
  unfold Builtin.append_
  show ((underlying t) >>= _).run P w = _
  rw [rb (r_underlying hsl w)]
  show ((sizeOf e) >>= _).run P w = _
  rw [rb (r_sizeOf F.hi w), F.size]
  show ((underlying t') >>= _).run P w = _
  rw [rb (r_underlying hd' w)]
  rw [rb (a := false) (w' := w) (by cases d' <;> first | rfl | exact absurd rfl (hd0 _))]
  simp only [Bool.not_false, if_true, Bool.false_eq_true, if_false]
  show ((Builtin.lenOf x) >>= _).run P w = _
  rw [rb hlen]
  simp only [if_neg (Nat.not_le.2 hroom)]
  show ((typeInfo e) >>= _).run P w = _
  rw [rb (r_typeInfo F.hi w)]
  rw [if_neg (by
    have : IntKind.i64.max = 9223372036854775807 := by decide
    rw [this]; omega)]
  show ((typeInfo e) >>= _).run P w = _
  rw [rb (r_typeInfo F.hi w)]
  rw [if_neg hnb, rb h2]
  show ((typeInfo e) >>= _).run P _ = _
  rw [rb (r_typeInfo F.hi _)]
  have hroom2 : (askRoom (ca * i.bytes)).run P { w with drawn := w.drawn + 1 } = .ok () { w with drawn := w.drawn + 1 } := by
    unfold askRoom; split <;> rfl
  rw [rb hroom2]
  show ((Builtin.firstCells ty.cells l (.slice base l c)) >>= _).run P _ = _
  rw [rb hfo]
  show ((Builtin.firstCells ty.cells n x) >>= _).run P _ = _
  rw [rb hfc, rb (r_zeroValue F.hi hz _), zeroCells_eq, rb (r_newRow _ _ _)]
  rfl
end
end Kv
end
end
section
noncomputable section
namespace Kv
open Go.RowKit
variable {P : Program}
section
variable {w w' : World}
theorem wrap64 (n : Nat) (hn : n ≤ 100000) : IntKind.i64.wrap (n : Int) = n := by
  unfold IntKind.wrap
  have h1 : (n : Int) % (2 ^ 64 : Int) = n := by omega
  show (if (true && decide (((n : Int) % (2 ^ 64 : Int)) ≥ (2 ^ 63 : Int))) = true then _ else (n : Int) % (2 ^ 64 : Int)) = _
  rw [h1, if_neg (by simp; omega)]
theorem app_in0 {t t' e : TypeId} {ts : List TypeId} {k k' : IntKind} {i : TypeInfo} {d : TypeDesc} {ty : Ty} (hsl : P.underlying t = some (.slice e)) (hd' : P.underlying t' = some (.int k)) (F : TyF P e i d ty)
    {base : Option Addr} {l c n : Nat} (hn : n ≤ 100000) (hroom : l + n ≤ c) {z : Value} (hz : i.zero = some z) (hzs : z.cells.size = ty.cells)
    (hst : (match base with | some a => storeCells (a.add (l * ty.cells)) (zc z.cells (n * ty.cells)).toList | none => pure () : Sem Unit).run P w = .ok () w') (ty0 : TypeId) :
    (Builtin.append_ ⟨t :: t' :: ts⟩ ty0 ⟨[.slice base l c, .int k' (n : Nat)]⟩).run P w = .ok (.slice base (l + n) c) w' := by
  have hby := F.bytes
  have hm : ¬ ((n : Int) * (i.bytes : Nat) > 2 ^ 48) := by
    have h1 : n * i.bytes ≤ 100000 * 1048576 := Nat.mul_le_mul hn hby
    have h2 : ((n : Int) * (i.bytes : Nat)) = ((n * i.bytes : Nat) : Int) := by simp
    rw [h2]; omega
  unfold Builtin.append_
  show ((underlying t) >>= _).run P w = _
  rw [rb (r_underlying hsl w)]
  show ((sizeOf e) >>= _).run P w = _
  rw [rb (r_sizeOf F.hi w), F.size]
  show ((underlying t') >>= _).run P w = _
  rw [rb (r_underlying hd' w)]
  rw [rb (a := true) (w' := w) rfl]
  simp only [Bool.not_true, if_true, Bool.false_eq_true, if_false]
  show ((asInt (.int k' (n : Nat))) >>= _).run P w = _
  rw [rb (a := (n : Int)) (w' := w) rfl, wrap64 n hn]
  rw [if_neg (by omega)]
  show ((typeInfo e) >>= _).run P w = _
  rw [rb (r_typeInfo F.hi w)]
  rw [if_neg hm]
  simp only [Int.toNat_natCast]
  rw [rb (rp _ _)]
  simp only [if_pos hroom]
  have hap : (if n * ty.cells = 0 then pure #[] else (do pure (Builtin.zeroCells (← zeroValue e).cells n)) : Sem (Array Value)).run P w = .ok (zc z.cells (n * ty.cells)) w := by
    split
    · next q => rw [rp, q]; simp [zc]
    · rw [rb (r_zeroValue F.hi hz w), rp, zeroCells_eq, hzs]
  show ((if n * ty.cells = 0 then pure #[] else (do pure (Builtin.zeroCells (← zeroValue e).cells n)) : Sem (Array Value)) >>= _).run P w = _
  rw [rb hap]
  cases base with
  | none => injection hst with _ h; subst h; rfl
  | some ad =>
    show ((storeCells (ad.add (l * ty.cells)) _) >>= _).run P w = _
    rw [rb hst]; rfl
theorem app_new0 {t t' e : TypeId} {ts : List TypeId} {k k' : IntKind} {i : TypeInfo} {d : TypeDesc} {ty : Ty} (hsl : P.underlying t = some (.slice e)) (hd' : P.underlying t' = some (.int k)) (F : TyF P e i d ty)
    {base : Option Addr} {l c n : Nat} {old : Array Value} (hn : n ≤ 100000) (hroom : c < l + n) (hb : l + n ≤ 100000000) {z : Value} (hz : i.zero = some z) (hzs : z.cells.size = ty.cells)
    (hfo : (Builtin.firstCells ty.cells l (.slice base l c)).run P { w with drawn := w.drawn + 1 } = .ok old { w with drawn := w.drawn + 1 }) (ty0 : TypeId) :
    ∃ ca, l + n ≤ ca ∧ (Builtin.append_ ⟨t :: t' :: ts⟩ ty0 ⟨[.slice base l c, .int k' (n : Nat)]⟩).run P w = .ok (.slice (some ⟨w.heap.size, 0, none⟩) (l + n) ca) (pushB { w with drawn := w.drawn + 1 } (.cells (old ++ zc z.cells (n * ty.cells) ++ zc z.cells ((ca - (l + n)) * z.cells.size)) e (0, 0))) := by
  have hc : ∃ ca, l + n ≤ ca ∧ (choose (.appendCap (l + n) c e)).run P w = .ok ca { w with drawn := w.drawn + 1 } := ⟨_, Nat.le_add_right _ _, rfl⟩
  obtain ⟨ca, h1, h2⟩ := hc
  refine ⟨ca, h1, ?_⟩
  have hnx := next_le hroom
  have hby := F.bytes
  have hnb : ¬ (Builtin.nextslicecap (l + n) c * i.bytes > 2 ^ 48) := by
    have : Builtin.nextslicecap (l + n) c * i.bytes ≤ (2 * (l + n) + 192) * 1048576 := Nat.mul_le_mul hnx hby
    omega
  have hm : ¬ ((n : Int) * (i.bytes : Nat) > 2 ^ 48) := by
    have h1 : n * i.bytes ≤ 100000 * 1048576 := Nat.mul_le_mul hn hby
    have h2 : ((n : Int) * (i.bytes : Nat)) = ((n * i.bytes : Nat) : Int) := by simp
    rw [h2]; omega
  unfold Builtin.append_
  show ((underlying t) >>= _).run P w = _
  rw [rb (r_underlying hsl w)]
  show ((sizeOf e) >>= _).run P w = _
  rw [rb (r_sizeOf F.hi w), F.size]
  show ((underlying t') >>= _).run P w = _
  rw [rb (r_underlying hd' w)]
  rw [rb (a := true) (w' := w) rfl]
  simp only [Bool.not_true, if_true, Bool.false_eq_true, if_false]
  show ((asInt (.int k' (n : Nat))) >>= _).run P w = _
  rw [rb (a := (n : Int)) (w' := w) rfl, wrap64 n hn]
  rw [if_neg (by omega)]
  show ((typeInfo e) >>= _).run P w = _
  rw [rb (r_typeInfo F.hi w)]
  rw [if_neg hm]
  simp only [Int.toNat_natCast]
  rw [rb (rp _ _)]
  simp only [if_neg (Nat.not_le.2 hroom)]
  show ((typeInfo e) >>= _).run P w = _
  rw [rb (r_typeInfo F.hi w)]
  rw [if_neg (by
    have : IntKind.i64.max = 9223372036854775807 := by decide
    rw [this]; omega)]
  show ((typeInfo e) >>= _).run P w = _
  rw [rb (r_typeInfo F.hi w)]
  rw [if_neg hnb, rb h2]
  show ((typeInfo e) >>= _).run P _ = _
  rw [rb (r_typeInfo F.hi _)]
  have hroom2 : (askRoom (ca * i.bytes)).run P { w with drawn := w.drawn + 1 } = .ok () { w with drawn := w.drawn + 1 } := by
    unfold askRoom; split <;> rfl
  rw [rb hroom2]
  show ((Builtin.firstCells ty.cells l (.slice base l c)) >>= _).run P _ = _
  rw [rb hfo]
  have hap : ∀ w : World, (if n * ty.cells = 0 then pure #[] else (do pure (Builtin.zeroCells (← zeroValue e).cells n)) : Sem (Array Value)).run P w = .ok (zc z.cells (n * ty.cells)) w := fun w => by
    split
    · next q => rw [rp, q]; simp [zc]
    · rw [rb (r_zeroValue F.hi hz w), rp, zeroCells_eq, hzs]
  show ((if n * ty.cells = 0 then pure #[] else (do pure (Builtin.zeroCells (← zeroValue e).cells n)) : Sem (Array Value)) >>= _).run P _ = _
  rw [rb (hap _), rb (r_zeroValue F.hi hz _), zeroCells_eq, rb (r_newRow _ _ _)]
  rfl
end
end Kv
end
end
section
noncomputable section
namespace Kv
open Go.RowKit
variable {P : Program}
section
variable {ρ : Ren} {w w' : World}
theorem fresh_br {t : TypeId} {i : TypeInfo} {d : TypeDesc} {ty : Ty} (F : TyF P t i d ty) {z : Value} (hz : i.zero = some z) {l n ca : Nat} {so sn : Src} {vo vn : List Value} (ho : SrcR ρ l ty.cells so vo) (hn : SrcR ρ n ty.cells sn vn) (hc : l + n ≤ ca)
    (hd : putS (putS (rowB ty (l + n)) 0 l ty.cells (nobc ty so)) (l * ty.cells) n ty.cells sn ≠ .dead) (tid : TypeId) :
    BR ρ (ca * ty.cells) (putS (putS (rowB ty (l + n)) 0 l ty.cells (nobc ty so)) (l * ty.cells) n ty.cells sn) (.cells (vo.toArray ++ vn.toArray ++ zc z.cells ((ca - (l + n)) * z.cells.size)) tid (0, 0)) := by
  obtain ⟨z', e, hs, _⟩ := zero_cells F
  rw [hz] at e; injection e with e; subst e
  have h1 := rowB_ge F ρ hc hz tid
  have hd1 : putS (rowB ty (l + n)) 0 l ty.cells (nobc ty so) ≠ .dead := fun q => by rw [q] at hd; exact hd rfl
  obtain ⟨m1, m2⟩ := putS_ok h1 (nobc_ok F ho) hd1
  obtain ⟨m3, m4⟩ := putS_ok m2 hn hd
  have g := grown_cells z.cells (by have := F.pos; omega) (l := l) (n := n) (c := ca) (old := vo) (new := vn) (by rw [ho.length, hs]) (by rw [hn.length, hs]) hc
  rw [hs] at g
  rw [hs, ← g]
  exact m4
theorem keepS_some {v : AV} {h : HP} {k : K} {res : AV × HP} (e : keepS v h k = some res) : k v h = some res ∧ (v = .nils ∨ (∃ i o l c, v = .sl i o l c) ∨ ∃ i o l u, v = .sf i o l u) := by
  cases v <;> first
    | (cases e; done)
    | exact ⟨e, .inl rfl⟩
    | exact ⟨e, .inr (.inl ⟨_, _, _, _, rfl⟩)⟩
    | exact ⟨e, .inr (.inr ⟨_, _, _, _, rfl⟩)⟩
theorem keepS_val {v : AV} {v' : Value} (hv : VR ρ v v') (hk : v = .nils ∨ (∃ i o l c, v = .sl i o l c) ∨ ∃ i o l u, v = .sf i o l u) : ∃ b l c, v' = .slice b l c ∧ l ≤ c := by
  rcases hk with rfl | ⟨i, o, l, c, rfl⟩ | ⟨i, o, l, u, rfl⟩
  · exact ⟨_, _, _, hv, Nat.le_refl _⟩
  · obtain ⟨b, κ, h1, h2, h3⟩ := hv; exact ⟨_, _, _, h2, h3⟩
  · obtain ⟨b, κ, c, h1, h2, h3, h4, h5⟩ := hv; exact ⟨_, _, _, h2, h4⟩
theorem Ext.rename {h : HP} {w w' : World} (hr : HR ρ h w) {i g κ : Nat} (hi : ρ i = some (g, κ)) (hl : h.get i ≠ .dead) {o : Obj} (e : w'.heap = w.heap.setIfInBounds g o) (e1 : w'.os = w.os) (e2 : w'.output = w.output) (e3 : w'.tape = w.tape) {b : Blk} (hb : BR ρ κ b o) :
    Ext ρ h w (ρ.put h.n g κ) ((h.set i .dead).push b) w' := by
  have hin := (hr.at_ i g κ hi).1
  have hg := hr.lt hi
  have hnn := hr.none (Nat.le_refl h.n)
  have hle := Ren.put_le (b := g) (κ := κ) hnn
  have hwf := HP.set_wf i .dead hr.wf
  have hget : ∀ j, ((h.set i .dead).push b).get j = if j = h.n then b else if j = i then .dead else h.get j := fun j => by
    rw [HP.get_push b hwf, HP.set_n, HP.get_set .dead hr.wf hin]
  have hold : ∀ k, k ≠ g → w'.heap[k]? = w.heap[k]? := fun k hk => by rw [e, Array.getElem?_setIfInBounds_ne (Ne.symm hk)]
  have hput : ∀ j p, ρ.put h.n g κ j = some p → (j = h.n ∧ p = (g, κ)) ∨ (j ≠ h.n ∧ ρ j = some p) := fun j p hj => by
    unfold Ren.put at hj
    by_cases q : j = h.n
    · rw [if_pos q] at hj; injection hj with hj; exact .inl ⟨q, hj.symm⟩
    · rw [if_neg q] at hj; exact .inr ⟨q, hj⟩
  have hlive : ∀ j, j ≠ h.n → ((h.set i .dead).push b).get j ≠ .dead → j ≠ i ∧ h.get j ≠ .dead := fun j q hd => by
    rw [hget, if_neg q] at hd
    by_cases ej : j = i
    · rw [if_pos ej] at hd; exact absurd rfl hd
    · rw [if_neg ej] at hd; exact ⟨ej, hd⟩
  refine ⟨hle, ⟨HP.push_wf b hwf, fun j k κ' hj => ?_, fun j1 j2 k κ1 κ2 h1 h2 d1 d2 => ?_, fun j => ?_⟩, fun j p h1 h2 => ?_, by rw [HP.push_n, HP.set_n]; omega, by rw [e, Array.size_setIfInBounds]; omega, fun k hk hd => hold k fun ek => hl (hd i κ (by rw [ek]; exact hi)), fun j k κ' hj hne hk => ?_, e1, e2, e3⟩
  · rw [HP.push_n, HP.set_n, hget]
    rcases hput j _ hj with ⟨q, p⟩ | ⟨q, p⟩
    · injection p with p1 p2
      subst p1; subst p2
      rw [if_pos q]
      exact ⟨by omega, o, by rw [e, Array.getElem?_setIfInBounds_self_of_lt hg], hb.mono hle⟩
    · obtain ⟨h1, o', h2, h3⟩ := hr.at_ j k κ' p
      rw [if_neg q]
      refine ⟨by omega, ?_⟩
      by_cases ek : k = g
      · refine ⟨o, by rw [e, ek, Array.getElem?_setIfInBounds_self_of_lt hg], ?_⟩
        by_cases ej : j = i
        · rw [if_pos ej]; trivial
        · rw [if_neg ej]
          by_cases hd : h.get j = .dead
          · rw [hd]; trivial
          · exact absurd (hr.inj j i k κ' κ p (by rw [ek]; exact hi) hd hl) ej
      · refine ⟨o', by rw [hold k ek]; exact h2, ?_⟩
        by_cases ej : j = i
        · rw [if_pos ej]; trivial
        · rw [if_neg ej]; exact h3.mono hle
  · rcases hput j1 _ h1 with ⟨q1, p1⟩ | ⟨q1, p1⟩
    · rcases hput j2 _ h2 with ⟨q2, p2⟩ | ⟨q2, p2⟩
      · omega
      · injection p1 with p1 _
        obtain ⟨m1, m2⟩ := hlive j2 q2 d2
        exact absurd (hr.inj j2 i k κ2 κ p2 (by rw [p1]; exact hi) m2 hl) m1
    · obtain ⟨m1, m2⟩ := hlive j1 q1 d1
      rcases hput j2 _ h2 with ⟨q2, p2⟩ | ⟨q2, p2⟩
      · injection p2 with p2 _
        exact absurd (hr.inj j1 i k κ1 κ p1 (by rw [p2]; exact hi) m2 hl) m1
      · exact hr.inj j1 j2 k κ1 κ2 p1 p2 m2 (hlive j2 q2 d2).2
  · rw [HP.push_n, HP.set_n, hget]
    by_cases q : j = h.n
    · rw [if_pos q]
      refine .inr ⟨_, κ, o, fun j' p hj => ?_, hb.mono hle⟩
      rcases hput j' p hj with ⟨q', _⟩ | ⟨_, p'⟩
      · omega
      · have := hr.dom j' p p'; omega
    · rw [if_neg q]
      by_cases ej : j = i
      · rw [if_pos ej]; exact .inl rfl
      · rw [if_neg ej]; exact (hr.low j).mono (Nat.le_succ _)
  · rcases hput j _ h1 with ⟨q, _⟩ | ⟨q, p'⟩
    · omega
    · rw [p'] at h2; cases h2
  · rcases hput j _ hj with ⟨q, p⟩ | ⟨q, p⟩
    · injection p with p1 p2
      subst p1
      exact ⟨i, κ, hi, hl⟩
    · exact ⟨j, κ', p, (hlive j q hne).2⟩
end
end Kv
end
end
section
noncomputable section
namespace Kv
open Go.RowKit
variable {P : Program}
section
variable {ρ : Ren} {w w' : World} {h : HP}
structure AX (P : Program) (ρ : Ren) (w : World) (t t' : TypeId) (ts : List TypeId) (e : TypeId) (z : Array Value) (ty : Ty) (n : Nat) (sn : Src) (x : Value) : Prop where
  inn : ∃ vn, SrcR ρ n ty.cells sn vn ∧ ∀ (base : Option Addr) (l c : Nat) (w' : World) (ty0 : TypeId), l + n ≤ c → (match base with | some a => storeCells (a.add (l * ty.cells)) vn | none => pure () : Sem Unit).run P w = .ok () w' →
    (Builtin.append_ ⟨t :: t' :: ts⟩ ty0 ⟨[.slice base l c, x]⟩).run P w = .ok (.slice base (l + n) c) w'
  new : ∃ vn, SrcR ρ n ty.cells sn vn ∧ ∀ (base : Option Addr) (l c : Nat) (old : Array Value) (ty0 : TypeId), c < l + n → l + n ≤ 100000000 → (Builtin.firstCells ty.cells l (.slice base l c)).run P { w with drawn := w.drawn + 1 } = .ok old { w with drawn := w.drawn + 1 } →
    ∃ ca, l + n ≤ ca ∧ (Builtin.append_ ⟨t :: t' :: ts⟩ ty0 ⟨[.slice base l c, x]⟩).run P w = .ok (.slice (some ⟨w.heap.size, 0, none⟩) (l + n) ca) (pushB { w with drawn := w.drawn + 1 } (.cells (old ++ vn.toArray ++ zc z ((ca - (l + n)) * z.size)) e (0, 0)))
theorem ax_zero {t t' e : TypeId} {ts : List TypeId} {k k' : IntKind} {i : TypeInfo} {d : TypeDesc} {ty : Ty} (hsl : P.underlying t = some (.slice e)) (hd' : P.underlying t' = some (.int k)) (F : TyF P e i d ty) {n : Nat} (hn : n ≤ 100000) {z : Value} (hz : i.zero = some z) :
    AX P ρ w t t' ts e z.cells ty n (zsrc ty n) (.int k' (n : Nat)) := by
  obtain ⟨z', e', hs, _⟩ := zero_cells F
  rw [hz] at e'; injection e' with e'; subst e'
  have hS := zsrc_ok F ρ n hz
  refine ⟨⟨_, hS, fun base l c w' ty0 hr hst => app_in0 hsl hd' F hn hr hz hs hst ty0⟩, ⟨_, hS, fun base l c old ty0 hr hb hfo => ?_⟩⟩
  obtain ⟨ca, h1, h2⟩ := app_new0 (ts := ts) (k' := k') hsl hd' F hn hr hb hz hs hfo ty0
  exact ⟨ca, h1, by simpa using h2⟩
theorem ax_src {t t' e : TypeId} {ts : List TypeId} {d' : TypeDesc} {i : TypeInfo} {d : TypeDesc} {ty : Ty} (hr : HR ρ h w) (hsl : P.underlying t = some (.slice e)) (hd' : P.underlying t' = some d') (hd0 : ∀ k, d' ≠ .int k) (F : TyF P e i d ty) {n : Nat} {z : Value} (hz : i.zero = some z)
    {v : AV} {v' : Value} (hv : VR ρ v v') (hl : lenV v = some n) (hstr : ∀ l x, v = .str l x → ty.cells = 1) (hu : srcOf h v n ty.cells (isTU8 ty) ≠ .bad) :
    AX P ρ w t t' ts e z.cells ty n (srcOf h v n ty.cells (isTU8 ty)) v' := by
  have h8 : isTU8 ty = true → ty.cells = 1 := fun h => by rw [isTU8_eq h]; rfl
  obtain ⟨v1, a1, a2⟩ := src_ok hr h8 F.pos hv hl (Nat.le_refl n) hstr hu
  obtain ⟨v2, b1, b2⟩ := src_ok (hr.drew (w' := { w with drawn := w.drawn + 1 }) rfl) h8 F.pos hv hl (Nat.le_refl n) hstr hu
  refine ⟨⟨v1, a2, fun base l c w' ty0 hroom hst => app_in hsl hd' F hd0 (VR_len hv hl w) a1 hroom hst ty0⟩, ⟨v2, b2, fun base l c old ty0 hroom hb hfo => app_new hsl hd' F hd0 (VR_len hv hl w) hroom hb hfo b1 hz ty0⟩⟩
end
end Kv
end
end
section
noncomputable section
namespace Kv
open Go.RowKit
variable {P : Program}
section
variable {ρ : Ren} {w w' : World} {h : HP}
theorem fresh_some {ty : Ty} {so sn : Src} {l n : Nat} {h : HP} {k : K} {res : AV × HP} (e : fresh ty so l n sn h k = some res) :
    l + n ≤ 100000000 ∧ putS (putS (rowB ty (l + n)) 0 l ty.cells (nobc ty so)) (l * ty.cells) n ty.cells sn ≠ .dead ∧ k (.sf h.n 0 (l + n) ty.cells) (h.push (putS (putS (rowB ty (l + n)) 0 l ty.cells (nobc ty so)) (l * ty.cells) n ty.cells sn)) = some res := by
  unfold fresh at e
  rw [brec_ble] at e
  by_cases hb : Nat.add l n ≤ 100000000
  · rw [if_pos hb] at e
    obtain ⟨h1, h2⟩ := gp_some e
    exact ⟨hb, h1, h2⟩
  · rw [if_neg hb] at e; cases e
theorem fresh_ext {t t' e : TypeId} {ts : List TypeId} {i : TypeInfo} {d : TypeDesc} {ty : Ty} (F : TyF P e i d ty) {z : Value} (hz : i.zero = some z) (hr : HR ρ h w) {n l c : Nat} {so sn : Src} {x : Value} {base : Option Addr} {vo : List Value}
    (A : AX P ρ w t t' ts e z.cells ty n sn x) (hc : c < l + n) (hb : l + n ≤ 100000000) (ho : SrcR ρ l ty.cells so vo) (hfo : (Builtin.firstCells ty.cells l (.slice base l c)).run P { w with drawn := w.drawn + 1 } = .ok vo.toArray { w with drawn := w.drawn + 1 })
    (hd : putS (putS (rowB ty (l + n)) 0 l ty.cells (nobc ty so)) (l * ty.cells) n ty.cells sn ≠ .dead) (ty0 : TypeId) :
    ∃ ρ' v' w', (Builtin.append_ ⟨t :: t' :: ts⟩ ty0 ⟨[.slice base l c, x]⟩).run P w = .ok v' w' ∧ Ext ρ h w ρ' (h.push (putS (putS (rowB ty (l + n)) 0 l ty.cells (nobc ty so)) (l * ty.cells) n ty.cells sn)) w' ∧ VR ρ' (.sf h.n 0 (l + n) ty.cells) v' := by
  obtain ⟨vn, s1, s2⟩ := A.new
  obtain ⟨ca, h1, h2⟩ := s2 base l c vo.toArray ty0 hc hb hfo
  have hB := fresh_br F hz ho s1 h1 hd e
  refine ⟨ρ.put h.n w.heap.size (ca * ty.cells), _, _, h2, Ext.push (w' := pushB { w with drawn := w.drawn + 1 } (.cells (vo.toArray ++ vn.toArray ++ zc z.cells ((ca - (l + n)) * z.cells.size)) e (0, 0))) hr rfl rfl rfl rfl hB, ⟨w.heap.size, ca * ty.cells, ca, Ren.put_self _ _ _ _, rfl, (Nat.zero_add _).symm, h1, F.pos⟩⟩
end
end Kv
end
end
section
noncomputable section
namespace Kv
open Go.RowKit
variable {P : Program}
section
variable {ρ : Ren} {w w' : World} {h : HP}
theorem in_ext {t t' e : TypeId} {ts : List TypeId} {ty : Ty} {z : Array Value} (hr : HR ρ h w) {n l c i g κ o : Nat} {sn : Src} {x : Value}
    (A : AX P ρ w t t' ts e z ty n sn x) (hc : l + n ≤ c) (hi : ρ i = some (g, κ)) (hd : putS (h.get i) (o + l * ty.cells) n ty.cells sn ≠ .dead) (ty0 : TypeId) :
    ∃ w', (Builtin.append_ ⟨t :: t' :: ts⟩ ty0 ⟨[.slice (some ⟨g, o, none⟩) l c, x]⟩).run P w = .ok (.slice (some ⟨g, o, none⟩) (l + n) c) w' ∧ Ext ρ h w ρ (h.set i (putS (h.get i) (o + l * ty.cells) n ty.cells sn)) w' := by
  obtain ⟨vn, s1, s2⟩ := A.inn
  obtain ⟨ob, ho, hB⟩ := hr.obj hi
  have hlive : h.get i ≠ .dead := fun q => by rw [q] at hd; exact hd rfl
  obtain ⟨cs, tid, fr, rfl, k1, k2⟩ := hB.cells_of hlive (fun l y p q => by rw [q] at hd; exact hd rfl)
  obtain ⟨m1, m2⟩ := putS_ok hB s1 hd
  refine ⟨setB w g (.cells (splC cs (o + l * ty.cells) vn) tid fr), s2 _ l c _ ty0 hc ?_, Ext.setB hr hi hlive m2⟩
  show (storeCells ((⟨g, o, none⟩ : Addr).add (l * ty.cells)) vn).run P w = _
  rw [add_at]
  exact r_storeCells k1 k2 _ w cs (o + l * ty.cells) 0 ho k1 (by omega) s1.one
theorem extB_putS {b : Blk} {o n c : Nat} {s : Src} (hd : putS b o n c s ≠ .dead) : extB (putS b o n c s) = extB b := by
  cases b with
  | dead => exact absurd rfl hd
  | si l x p => exact absurd rfl hd
  | «by» l x =>
    cases s with
    | b m y =>
      have e : putS (.by l x) o n c (.b m y) = if o + n ≤ l then .by l (spb l x o n y) else .dead := brec_ble _ _ _ _
      rw [e] at hd ⊢
      split
      · rfl
      · next h => rw [if_neg h] at hd; exact absurd rfl hd
    | _ => exact absurd rfl hd
  | row u m t =>
    have key : ∀ b', (b' = .dead ∨ ∃ t', b' = .row u m t') → b' ≠ .dead → extB b' = u * m := fun b' h hd => by
      rcases h with h | ⟨t', rfl⟩
      · exact absurd h hd
      · rfl
    refine key _ ?_ hd
    have hcells : ∀ l, putS.cells o n u m t l = .dead ∨ ∃ t', putS.cells o n u m t l = .row u m t' := fun l => by
      unfold putS.cells
      rw [brec_ble]
      split
      · exact .inl rfl
      · split
        · rw [brec_ble]; split
          · exact .inr ⟨_, rfl⟩
          · exact .inl rfl
        · exact .inl rfl
    cases s with
    | bad => exact .inl rfl
    | b k y =>
      unfold putS
      simp only [brec_ble]
      split
      · exact .inl rfl
      · split
        · split
          · exact .inr ⟨_, rfl⟩
          · exact .inl rfl
        · exact .inl rfl
    | t s i =>
      unfold putS
      simp only [brec_ble, brec_beq, brec]
      repeat' split
      all_goals first | exact .inl rfl | exact .inr ⟨_, rfl⟩ | exact hcells _
    | c l =>
      unfold putS
      simp only [brec_ble, brec_beq]
      repeat' split
      all_goals first | exact .inl rfl | exact .inr ⟨_, rfl⟩ | exact hcells _
end
end Kv
end
end
section
noncomputable section
namespace Kv
open Go.RowKit
variable {P : Program}
section
variable {ρ : Ren} {w w' : World} {h : HP}
def AO (P : Program) (t t' : TypeId) (ts : List TypeId) (e : TypeId) (z : Array Value) (ty : Ty) (s : AV) (n : Nat) (sn : Src) (h : HP) (v : AV) (h' : HP) : Prop := ∀ ρ w s' x' ty0, HR ρ h w → VR ρ s s' → AX P ρ w t t' ts e z ty n sn x' →
  ∃ ρ' v' w', (Builtin.append_ ⟨t :: t' :: ts⟩ ty0 ⟨[s', x']⟩).run P w = .ok v' w' ∧ Ext ρ h w ρ' h' w' ∧ VR ρ' v v'
theorem putS_by (l x o n c : Nat) (s : Src) : putS (.by l x) o n c s = .dead ∨ ∃ y, putS (.by l x) o n c s = .by l y := by
  cases s <;> first | exact .inl rfl | skip
  case b m y =>
    have e : putS (.by l x) o n c (.b m y) = @Bool.rec (fun _ => Blk) .dead (.by l (spb l x o n y)) (Nat.ble (Nat.add o n) l) := rfl
    rw [e, brec]
    split
    · exact .inr ⟨_, rfl⟩
    · exact .inl rfl
theorem appS_ok {t t' e : TypeId} {ts : List TypeId} {i : TypeInfo} {d : TypeDesc} {ty : Ty} (F : TyF P e i d ty) {z : Value} (hz : i.zero = some z) {s : AV} {n : Nat} {sn : Src} {k : K} {res : AV × HP} (hf : appS ty s n sn h k = some res) :
    ∃ v h', k v h' = some res ∧ AO P t t' ts e z.cells ty s n sn h v h' := by
  unfold appS at hf
  rw [brec_beq] at hf
  by_cases hn : n = 0
  · rw [if_pos hn] at hf
    subst hn
    obtain ⟨h1, h2⟩ := keepS_some hf
    refine ⟨_, _, h1, fun ρ w s' x' ty0 hr hs A => ?_⟩
    obtain ⟨b, l, c, rfl, hlc⟩ := keepS_val hs h2
    obtain ⟨vn, s1, s2⟩ := A.inn
    have hv : vn = [] := List.length_eq_zero_iff.1 (by rw [s1.length, Nat.mul_zero])
    subst hv
    refine ⟨ρ, _, w, s2 b l c w ty0 hlc ?_, Ext.refl hr, hs⟩
    cases b <;> rfl
  · rw [if_neg hn] at hf
    have h8 : isTU8 ty = true → ty.cells = 1 := fun h => by rw [isTU8_eq h]; rfl
    cases s <;> first | (cases hf; done) | skip
    case nils =>
      obtain ⟨h0, h1, h2⟩ := fresh_some hf
      refine ⟨_, _, h2, fun ρ w s' x' ty0 hr hs A => ?_⟩
      have hs : s' = .slice none 0 0 := hs
      subst hs
      exact fresh_ext F hz hr A (l := 0) (c := 0) (vo := []) (so := .c []) (by omega) h0 ⟨rfl, rfl, rfl, .inr rfl⟩ rfl h1 ty0
    case sl i o l c =>
      have e0 : appendV ty (.sl i o l c) n sn h k = if l + n ≤ c then gb (putS (h.get i) (o + l * ty.cells) n ty.cells sn) h i (.sl i o (l + n) c) k else fresh ty (srcOf h (.sl i o l c) l ty.cells (isTU8 ty)) l n sn h k := brec_ble _ _ _ _
      rw [e0] at hf
      by_cases hc : l + n ≤ c
      · rw [if_pos hc] at hf
        obtain ⟨h1, h2⟩ := gb_some hf
        refine ⟨_, _, h2, fun ρ w s' x' ty0 hr hs A => ?_⟩
        obtain ⟨g, κ, hi, rfl, hlc⟩ := hs
        obtain ⟨w', r1, r2⟩ := in_ext hr A hc hi h1 ty0
        exact ⟨ρ, _, w', r1, r2, g, κ, hi, rfl, hc⟩
      · rw [if_neg hc] at hf
        obtain ⟨h0, h1, h2⟩ := fresh_some hf
        refine ⟨_, _, h2, fun ρ w s' x' ty0 hr hs A => ?_⟩
        have hs0 := hs
        obtain ⟨g, κ, hi, rfl, hlc⟩ := hs
        obtain ⟨vo, a1, a2⟩ := src_ok (hr.drew (w' := { w with drawn := w.drawn + 1 }) rfl) h8 F.pos hs0 (l := l) rfl (Nat.le_refl l) (fun l x e => by cases e) (u8 := isTU8 ty) (fun q => by rw [q] at h1; apply h1; rw [show nobc ty .bad = .bad from rfl, putS_bad]; rfl)
        exact fresh_ext F hz hr A (by omega) h0 a2 a1 h1 ty0
    case sf i o l u =>
      have e0 : appendV ty (.sf i o l u) n sn h k = if u = ty.cells then (if l + n ≤ room (h.get i) o u then gb (putS (h.get i) (o + l * u) n u sn) h i (.sf i o (l + n) u) k else if o = 0 then fresh ty (srcOf h (.sf i o l u) l u (isTU8 ty)) l n sn (h.set i .dead) k else none) else none := by
        show @Bool.rec (fun _ => R) _ _ _ = _
        rw [brec_beq, brec_ble, brec_beq]; rfl
      rw [e0] at hf
      by_cases hu : u = ty.cells
      · rw [if_pos hu] at hf
        subst hu
        by_cases hroom : l + n ≤ room (h.get i) o ty.cells
        · rw [if_pos hroom] at hf
          obtain ⟨h1, h2⟩ := gb_some hf
          refine ⟨_, _, h2, fun ρ w s' x' ty0 hr hs A => ?_⟩
          obtain ⟨g, κ, c, hi, rfl, hκ, hlc, hp⟩ := hs
          have hc : l + n ≤ c := by
            obtain ⟨vn, s1, _⟩ := A.inn
            obtain ⟨ob, ho, hB⟩ := hr.obj hi
            have hlive : h.get i ≠ .dead := fun q => by rw [q] at h1; exact h1 rfl
            obtain ⟨cs, tid, fr, rfl, k1, k2⟩ := hB.cells_of hlive (fun l y p q => by rw [q] at h1; exact h1 rfl)
            obtain ⟨m1, m2⟩ := putS_ok hB s1 h1
            rw [s1.length, hκ, Nat.mul_comm _ n] at m1
            have : (l + n) * ty.cells ≤ c * ty.cells := by rw [Nat.add_mul]; omega
            exact Nat.le_of_mul_le_mul_right this hp
          obtain ⟨w', r1, r2⟩ := in_ext hr A hc hi h1 ty0
          exact ⟨ρ, _, w', r1, r2, g, κ, c, hi, rfl, hκ, hc, hp⟩
        · rw [if_neg hroom] at hf
          by_cases ho0 : o = 0
          · rw [if_pos ho0] at hf
            subst ho0
            obtain ⟨h0, h1, h2⟩ := fresh_some hf
            rw [HP.set_n] at h2
            refine ⟨_, _, h2, fun ρ w s' x' ty0 hr hs A => ?_⟩
            have hs0 := hs
            obtain ⟨g, κ, c, hi, rfl, hκ, hlc, hp⟩ := hs
            have hd1 : putS (rowB ty (l + n)) 0 l ty.cells (nobc ty (srcOf h (.sf i 0 l ty.cells) l ty.cells (isTU8 ty))) ≠ .dead := fun q => by rw [q] at h1; exact h1 rfl
            have hbad : srcOf h (.sf i 0 l ty.cells) l ty.cells (isTU8 ty) ≠ .bad := fun q => by rw [q] at hd1; exact hd1 (putS_bad _ _ _ _)
            have hlive : h.get i ≠ .dead := fun q => hbad (by show srcOf.go h l ty.cells (isTU8 ty) i 0 = _; unfold srcOf.go; rw [q])
            by_cases hc : l + n ≤ c
            · obtain ⟨vn, s1, s2⟩ := A.inn
              obtain ⟨ob, ho, hB⟩ := hr.obj hi
              obtain ⟨cs, tid, fr, rfl, k1, k2⟩ := hB.cells_of hlive (fun l' y p q => hbad (by show srcOf.go h l ty.cells (isTU8 ty) i 0 = _; unfold srcOf.go; rw [q]))
              have hκ' : κ = c * ty.cells := by omega
              have hmul : (l + n) * ty.cells ≤ c * ty.cells := Nat.mul_le_mul_right _ hc
              rw [Nat.add_mul] at hmul
              obtain ⟨vo, a1, a2⟩ := src_ok hr h8 F.pos hs0 (l := l) rfl (Nat.le_refl l) (fun l x e => by cases e) hbad
              have a3 := r_firstCells (P := P) (n := l) (c := ty.cells) (l := l) (k := c) ho (show 0 + l * ty.cells ≤ cs.size by omega)
              rw [a1] at a3
              injection a3 with a3 _
              have a4 : vo = cs.toList.take (l * ty.cells) := by
                have := congrArg Array.toList a3
                simpa using this
              have hvn := s1.length
              rw [Nat.mul_comm] at hvn
              have hB2 := fresh_br F hz a2 s1 hc h1 tid
              have hext : extB (putS (putS (rowB ty (l + n)) 0 l ty.cells (nobc ty (srcOf h (.sf i 0 l ty.cells) l ty.cells (isTU8 ty)))) (l * ty.cells) n ty.cells sn) = l * ty.cells + n * ty.cells := by
                rw [extB_putS h1, extB_putS hd1, rowB_eq F, ← Nat.add_mul]
                split
                · next q => rw [h8 q, Nat.mul_one]; rfl
                · exact Nat.mul_comm _ _
              have hlen : vo.length = l * ty.cells := by rw [a4, List.length_take, Array.length_toList]; omega
              have hzz : (∃ u' n' t', putS (putS (rowB ty (l + n)) 0 l ty.cells (nobc ty (srcOf h (.sf i 0 l ty.cells) l ty.cells (isTU8 ty)))) (l * ty.cells) n ty.cells sn = .row u' n' t') → NZ fr κ := fun hrow => by
                obtain ⟨u', n', t', er⟩ := hrow
                cases q : isTU8 ty with
                | true =>
                  rw [rowB_eq F, if_pos q] at er
                  rcases putS_by (l + n) 0 0 l ty.cells (nobc ty (srcOf h (.sf i 0 l ty.cells) l ty.cells (isTU8 ty))) with e1 | ⟨x1, e1⟩
                  · rw [e1] at er; cases er
                  · rw [e1] at er
                    rcases putS_by (l + n) x1 (l * ty.cells) n ty.cells sn with e2 | ⟨x2, e2⟩ <;> (rw [e2] at er; cases er)
                | false =>
                  rw [q] at hbad
                  have hgo : srcOf.go h l ty.cells false i 0 ≠ .bad := hbad
                  cases hgi : h.get i with
                  | dead => exact absurd hgi hlive
                  | si _ _ _ => exact absurd (by unfold srcOf.go; rw [hgi]) hgo
                  | «by» _ _ => exact absurd (by unfold srcOf.go; rw [hgi]) hgo
                  | row _ _ _ =>
                    rw [hgi] at hB
                    obtain ⟨_, _, _, e', _, h2, _⟩ := hB
                    injection e' with _ _ e3
                    rw [e3]; exact h2
              have hpre := BR.pre (c' := splC cs (0 + l * ty.cells) vn) (tid' := tid) (fr' := fr) (κ' := κ) hB2 (by rw [splC_size (by omega), k1]) k2 hzz (by rw [hext]; omega) (by
                rw [hext, splC_eq, Array.toList_append, Array.toList_append, Nat.zero_add]
                unfold splL
                rw [← a4, ← List.append_assoc, List.take_left' (by rw [List.length_append, hlen, hvn]), List.take_left' (by rw [List.length_append, hlen, hvn])])
              refine ⟨ρ.put h.n g κ, _, setB w g (.cells (splC cs (0 + l * ty.cells) vn) tid fr), s2 _ l c _ ty0 hc ?_, Ext.rename (w' := setB w g (.cells (splC cs (0 + l * ty.cells) vn) tid fr)) hr hi hlive rfl rfl rfl rfl hpre, ⟨g, κ, c, Ren.put_self _ _ _ _, rfl, hκ, hc, hp⟩⟩
              show (storeCells ((⟨g, 0, none⟩ : Addr).add (l * ty.cells)) vn).run P w = _
              rw [add_at]
              exact r_storeCells k1 k2 _ w cs (0 + l * ty.cells) 0 ho k1 (by omega) s1.one
            · obtain ⟨vo, a1, a2⟩ := src_ok (hr.drew (w' := { w with drawn := w.drawn + 1 }) rfl) h8 F.pos hs0 (l := l) rfl (Nat.le_refl l) (fun l x e => by cases e) hbad
              obtain ⟨ρ', v', w', r1, r2, r3⟩ := fresh_ext F hz (Ext.kill hr hi).hr A (by omega) h0 a2 a1 h1 ty0
              rw [HP.set_n] at r3
              exact ⟨ρ', v', w', r1, (Ext.kill hr hi).trans r2, r3⟩
          · rw [if_neg ho0] at hf; cases hf
      · rw [if_neg hu] at hf; cases hf
end
end Kv
end
end
section
noncomputable section
namespace Kv
open Go.RowKit
variable {P : Program}
def Upon (P : Program) (f : FuncId) (args : Array Value) (w : World) (K : Value → World → Prop) : Prop :=
  match (callFunc f args).run P w with
  | .ok (.value v) w' => K v w'
  | .ok (.enter g as) w' => Calls P g as w' fun e w'' => match e with | .returned v => K v w'' | _ => False
  | _ => False
def CallR (P : Program) (f : FuncId) (args : List AV) (h : HP) (v : AV) (h' : HP) : Prop := ∀ ρ args' w (K : Value → World → Prop), VRs ρ args args' → HR ρ h w →
  (∀ ρ' v' w', Ext ρ h w ρ' h' w' → VR ρ' v v' → K v' w') → Upon P f args'.toArray w K
def CallOK (P : Program) (call : Go.Proofs.YtfkoaooceickiaaGreat.Kv.Call) : Prop := ∀ f args h k res, call f args h k = some res → ∃ v h', k v h' = some res ∧ CallR P f args h v h'
structure Idle (P : Program) (f : FuncId) : Prop where
  body : ∃ fn c, P.funcs[f]? = some fn ∧ fn.body = some c ∧ fn.name ≠ "runtime.NumGoroutine"
  run : ∀ p w, CallsD P f #[.pointer (some p)] .returning w fun e u' w' => e = .returned (.tuple #[]) ∧ u' = .returning ∧ w' = w
structure SmOk (P : Program) (S : Sm) : Prop where
  s : ∀ f g, S.S f = some g → ∀ args h v h', g args h = some (v, h') → CallR P f args h v h'
  i : ∀ f, S.I f = true → Idle P f
def Idles (P : Program) (ds : List Deferred) : Prop := ∀ d ∈ ds, ∃ f p, Idle P f ∧ d = { target := .fn (.func f) #[.pointer (some p)], args := #[] }
section
variable {ρ : Ren} {w : World} {h : HP} {r : RG} {a : Act} {S : Sm}
theorem onFnR_some {v : AV} {φ : Fn → List AV → List AV → R} {res : AV × HP} (e : onFnR v φ = some res) : ∃ f a b, v = .fn f a b ∧ φ f a b = some res := by cases v <;> first | exact ⟨_, _, _, rfl, e⟩ | (cases e; done)
theorem ER.of_call {c : Go.Call} {dst : Option Tmp} {ty : TypeId} {pos : String} {after : Array Edge} {gd : Option (Nat × Bool)} {f : FuncId} {args : List AV} {v : AV} {h' : HP} (hc : CallR P f args h v h')
    (e : ∀ ρ (a : Act), RR ρ r a → ∃ args', VRs ρ args args' ∧ ∀ w, (execOp a.eval ⟨dst, .call c, ty, pos, after, gd⟩).run P w = (callFunc f args'.toArray).run P w) : ER P (Idles P) ⟨dst, .call c, ty, pos, after, gd⟩ r h v h' := fun ρ a w next Q rr hr hI hn => by
  obtain ⟨args', h1, h2⟩ := e ρ a rr
  have := hc ρ args' w (fun v' w' => next (a.put dst v') w') h1 hr (fun ρ' v' w' k1 k2 => hn ρ' v' w' a.defers k1 k2 hI)
  unfold Oper.wp
  rw [h2 w]
  unfold Upon at this
  generalize (callFunc f args'.toArray).run P w = x at this ⊢
  cases x with
  | halt x w' => exact this.elim
  | ok n w' =>
    cases n <;> first | exact this.elim | skip
    case value v' => exact this
    case enter g as =>
      refine Calls.mono this fun e w'' he => ?_
      cases e <;> first | exact he | exact he.elim
theorem r_ofValue {f : FuncId} {c d : Array Value} (l : Array Value) (w : World) : (Deferred.ofValue (.func (.func f) c d) l).run P w = .ok { target := .fn (.func f) d, args := c ++ l } w := rfl
theorem call_exec (ev : Operand → Value) (x : Operand) (l : List Operand) (ts : Array TypeId) (dst : Option Tmp) (ty : TypeId) (pos : String) (after : Array Edge) (gd : Option (Nat × Bool)) {f : FuncId} {c d : Array Value} (hx : ev x = .func (.func f) c d) (w : World) :
    (execOp ev ⟨dst, .call ⟨.value x, ⟨l⟩, ts⟩, ty, pos, after, gd⟩).run P w = (callFunc f ((c ++ (l.map ev).toArray) ++ d)).run P w := by
  have e : (⟨l⟩ : Array Operand).map ev = (l.map ev).toArray := by simp
  unfold execOp
  show ((resolve ev ⟨.value x, ⟨l⟩, ts⟩ ty) >>= fun d => invoke d.target d.args).run P w = _
  have h1 : (resolve ev ⟨.value x, ⟨l⟩, ts⟩ ty).run P w = .ok { target := .fn (.func f) d, args := c ++ (l.map ev).toArray } w := by
    unfold resolve
    simp only [hx, e]
    rfl
  rw [rb h1]; rfl
end
end Kv
end
end
end Go.Proofs.YtfkoaooceickiaaGreat
