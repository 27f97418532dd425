/- Parts of the proof: Kvv Kvw Kvx. -/
import Derived.Test.YtfkoaooceickiaaGreatH10
set_option linter.all false
set_option maxRecDepth 100000
namespace Go.Proofs.YtfkoaooceickiaaGreat
section
noncomputable section
namespace Kv
open Go.RowKit
variable {P : Program}
section
variable {ρ : Ren} {w : World} {h : HP} {r : RG} {a : Act}
def AR (P : Program) (o : Oper) (r : RG) (n : Nat) (b : Blk) (v : AV) : Prop := ∀ ρ a w, RR ρ r a → ∃ ob κ v' w', (execOp a.eval o).run P w = .ok (.value v') w' ∧ w'.heap = w.heap.push ob ∧ w'.os = w.os ∧ w'.output = w.output ∧ w'.tape = w.tape ∧ BR ρ κ b ob ∧
  ∀ ρ', RLe ρ ρ' → ρ' n = some (w.heap.size, κ) → VR ρ' v v'
theorem gp_some {b : Blk} {h : HP} {v : AV} {k : K} {res : AV × HP} (e : gp b h v k = some res) : b ≠ .dead ∧ k v (h.push b) = some res := by
  cases b <;> first | (cases e; done) | exact ⟨(fun e => by cases e), e⟩
def pushB (w : World) (o : Obj) : World := { w with heap := w.heap.push o }
theorem r_newRow (t : TypeId) (c : Array Value) (w : World) : (newRow t c).run P w = .ok ⟨w.heap.size, 0, none⟩ (pushB w (.cells c t (0, 0))) := rfl
theorem zero_cells {t : TypeId} {i : TypeInfo} {d : TypeDesc} {ty : Ty} (F : TyF P t i d ty) : ∃ z, i.zero = some z ∧ z.cells.size = ty.cells ∧ ∀ ρ, UR ρ ty.cells ty.zero z.cells.toList := by
  obtain ⟨z, h1, _, h3⟩ := F.zero
  exact ⟨z, h1, by have := (h3 fun _ => none).len; rwa [Array.length_toList] at this, h3⟩
def zc (z : Array Value) (n : Nat) : Array Value := (Array.range n).map (z[· % z.size]!)
theorem zc_size (z : Array Value) (n : Nat) : (zc z n).size = n := by simp [zc]
theorem zc_get (z : Array Value) (n : Nat) {k : Nat} (hk : k < n) (hz : 0 < z.size) : (zc z n).toList[k]? = z.toList[k % z.size]? := by
  have hm := Nat.mod_lt k hz
  rw [Array.getElem?_toList, Array.getElem?_toList, Array.getElem?_eq_getElem (by rw [zc_size]; exact hk), Array.getElem?_eq_getElem hm]
  simp [zc, hm]
theorem zc_chunk (z : Array Value) (hz : 0 < z.size) (n i : Nat) (hi : i < n) : ((zc z (n * z.size)).toList.drop (i * z.size)).take z.size = z.toList := by
  apply List.ext_getElem?
  intro k
  by_cases hk : k < z.size
  · have h1 : (i + 1) * z.size ≤ n * z.size := Nat.mul_le_mul_right _ hi
    rw [Nat.add_mul] at h1
    rw [List.getElem?_take_of_lt hk, List.getElem?_drop, zc_get _ _ (by omega) hz, Nat.add_comm, Nat.add_mul_mod_self_right, Nat.mod_eq_of_lt hk]
  · rw [List.getElem?_eq_none (by simp; omega), List.getElem?_eq_none (by simp; omega)]
theorem isTU8_eq {ty : Ty} (h : isTU8 ty = true) : ty = .sc (.int 4 0) := by
  unfold isTU8 at h
  split at h
  · split at h
    · next k x =>
      rw [brec_beq] at h
      split at h
      · next e => subst e; rw [(beq_iff _ _).1 h]
      · cases h
    · cases h
  · cases h
theorem bys0 : ∀ k, bys k 0 = List.replicate k 0
  | 0 => rfl
  | k + 1 => by
    have := bys_length (k + 1) 0
    rw [List.eq_replicate_iff]
    refine ⟨this, fun b hb => ?_⟩
    obtain ⟨i, hi⟩ := List.getElem?_of_mem hb
    have hl := (List.getElem?_eq_some_iff.1 hi).1
    rw [bys_get _ _ _ (by omega)] at hi
    injection hi with hi
    rw [← hi]; simp
theorem rowB_eq {t : TypeId} {i : TypeInfo} {d : TypeDesc} {ty : Ty} (F : TyF P t i d ty) (n : Nat) : rowB ty n = if isTU8 ty = true then .by n 0 else .row ty.cells n (.mk ty.zero (dep n)) := by
  unfold rowB
  rw [brec_beq, if_neg (by have := F.pos; omega), brec]
theorem rowB_no (n : Nat) : rowB .no n = .dead := rfl
theorem rowB_ok {t : TypeId} {i : TypeInfo} {d : TypeDesc} {ty : Ty} (F : TyF P t i d ty) (ρ : Ren) (n : Nat) {z : Value} (hz : i.zero = some z) (tid : TypeId) : BR ρ (n * ty.cells) (rowB ty n) (.cells (zc z.cells (n * ty.cells)) tid (0, 0)) := by
  obtain ⟨z', e, hs, hu⟩ := zero_cells F
  rw [hz] at e; injection e with e; subst e
  have hNF : NF (0, 0) (n * ty.cells) := fun o _ => by simp
  have hpos := F.pos
  rw [rowB_eq F]
  by_cases h8 : isTU8 ty = true
  · rw [if_pos h8]
    have hty : ty = .sc (.int 4 0) := isTU8_eq h8
    subst hty
    have h1 : z.cells.toList = [Value.int .u8 (0 : Nat)] := by
      have := (hu ρ).vs
      obtain ⟨x, y, e1, e2, e3⟩ := this
      have e3 : y = [] := e3
      rw [e1, e3, (VR_int.1 e2).1]; rfl
    have hc : (Ty.sc (.int 4 0)).cells = 1 := rfl
    rw [hc] at hs hNF ⊢
    rw [Nat.mul_one] at hNF ⊢
    refine ⟨_, _, _, rfl, zc_size _ _, hNF, Nat.le_refl _, Nat.pow_pos (by omega), ?_⟩
    unfold byC
    rw [bys0, List.map_replicate, List.eq_replicate_iff]
    have hl : (zc z.cells n).toList.length = n := by rw [Array.length_toList, zc_size]
    refine ⟨by rw [List.length_take, hl, Nat.min_self], fun b hb => ?_⟩
    obtain ⟨k, hk⟩ := List.getElem?_of_mem (List.mem_of_mem_take hb)
    have hkl := (List.getElem?_eq_some_iff.1 hk).1
    rw [zc_get _ _ (by omega) (by omega), h1, hs, Nat.mod_one] at hk
    injection hk with hk
    exact hk.symm
  · rw [if_neg h8]
    refine ⟨_, _, _, rfl, zc_size _ _, rfl, hpos, by rw [Nat.mul_comm]; exact Nat.le_refl _, ⟨2 ^ dep n, RT.mk_wf _ _, dep_le n⟩, fun k hk => ?_⟩
    rw [RT.mk_get, ← hs, zc_chunk _ (by omega) _ _ hk, hs]
    exact hu ρ
theorem st_dead (o : Nat) (v : AV) : st .dead o v = .dead := rfl
theorem units_cons (u i : Nat) (x : Operand) (l : List (Nat × Operand)) (r : RG) (b : Blk) : (unitsC u ((i, x) :: l)).f r b = (unitsC u l).f r (if size ((argC x).f r) = u then st b (i * u) ((argC x).f r) else .dead) := by
  rw [unitsC]
  simp only [bxrec, brec_beq]; rfl
theorem units_dead (u : Nat) (r : RG) : ∀ ps, (unitsC u ps).f r .dead = .dead
  | [] => rfl
  | (i, x) :: l => by
    rw [units_cons, st_dead, ite_self]; exact units_dead u r l
theorem units_ok (rr : RR ρ r a) {u κ : Nat} {tid : TypeId} {fr : Nat × Nat} : ∀ (ps : List (Nat × Operand)) (b : Blk) (c : Array Value), BR ρ κ b (.cells c tid fr) → (unitsC u ps).f r b ≠ .dead →
    ∃ c', Instr.fill (fun i => some (i * u, u)) c (ps.map fun (i, x) => (i, a.eval x)) = some c' ∧ BR ρ κ ((unitsC u ps).f r b) (.cells c' tid fr)
  | [], b, c, hB, _ => ⟨c, rfl, hB⟩
  | (i, x) :: l, b, c, hB, hd => by
    rw [units_cons] at hd ⊢
    by_cases h1 : size ((argC x).f r) = u
    · rw [if_pos h1] at hd ⊢
      have h2 : st b (i * u) ((argC x).f r) ≠ .dead := fun e => by rw [e, units_dead] at hd; exact hd rfl
      have hx : (argC x).f r ≠ .un := fun e => by rw [e] at h2; exact h2 (st_un b _)
      obtain ⟨c1, tid1, fr1, e1, k1, k2, k3, k4, k5, k6⟩ := st_ok hB (arg_ok rr x hx) h2
      injection e1 with e1 e2 e3
      subst e1; subst e2; subst e3
      obtain ⟨m1, m2, m3, m4⟩ := VR_size (arg_ok rr x hx) k6
      rw [Array.length_toList] at m2 k3
      obtain ⟨c', n1, n2⟩ := units_ok rr l _ _ k5 hd
      refine ⟨c', ?_, n2⟩
      rw [List.map_cons]
      unfold Instr.fill
      simp only
      rw [if_neg (by simp only [ne_eq, Bool.or_eq_true, decide_eq_true_eq, not_or]; omega)]
      rw [arr_zipfold _ _ _ (by omega)]
      exact n1
    · rw [if_neg h1, units_dead] at hd; exact absurd rfl hd
where
  st_un (b : Blk) (o : Nat) : st b o .un = .dead := by
    cases b with
    | dead => rfl
    | si l x p => rfl
    | row u n t =>
      rcases st_row u n t o .un with h | ⟨_, h2, _⟩
      · exact h
      · exact absurd rfl h2
    | «by» l x => rfl
theorem put_new (ρ : Ren) {n b κ : Nat} {ρ' : Ren} (h : ρ' n = some (b, κ)) : VR ρ' (.ptr n 0) (.pointer (some ⟨b, 0, none⟩)) := ⟨b, κ, h, rfl⟩
theorem boxB_tup (ty : Ty) (l : List AV) : boxB ty (.tup l) = .dead := by
  cases ty with
  | sc v => rfl
  | no => rfl
  | ba n => rfl
  | ag n l => rfl
theorem boxB_un (ty : Ty) : boxB ty .un = .dead := by
  cases ty with
  | sc v => rfl
  | no => rfl
  | ba n => rfl
  | ag n l => rfl
theorem elemOf_eq {t e : TypeId} (h : elemOf P t = some e) : P.underlying t = some (.slice e) := by
  unfold elemOf at h
  split at h
  · next he => injection h with h; rw [he, h]
  · cases h
theorem isStr_eq {t : TypeId} (h : isStr P t = true) : P.underlying t = some .string := by
  unfold isStr at h
  split at h
  · next he => exact he
  · cases h
theorem onStrR_some {v : AV} {φ : Nat → Nat → R} {res : AV × HP} (h : onStrR v φ = some res) : ∃ l x, v = .str l x := by cases v <;> first | exact ⟨_, _, rfl⟩ | (cases h; done)
theorem onIdxR_some {v : AV} {φ : Nat → R} {res : AV × HP} (h : onIdxR v φ = some res) : ∃ c x, v = .int c x ∧ φ x = some res ∧ (sgnN c = true → x < hfN c) := by
  unfold onIdxR at h
  split at h
  · next c x =>
    rw [brec, brec] at h
    by_cases h1 : sgnN c = true
    · rw [if_pos h1] at h
      by_cases h2 : Nat.ble (hfN c) x = true
      · rw [if_pos h2] at h; cases h
      · rw [if_neg h2] at h; exact ⟨c, x, rfl, h, fun _ => Nat.lt_of_not_le fun k => h2 ((ble_iff _ _).2 k)⟩
    · rw [if_neg h1, if_neg (by intro k; cases k)] at h; exact ⟨c, x, rfl, h, fun e => absurd e h1⟩
  · cases h
theorem mk_run {t e : TypeId} {i : TypeInfo} {d : TypeDesc} {ty : Ty} (F : TyF P e i d ty) (hsl : P.underlying t = some (.slice e)) {z : Value} (hz : i.zero = some z) {l c : Nat} (hlc : l ≤ c) (hcb : c ≤ 100000) (k1 k2 : IntKind) (w : World) :
    (Instr.makeSlice t (.int k1 (l : Nat)) (.int k2 (c : Nat))).run P w = .ok (.slice (some ⟨w.heap.size, 0, none⟩) l c) (pushB w (.cells (zc z.cells (c * ty.cells)) e (0, 0))) := by
  have wr : ∀ n : Nat, n ≤ 100000 → IntKind.i64.wrap (n : Int) = n := fun n hn => by
    unfold IntKind.wrap
    have h1 : (n : Int) % (2 ^ 64 : Int) = n := by omega
    show (if (true && decide (((n : Int) % (2 ^ 64 : Int)) ≥ (2 ^ 63 : Int))) = true then _ else (n : Int) % (2 ^ 64 : Int)) = _
    rw [h1, if_neg (by simp; omega)]
  have hby := F.bytes
  have hm : (i.bytes : Int) * (c : Nat) ≤ 2 ^ 48 := by
    have : i.bytes * c ≤ 1048576 * 100000 := Nat.mul_le_mul hby hcb
    omega
  unfold Instr.makeSlice
  rw [rb (r_underlying hsl w)]
  simp only
  rw [rb (a := (l : Int)) (w' := w) rfl, rb (a := (c : Int)) (w' := w) rfl, rb (r_typeInfo F.hi w)]
  simp only [wr l (by omega), wr c hcb]
  rw [if_neg (by simp; omega)]
  have hroom : (askRoom ((c : Int).toNat * i.bytes)).run P w = .ok () w := by
    unfold askRoom; split <;> rfl
  have fin : ∀ zz : Array Value, (Array.range (c * ty.cells)).map (zz[· % zz.size]!) = zc z.cells (c * ty.cells) → (do
      let a ← newRow e ((Array.range (c * ty.cells)).map (zz[· % zz.size]!))
      pure (Value.slice (some a) l c) : Sem Value).run P w = .ok (.slice (some ⟨w.heap.size, 0, none⟩) l c) (pushB w (.cells (zc z.cells (c * ty.cells)) e (0, 0))) := fun zz hz => by
    rw [hz, rb (r_newRow _ _ _)]; rfl
  rw [rb hroom, rb (r_sizeOf F.hi w), F.size]
  simp only [Int.toNat_natCast]
  split
  · next q => rw [rb (rp _ _)]; exact fin #[] (by rw [q]; simp [zc])
  · rw [rb (r_zeroValue F.hi hz w), rb (rp _ _)]; exact fin _ rfl
theorem bytes_run (e : TypeId) (s : ByteArray) (w : World) : ∃ ca w', (Conv.stringToBytes e s).run P w = .ok (.slice (some ⟨w.heap.size, 0, none⟩) s.size ca) w' ∧ s.size ≤ ca ∧ w'.heap = w.heap.push (.cells ((s.data.map fun b => .int .u8 b.toNat) ++ Array.replicate (ca - s.size) (.int .u8 0)) e (ca, ca + 1)) ∧ w'.os = w.os ∧ w'.output = w.output ∧ w'.tape = w.tape := by
  have hc : ∃ ca, s.size ≤ ca ∧ (choose (.appendCap s.size 0 e)).run P w = .ok ca { w with drawn := w.drawn + 1 } := ⟨_, Nat.le_add_right _ _, rfl⟩
  obtain ⟨ca, h1, h2⟩ := hc
  refine ⟨ca, World.freeze (pushB { w with drawn := w.drawn + 1 } (.cells ((s.data.map fun b => .int .u8 b.toNat) ++ Array.replicate (ca - s.size) (.int .u8 0)) e (0, 0))) ⟨w.heap.size, ca, none⟩ 1, ?_, h1, ?_, rfl, rfl, rfl⟩
  · have hsz : ((s.data.map fun b => Value.int .u8 b.toNat) ++ Array.replicate (ca - s.size) (Value.int .u8 0)).size = ca := by
      have : s.data.size = s.size := rfl
      simp; omega
    unfold Conv.stringToBytes
    rw [rb h2]
    simp only
    rw [rb (r_newRow _ _ _)]
    have hm : ∀ (c : Array Value) (w : World), c.size = ca → (markStringish ⟨w.heap.size, 0, none⟩).run P (pushB w (.cells c e (0, 0))) = .ok () (World.freeze (pushB w (.cells c e (0, 0))) ⟨w.heap.size, ca, none⟩ 1) := fun c w hc => by
      have hsh : (shape w.heap.size).run P (pushB w (.cells c e (0, 0))) = .ok (some (e, ca)) (pushB w (.cells c e (0, 0))) := by
        have : (pushB w (.cells c e (0, 0))).shape? w.heap.size = some (e, ca) := by
          unfold World.shape? pushB
          simp [hc]
        show Result.ok ((pushB w (.cells c e (0, 0))).shape? w.heap.size) _ = _
        rw [this]
      unfold markStringish
      rw [rb hsh]; rfl
    rw [rb (hm _ _ hsz)]; rfl
  · unfold World.freeze pushB
    rw [if_neg (by omega)]
    apply Array.ext
    · simp
    · intro i h1 h2
      simp only [Array.size_modify, Array.size_push] at h1
      by_cases e : i = w.heap.size
      · subst e
        rw [Array.getElem_modify_self]
        simp
      · have h3 : i < w.heap.size + 1 := h1
        have h4 : i < w.heap.size := by omega
        rw [Array.getElem_modify_of_ne (fun k => e (by first | exact k | exact k.symm))]
        rw [Array.getElem_push_lt h4, Array.getElem_push_lt h4]
theorem a_ok (o : Oper) {k : K} {res : AV × HP} (hf : (compA P o.op).f r h k = some res) : ∃ b v, b ≠ .dead ∧ k v (h.push b) = some res ∧ AR P o r h.n b v := by
  obtain ⟨dst, op, ty, pos, after, gd⟩ := o
  simp only at hf
  cases op
  case alloc t =>
    obtain ⟨h1, h2⟩ := gp_some hf
    refine ⟨_, _, h1, h2, fun ρ a w rr => ?_⟩
    have hn : tyOf P t ≠ .no := fun e => by rw [e] at h1; exact h1 rfl
    obtain ⟨i, d, F⟩ := tyOf_ok hn
    obtain ⟨z, z1, z2, z3⟩ := F.zero
    refine ⟨.cells z.cells t (0, 0), z.cells.size, _, pushB w (.cells z.cells t (0, 0)), ?_, rfl, rfl, rfl, rfl, boxB_ok F (z2 ρ) h1 t, fun ρ' _ hp => put_new ρ hp⟩
    unfold execOp
    simp only
    rw [rb (a := .pointer (some ⟨w.heap.size, 0, none⟩)) (w' := pushB w (.cells z.cells t (0, 0)))]
    · rfl
    · unfold Instr.alloc
      rw [rb (r_zeroValue F.hi z1 w)]; rfl
  case box t x =>
    have e : (compA P (.box t x)).f r h k = gp (boxB (tyOf P t) ((argC x).f r)) h (.ptr h.n 0) k := by simp only [compA, bxrec]
    rw [e] at hf
    obtain ⟨h1, h2⟩ := gp_some hf
    refine ⟨_, _, h1, h2, fun ρ a w rr => ?_⟩
    have hn : tyOf P t ≠ .no := fun e => by rw [e] at h1; exact h1 rfl
    obtain ⟨i, d, F⟩ := tyOf_ok hn
    have hx : (argC x).f r ≠ .un := fun e => by rw [e] at h1; exact h1 (boxB_un _)
    refine ⟨.cells (a.eval x).cells t (0, 0), (a.eval x).cells.size, _, pushB w (.cells (a.eval x).cells t (0, 0)), rfl, rfl, rfl, rfl, rfl, boxB_ok F (arg_ok rr x hx) h1 t, fun ρ' _ hp => put_new ρ hp⟩
  case range t x =>
    have e : (compA P (.range t x)).f r h k = if isStr P t = true then onStrR ((argC x).f r) (fun l y => gp (.si l y 0) h (.ptr h.n 0) k) else none := by
      simp only [compA, brec]
      split <;> simp only [bxrec]
    rw [e] at hf
    by_cases hs : isStr P t = true
    · rw [if_pos hs] at hf
      obtain ⟨l, y, hl⟩ := onStrR_some hf
      rw [hl] at hf
      obtain ⟨h1, h2⟩ := gp_some (b := .si l y 0) hf
      refine ⟨_, _, h1, h2, fun ρ a w rr => ?_⟩
      obtain ⟨s, hs1, hs2⟩ : VR ρ (.str l y) (a.eval x) := hl ▸ arg_ok rr x (by rw [hl]; intro e; cases e)
      refine ⟨.stringIter s 0, 0, .pointer (some ⟨w.heap.size, 0, none⟩), pushB w (.stringIter s 0), ?_, rfl, rfl, rfl, rfl, ⟨s, rfl, hs2⟩, fun ρ' _ hp => put_new ρ hp⟩
      unfold execOp
      simp only
      rw [rb (a := .pointer (some ⟨w.heap.size, 0, none⟩)) (w' := pushB w (.stringIter s 0))]
      · rfl
      · unfold Instr.range
        rw [rb (r_underlying (isStr_eq hs) w), hs1]
        rfl
    · rw [if_neg hs] at hf; cases hf
  case buildSlice t l ps =>
    unfold compA at hf
    simp only at hf
    split at hf
    · next e he =>
      rw [brec_ble, show l.mul (tyOf P e).cells = l * (tyOf P e).cells from rfl] at hf
      by_cases hb : l * (tyOf P e).cells ≤ 16777216
      · rw [if_pos hb] at hf
        simp only [bxrec] at hf
        obtain ⟨h1, h2⟩ := gp_some hf
        refine ⟨_, _, h1, h2, fun ρ a w rr => ?_⟩
        have hn : tyOf P e ≠ .no := fun q => by rw [q, rowB_no, units_dead] at h1; exact h1 rfl
        obtain ⟨i, d, F⟩ := tyOf_ok hn
        obtain ⟨z, z1, z2, z3⟩ := zero_cells F
        obtain ⟨c', c1, c2⟩ := units_ok rr ps.toList _ _ (rowB_ok F ρ l z1 e) h1
        have hsl : P.underlying t = some (.slice e) := elemOf_eq he
        refine ⟨_, l * (tyOf P e).cells, .slice (some ⟨w.heap.size, 0, none⟩) l l, pushB w (.cells c' e (0, 0)), ?_, rfl, rfl, rfl, rfl, c2, fun ρ' _ hp => ⟨_, _, hp, rfl, Nat.le_refl _⟩⟩
        unfold execOp
        simp only
        rw [rb (a := .slice (some ⟨w.heap.size, 0, none⟩) l l) (w' := pushB w (.cells c' e (0, 0)))]
        · rfl
        · unfold Instr.buildSlice
          rw [rb (r_underlying hsl w)]
          simp only
          rw [rb (r_sizeOf F.hi w), F.size]
          have hpl : (ps.map fun (i, x) => (i, a.eval x)).toList = ps.toList.map fun (i, x) => (i, a.eval x) := by simp
          have fin : ∀ zz : Array Value, (Array.range (l * (tyOf P e).cells)).map (zz[· % zz.size]!) = zc z.cells (l * (tyOf P e).cells) → (match Instr.fill (fun i => some (i * (tyOf P e).cells, (tyOf P e).cells)) ((Array.range (l * (tyOf P e).cells)).map (zz[· % zz.size]!)) (ps.map fun (i, x) => (i, a.eval x)).toList with
              | some cells => (do let r ← newRow e cells; pure (Value.slice (some r) l l))
              | x => stuck "buildSlice: a part of the wrong size" : Sem Value).run P w = .ok (.slice (some ⟨w.heap.size, 0, none⟩) l l) (pushB w (.cells c' e (0, 0))) := fun zz hz => by
            rw [hz, hpl, c1]
            simp only
            rw [rb (r_newRow _ _ _)]; rfl
          rw [if_neg (by omega)]
          split
          · next q => rw [rb (rp _ _)]; exact fin #[] (by rw [q]; simp [zc])
          · rw [rb (r_zeroValue F.hi z1 w), rb (rp _ _)]; exact fin _ rfl
      · rw [if_neg hb] at hf; cases hf
    · cases hf
  case makeSlice t x y =>
    unfold compA at hf
    simp only at hf
    split at hf
    · next e he =>
      simp only [bxrec] at hf
      obtain ⟨jl, l, hl, hf, sl⟩ := onIdxR_some hf
      obtain ⟨jc, c, hc, hf, sc⟩ := onIdxR_some hf
      rw [brec_ble, brec_ble] at hf
      by_cases hlc : l ≤ c
      · rw [if_pos hlc] at hf
        by_cases hcb : c ≤ 100000
        · rw [if_pos hcb] at hf
          obtain ⟨h1, h2⟩ := gp_some hf
          refine ⟨_, _, h1, h2, fun ρ a w rr => ?_⟩
          have hn : tyOf P e ≠ .no := fun q => by rw [q, rowB_no] at h1; exact h1 rfl
          obtain ⟨i, d, F⟩ := tyOf_ok hn
          obtain ⟨z, z1, z2, z3⟩ := zero_cells F
          have hsl : P.underlying t = some (.slice e) := elemOf_eq he
          have hx : VR ρ (.int jl l) (a.eval x) := hl ▸ arg_ok rr x (by rw [hl]; intro e; cases e)
          have hy : VR ρ (.int jc c) (a.eval y) := hc ▸ arg_ok rr y (by rw [hc]; intro e; cases e)
          obtain ⟨ex, lx, _⟩ := VR_int.1 hx
          obtain ⟨ey, ly, _⟩ := VR_int.1 hy
          rw [toI_nat lx sl] at ex
          rw [toI_nat ly sc] at ey
          refine ⟨_, c * (tyOf P e).cells, .slice (some ⟨w.heap.size, 0, none⟩) l c, pushB w (.cells (zc z.cells (c * (tyOf P e).cells)) e (0, 0)), ?_, rfl, rfl, rfl, rfl, rowB_ok F ρ c z1 e, fun ρ' _ hp => ⟨_, _, hp, rfl, hlc⟩⟩
          unfold execOp
          simp only
          rw [ex, ey]
          rw [rb (a := .slice (some ⟨w.heap.size, 0, none⟩) l c) (w' := pushB w (.cells (zc z.cells (c * (tyOf P e).cells)) e (0, 0)))]
          · rfl
          · exact mk_run F hsl z1 hlc hcb _ _ w
        · rw [if_neg hcb] at hf; cases hf
      · rw [if_neg hlc] at hf; cases hf
    · cases hf
  case convert s t x =>
    have e : (compA P (.convert s t x)).f r h k = if (if isStr P s = true then isB (elemOf P t) P else false) = true then onStrR ((argC x).f r) (fun l y => gp (.by l y) h (.sf h.n 0 l 1) k) else none := by
      simp only [compA, brec]
      by_cases hk : (if isStr P s = true then isB (elemOf P t) P else false) = true
      · rw [if_pos hk, if_pos hk]
      · rw [if_neg hk, if_neg hk]
    rw [e] at hf
    by_cases hs : isStr P s = true
    · rw [if_pos hs] at hf
      by_cases hb : isB (elemOf P t) P = true
      · rw [if_pos hb] at hf
        obtain ⟨l, y, hl⟩ := onStrR_some hf
        rw [hl] at hf
        obtain ⟨h1, h2⟩ := gp_some (b := .by l y) hf
        refine ⟨_, _, h1, h2, fun ρ a w rr => ?_⟩
        obtain ⟨b, hb1, hb2⟩ : VR ρ (.str l y) (a.eval x) := hl ▸ arg_ok rr x (by rw [hl]; intro e; cases e)
        unfold isB at hb
        split at hb
        · next el he =>
          have hz := SR_size hb2
          obtain ⟨ca, w', hr, h3, h4, h5, h6, h7⟩ := bytes_run (P := P) el b w
          refine ⟨_, ca, .slice (some ⟨w.heap.size, 0, none⟩) b.size ca, w', ?_, h4, h5, h6, h7, ⟨_, _, _, rfl, ?_, fun o ho => ?_, by omega, hb2.2, ?_⟩, fun ρ' _ hp => ⟨_, _, ca, hp, by rw [hz], by omega, by omega, by omega⟩⟩
          · unfold execOp
            simp only
            rw [rb (a := .slice (some ⟨w.heap.size, 0, none⟩) b.size ca) (w' := w')]
            · rfl
            · unfold Go.convert
              rw [rb (r_underlying (isStr_eq hs) w), rb (r_underlying (elemOf_eq he) w), hb1]
              simp only
              rw [rb (r_underlying ((isU8_iff el).1 hb) w)]
              exact hr
          · have : b.data.size = b.size := rfl
            rw [Array.size_append, Array.size_map, Array.size_replicate]; omega
          · simp only [Bool.and_eq_false_iff, decide_eq_false_iff_not]; omega
          · have : (b.data.map fun c => Value.int .u8 (c.toNat : Nat)).toList = byC l y := by
              unfold byC
              rw [Array.toList_map, ← hb2.1, List.map_map]; rfl
            rw [Array.toList_append, this, List.take_append_of_le_length (by rw [byC_length]; omega), List.take_of_length_le (by rw [byC_length]; omega)]
        · cases hb
      · rw [if_neg hb] at hf; cases hf
    · rw [if_neg hs] at hf; cases hf
  all_goals cases hf
end
end Kv
end
end
section
noncomputable section
namespace Kv
open Go.RowKit
variable {P : Program}
def ER (P : Program) (I : List Deferred → Prop) (o : Oper) (r : RG) (h : HP) (v : AV) (h' : HP) : Prop := ∀ ρ (a : Act) w next Q, RR ρ r a → HR ρ h w → I a.defers →
  (∀ ρ' v' w' ds, Ext ρ h w ρ' h' w' → VR ρ' v v' → I ds → next (({ a with defers := ds } : Act).put o.dst v') w') → o.wp P a w next Q
section
variable {ρ : Ren} {w : World} {h : HP} {r : RG} {a : Act} {I : List Deferred → Prop}
theorem ER.of_value {o : Oper} {v : AV} {h' : HP} (e : ∀ ρ (a : Act) w, RR ρ r a → HR ρ h w → ∃ ρ' v' w', (execOp a.eval o).run P w = .ok (.value v') w' ∧ Ext ρ h w ρ' h' w' ∧ VR ρ' v v') : ER P I o r h v h' := fun ρ a w next Q rr hr hI hn => by
  obtain ⟨ρ', v', w', h1, h2, h3⟩ := e ρ a w rr hr
  unfold Oper.wp
  rw [h1]
  exact hn ρ' v' w' a.defers h2 h3 hI
theorem ER.of_skip {o : Oper} {h' : HP} (e : ∀ ρ (a : Act) w, RR ρ r a → HR ρ h w → ∃ ρ' w', (execOp a.eval o).run P w = .ok .skip w' ∧ Ext ρ h w ρ' h' w') : ER P I o r h (.tup []) h' := fun ρ a w next Q rr hr hI hn => by
  obtain ⟨ρ', w', h1, h2⟩ := e ρ a w rr hr
  unfold Oper.wp
  rw [h1]
  exact hn ρ' undef w' a.defers h2 ⟨#[], rfl, rfl⟩ hI
theorem onPtrR_some {v : AV} {φ : Nat → Nat → R} {res : AV × HP} (e : onPtrR v φ = some res) : ∃ i o, v = .ptr i o ∧ φ i o = some res := by cases v <;> first | exact ⟨_, _, rfl, e⟩ | (cases e; done)
theorem gb_some {b : Blk} {h : HP} {i : Nat} {v : AV} {k : K} {res : AV × HP} (e : gb b h i v k = some res) : b ≠ .dead ∧ k v (h.set i b) = some res := by
  cases b <;> first | (cases e; done) | exact ⟨(fun e => by cases e), e⟩
theorem HR.obj (hr : HR ρ h w) {i g κ : Nat} (hi : ρ i = some (g, κ)) : ∃ ob, w.heap[g]? = some ob ∧ BR ρ κ (h.get i) ob := (hr.at_ i g κ hi).2
theorem Ext.setB (hr : HR ρ h w) {i g κ : Nat} (hi : ρ i = some (g, κ)) (hl : h.get i ≠ .dead) {o : Obj} {b : Blk} (hb : BR ρ κ b o) : Ext ρ h w ρ (h.set i b) (setB w g o) :=
  Ext.put (w' := Kv.setB w g o) hr hi hl rfl rfl rfl rfl hb
theorem st_live {b : Blk} {o : Nat} {v : AV} (hd : st b o v ≠ .dead) : b ≠ .dead := fun e => by subst e; exact hd rfl
theorem store_ok (t : TypeId) (x y : Operand) (dst : Option Tmp) (ty : TypeId) (pos : String) (after : Array Edge) (gd : Option (Nat × Bool)) {k : K} {res : AV × HP}
    (hf : onPtrR ((argC x).f r) (fun i o => if size ((argC y).f r) = (tyOf P t).cells then gb (st (h.get i) o ((argC y).f r)) h i (.tup []) k else none) = some res) (hc : (tyOf P t).cells ≠ 0) :
    ∃ v h', k v h' = some res ∧ ER P I ⟨dst, .store t x y, ty, pos, after, gd⟩ r h v h' := by
  obtain ⟨i, o, hx, hf⟩ := onPtrR_some hf
  by_cases hs : size ((argC y).f r) = (tyOf P t).cells
  · rw [if_pos hs] at hf
    obtain ⟨h1, h2⟩ := gb_some hf
    refine ⟨_, _, h2, ER.of_skip fun ρ a w rr hr => ?_⟩
    have hn : tyOf P t ≠ .no := fun e => by rw [e] at hc; exact hc rfl
    obtain ⟨it, d, F⟩ := tyOf_ok hn
    obtain ⟨g, κ, hi, ex⟩ : VR ρ (.ptr i o) (a.eval x) := hx ▸ arg_ok rr x (by rw [hx]; intro e; cases e)
    have hu : (argC y).f r ≠ .un := fun e => by rw [e] at h1; exact h1 (units_ok.st_un _ _)
    have hy := arg_ok rr y hu
    obtain ⟨ob, ho, hB⟩ := hr.obj hi
    obtain ⟨c, tid, fr, rfl, k2, k3, k4, k5, k6, k7⟩ := st_ok hB hy h1
    obtain ⟨m1, m2, m3, m4⟩ := VR_size hy k7
    refine ⟨ρ, setB w g (.cells (splC c o (a.eval y).cells.toList) tid fr), ?_, Ext.setB hr hi (st_live h1) k6⟩
    have hrun : (Instr.storeAt t (a.eval x) (a.eval y)).run P w = .ok () (setB w g (.cells (splC c o (a.eval y).cells.toList) tid fr)) := by
      unfold Instr.storeAt
      rw [ex, rb (a := (⟨g, o, none⟩ : Addr)) (w' := w) rfl]
      unfold storeVar
      rw [rb (r_sizeOf F.hi w), F.size]
      rw [Array.length_toList] at m2
      rw [if_neg (by omega)]
      exact r_storeCells k2 k3 _ w c o 0 ho k2 (by omega) k5
    unfold execOp
    simp only
    rw [rb hrun]; rfl
  · rw [if_neg hs] at hf; cases hf
theorem r_getObj {g : Nat} {s : ByteArray} {p : Nat} (h : w.heap[g]? = some (.stringIter s p)) : (getObj g).run P w = .ok (.stringIter s p) w := by
  unfold getObj
  simp only [Sem.run, h]
theorem r_setObj {g : Nat} {s : ByteArray} {p : Nat} {o : Obj} (h : w.heap[g]? = some (.stringIter s p)) : (setObj g o).run P w = .ok () (setB w g o) := by
  unfold setObj
  simp only [Sem.run, h]; rfl
theorem SR_get {l x j : Nat} {s : ByteArray} (hs : SR l x s) (hj : j < l) : (s.get! j).toNat = byt l x j := by
  have hz := SR_size hs
  have hlt : j < s.data.size := by show j < s.size; omega
  have e3 : (s.data.toList.map UInt8.toNat)[j]? = (bys l x)[j]? := by rw [hs.1]
  rw [bys_byt hj, List.getElem?_map, Array.getElem?_toList, Array.getElem?_eq_getElem hlt] at e3
  injection e3 with e3
  rw [← e3]
  show (s.data[j]!).toNat = _
  rw [getElem!_pos s.data j hlt]
theorem nextC_ok {i : Nat} (b : Blk) (x : Operand) (dst : Option Tmp) (ty : TypeId) (pos : String) (after : Array Edge) (gd : Option (Nat × Bool)) {k : K} {res : AV × HP}
    (hf : onPtrR ((argC x).f r) (fun i o => if o = 0 then nextC (h.get i) h i k else none) = some res) :
    ∃ v h', k v h' = some res ∧ ER P I ⟨dst, .next x true, ty, pos, after, gd⟩ r h v h' := by
  obtain ⟨i, o, hx, hf⟩ := onPtrR_some hf
  by_cases ho : o = 0
  · rw [if_pos ho] at hf
    subst ho
    cases hb : h.get i with
    | dead => rw [hb] at hf; cases hf
    | row u n t => rw [hb] at hf; cases hf
    | «by» l x => rw [hb] at hf; cases hf
    | si l y p =>
      rw [hb] at hf
      have e : nextC (.si l y p) h i k = if Nat.ble l p = true then k (.tup [.bl false]) h else if (if Nat.ble 128 (byt l y p) = true then true else Nat.ble 1000000000 p) = true then none else k (.tup [.bl true, .int 3 p, .int 2 (byt l y p)]) (h.set i (.si l y (p + 1))) := by
        unfold nextC
        simp only [brec]
      rw [e] at hf
      have hop : ∀ ρ (a : Act) w, RR ρ r a → HR ρ h w → ∃ g κ s, ρ i = some (g, κ) ∧ a.eval x = .pointer (some ⟨g, 0, none⟩) ∧ w.heap[g]? = some (.stringIter s p) ∧ SR l y s := fun ρ a w rr hr => by
        obtain ⟨g, κ, hi, ex⟩ : VR ρ (.ptr i 0) (a.eval x) := hx ▸ arg_ok rr x (by rw [hx]; intro e; cases e)
        obtain ⟨ob, ho, hB⟩ := hr.obj hi
        rw [hb] at hB
        obtain ⟨s, e, hs⟩ := hB
        exact ⟨g, κ, s, hi, ex, by rw [ho, e], hs⟩
      by_cases hl : Nat.ble l p = true
      · rw [if_pos hl] at hf
        refine ⟨_, _, hf, ER.of_value fun ρ a w rr hr => ?_⟩
        obtain ⟨g, κ, s, hi, ex, hg, hs⟩ := hop ρ a w rr hr
        have hz := SR_size hs
        have hlp := (ble_iff _ _).1 hl
        refine ⟨ρ, .tuple #[.bool false], w, ?_, Ext.refl hr, ⟨_, rfl, _, _, rfl, rfl, rfl⟩⟩
        have hrun : (Instr.next (a.eval x) true ty).run P w = .ok (.tuple #[.bool false]) w := by
          unfold Instr.next
          rw [ex]
          simp only
          rw [rb (a := Obj.stringIter s p) (w' := w) (r_getObj hg)]
          simp only
          rw [if_neg (by omega)]; rfl
        unfold execOp
        simp only
        rw [rb hrun]; rfl
      · rw [if_neg hl] at hf
        by_cases h8 : (if Nat.ble 128 (byt l y p) = true then true else Nat.ble 1000000000 p) = true
        · rw [if_pos h8] at hf; cases hf
        · rw [if_neg h8] at hf
          have h9 : byt l y p < 128 ∧ p < 1000000000 := by
            by_cases h1 : Nat.ble 128 (byt l y p) = true
            · rw [if_pos h1] at h8; exact absurd rfl h8
            · rw [if_neg h1] at h8
              rw [ble_iff] at h1 h8
              omega
          have hlp : p < l := Nat.lt_of_not_le fun k => hl ((ble_iff _ _).2 k)
          refine ⟨_, _, hf, ER.of_value fun ρ a w rr hr => ?_⟩
          obtain ⟨g, κ, s, hi, ex, hg, hs⟩ := hop ρ a w rr hr
          have hz := SR_size hs
          have hdec : Utf8.decode s p = (byt l y p, 1) := by
            have h0 : (s.get! p).toNat = byt l y p := SR_get hs hlp
            unfold Utf8.decode
            simp only [Nat.add_zero, h0]
            rw [if_pos h9.1]
          refine ⟨ρ, .tuple #[.bool true, goInt p, .int .i32 (byt l y p : Nat)], setB w g (.stringIter s (p + 1)), ?_, Ext.setB hr hi (by rw [hb]; intro e; cases e) (b := .si l y (p + 1)) ⟨s, rfl, hs⟩, ⟨_, rfl, _, _, rfl, rfl, _, _, rfl, ?_, _, _, rfl, ?_, rfl⟩⟩
          · have hrun : (Instr.next (a.eval x) true ty).run P w = .ok (.tuple #[.bool true, goInt p, .int .i32 (byt l y p : Nat)]) (setB w g (.stringIter s (p + 1))) := by
              unfold Instr.next
              rw [ex]
              simp only
              rw [rb (a := Obj.stringIter s p) (w' := w) (r_getObj hg)]
              simp only
              rw [if_pos (by omega), hdec]
              simp only
              rw [rb (a := ()) (w' := setB w g (.stringIter s (p + 1))) (r_setObj hg)]; rfl
            unfold execOp
            simp only
            rw [rb hrun]; rfl
          · have e : lenN p = .int 3 p := by
              show @Bool.rec (fun _ => AV) .un (.int 3 p) (Nat.ble p 1000000000) = _
              rw [brec_ble, if_pos (by omega)]
            have := lenN_ok (ρ := ρ) (n := p) (by rw [e]; intro h; cases h)
            rwa [e] at this
          · have h1 : byt l y p < mdN 2 := Nat.lt_of_lt_of_le h9.1 (by decide)
            refine VR_int.2 ⟨?_, h1, by omega⟩
            rw [toI_nat h1 (fun _ => Nat.lt_of_lt_of_le h9.1 (by decide))]; rfl
  · rw [if_neg ho] at hf; cases hf
end
end Kv
end
end
section
noncomputable section
namespace Kv
open Go.RowKit
variable {P : Program}
section
variable {ρ : Ren} {κ : Nat} {tid : TypeId} {fr : Nat × Nat}
theorem BR.row_at {u n : Nat} {t : RT AV} {c : Array Value} (hB : BR ρ κ (.row u n t) (.cells c tid fr)) : c.size = κ ∧ 0 < u ∧ u * n ≤ κ ∧ ∀ i, i < n → UR ρ u (t.get i) (chunk c.toList u i) := by
  obtain ⟨c', tid', fr', e, h1, h2, h3, h4, _, h6⟩ := hB
  injection e with e1 e2 e3
  subst e1
  exact ⟨h1, h3, h4, h6⟩
theorem splC_splC (c : Array Value) (o : Nat) (v w : List Value) (h : o + v.length + w.length ≤ c.size) : splC (splC c o v) (o + v.length) w = splC c o (v ++ w) := by
  apply Array.ext'
  rw [splC_eq, splC_eq, splC_eq]
  apply List.ext_getElem?
  intro i
  have hl : c.toList.length = c.size := Array.length_toList
  have hl2 : (splL c.toList o v).length = c.size := by rw [splL_length (by omega), hl]
  rw [splL_get (by omega), splL_get (by omega), splL_get (by rw [List.length_append]; omega), List.length_append]
  by_cases h1 : i < o
  · rw [if_pos (by omega), if_pos h1, if_pos h1]
  · by_cases h2 : i < o + v.length
    · rw [if_pos h2, if_neg h1, if_pos h2, if_neg h1, if_pos (by omega), List.getElem?_append_left (by omega)]
    · by_cases h3 : i < o + v.length + w.length
      · rw [if_neg h2, if_pos h3, if_neg h1, if_pos (by omega), List.getElem?_append_right (by omega)]
        congr 1; omega
      · rw [if_neg h2, if_neg h3, if_neg h1, if_neg h2, if_neg h1, if_neg (by omega)]
theorem splC_mid (c : Array Value) {u i j : Nat} {o : Nat} (ho : o / u = i) (hj : o % u = j) : o = i * u + j := by
  subst ho; subst hj; exact (Nat.div_add_mod' o u).symm
theorem UR_spb {u l x j n y : Nat} {cs : List Value} (h : UR ρ u (.ba l x) cs) (hj : j + n ≤ l) (hy : y < 256 ^ n) : l = u ∧ UR ρ u (.ba l (spb l x j n y)) (splL cs j (byC n y)) := by
  have hla := VRs.length _ _ h.vs
  have hl : l = u := by
    rw [← h.len, ← hla]
    show l = (bytesL l x).length
    rw [bytesL_eq, List.length_map, bys_length]
  subst hl
  have hc := VRs_bytes_inv h.vs
  subst hc
  have hs : byC l (spb l x j n y) = splL (byC l x) j (byC n y) := by
    unfold byC splL
    rw [bys_spb hj hy]
    simp only [List.map_append, List.map_take, List.map_drop, List.length_map, bys_length]
  refine ⟨rfl, ?_⟩
  rw [← hs]
  exact UR_ba (spb_lt hj hy)
theorem cells_ok {u m o n : Nat} {t : RT AV} {l : List AV} {c : Array Value} {vs : List Value} (hB : BR ρ κ (.row u m t) (.cells c tid fr)) (hv : VRs ρ l vs) (hs : l.all sca = true) (hn : vs.length = n) (hd : putS.cells o n u m t l ≠ .dead) :
    o + vs.length ≤ κ ∧ BR ρ κ (putS.cells o n u m t l) (.cells (splC c o vs) tid fr) := by
  obtain ⟨h1, h2, h3, h4⟩ := hB.row_at
  have e : putS.cells o n u m t l = if m ≤ o / u then .dead else (match t.get (o / u) with
    | .agg a => if o % u + n ≤ a.length then .row u m (t.set (o / u) (.agg (splL a (o % u) l))) else .dead
    | _ => .dead) := by
    unfold putS.cells
    rw [brec_ble, show o.div u = o / u from rfl]
    by_cases h : m ≤ o / u
    · rw [if_pos h, if_pos h]
    · rw [if_neg h, if_neg h]
      generalize t.get (o / u) = z
      cases z <;> first | rfl | (simp only; rw [brec_ble, len_eq, spl_splL]; rfl)
  rw [e] at hd ⊢
  by_cases hm : m ≤ o / u
  · rw [if_pos hm] at hd; exact absurd rfl hd
  · rw [if_neg hm] at hd ⊢
    have hU := h4 (o / u) (by omega)
    split at hd
    · next a ha =>
      rw [ha] at hU
      by_cases hj : o % u + n ≤ a.length
      · rw [if_pos hj] at hd ⊢
        have hal : a.length = u := by rw [← hU.len]; exact VRs.length _ _ hU.vs
        have hUn : UR ρ u (.agg (splL a (o % u) l)) (splL (chunk c.toList u (o / u)) (o % u) vs) := by
          have hll := VRs.length _ _ hv
          have hsp : (splL a (o % u) l).length = u := by rw [splL_length (by omega), hal]
          have := UR_agg (ρ := ρ) (VRs.spl (o := o % u) hU.vs hv) (all_sca_spl (o := o % u) hU.sc hs)
          change UR ρ (splL a (o % u) l).length _ _ at this
          rwa [hsp] at this
        have hR := row_spl hB (by omega) (by omega) hUn
        rw [Nat.div_add_mod'] at hR
        refine ⟨?_, hR⟩
        have hm1 : (o / u + 1) * u ≤ m * u := Nat.mul_le_mul_right _ (by omega)
        rw [Nat.add_mul, Nat.mul_comm m] at hm1
        have := Nat.div_add_mod' o u
        omega
      · rw [if_neg hj] at hd; exact absurd rfl hd
    · exact absurd rfl hd
theorem cpU_succ (s : RT AV) (n i k : Nat) (t : RT AV) : cpU s (n + 1) i k t = cpU s n (i + 1) (k + 1) (t.set k (s.get i)) := rfl
theorem cpU_ok {u m : Nat} {s : RT AV} : ∀ (n i k : Nat) (t : RT AV) (c : Array Value) (vs : List Value), BR ρ κ (.row u m t) (.cells c tid fr) → vs.length = u * n → k + n ≤ m → (∀ j, j < n → UR ρ u (s.get (i + j)) (chunk vs u j)) →
    BR ρ κ (.row u m (cpU s n i k t)) (.cells (splC c (k * u) vs) tid fr)
  | 0, i, k, t, c, vs, hB, hl, hk, hU => by
    have : vs = [] := List.length_eq_zero_iff.1 (by simpa using hl)
    subst this
    rw [splC_nil]; exact hB
  | n + 1, i, k, t, c, vs, hB, hl, hk, hU => by
    obtain ⟨h1, h2, h3, h4⟩ := hB.row_at
    rw [cpU_succ]
    have hl' : vs.length = u * n + u := by rw [hl, Nat.mul_succ]
    have h0 := hU 0 (by omega)
    have hc0 : chunk vs u 0 = vs.take u := by simp [chunk]
    rw [hc0, Nat.add_zero] at h0
    have hlt : (vs.take u).length = u := by rw [List.length_take]; omega
    have hck : (chunk c.toList u k).length = u := chunk_length (n := m) (by omega) (by rw [Array.length_toList, h1]; exact h3)
    have hR := row_spl (j := 0) (vs := vs.take u) hB (show k < m by omega) (by omega) (by rw [splL_all (by omega)]; exact h0)
    rw [Nat.add_zero] at hR
    have hI := cpU_ok n (i + 1) (k + 1) _ _ (vs.drop u) hR (by rw [List.length_drop]; omega) (by omega) (fun j hj => by
      have := hU (j + 1) (by omega)
      have e : chunk (vs.drop u) u j = chunk vs u (j + 1) := by
        unfold chunk
        rw [List.drop_drop, Nat.add_mul, Nat.one_mul, Nat.add_comm]
      rw [e, show i + 1 + j = i + (j + 1) by omega]; exact this)
    have hmk : (k + (n + 1)) * u ≤ m * u := Nat.mul_le_mul_right _ hk
    rw [Nat.add_mul, Nat.add_mul, Nat.mul_comm m, Nat.mul_comm n] at hmk
    have e2 := splC_splC c (k * u) (vs.take u) (vs.drop u) (by rw [hlt, List.length_drop]; omega)
    rw [hlt, List.take_append_drop] at e2
    rw [show (k + 1) * u = k * u + u by rw [Nat.add_mul, Nat.one_mul], e2] at hI
    exact hI
theorem putL_ok {m : Nat} : ∀ (l : List AV) (k : Nat) (t : RT AV) (c : Array Value) (vs : List Value), BR ρ κ (.row 1 m t) (.cells c tid fr) → VRs ρ l vs → l.all sca = true → k + l.length ≤ m →
    BR ρ κ (.row 1 m (putL l k t)) (.cells (splC c k vs) tid fr)
  | [], k, t, c, vs, hB, hv, _, _ => by
    have hv : vs = [] := hv
    subst hv
    rw [splC_nil]; exact hB
  | a :: l, k, t, c, vs, hB, hv, hs, hk => by
    obtain ⟨h1, h2, h3, h4⟩ := hB.row_at
    obtain ⟨x, y, rfl, hx, hy⟩ := hv
    rw [List.all_cons, Bool.and_eq_true] at hs
    have hk' : k + (l.length + 1) ≤ m := hk
    have hll := VRs.length _ _ hy
    have hck : (chunk c.toList 1 k).length = 1 := chunk_length (n := m) (by omega) (by rw [Array.length_toList, h1]; exact h3)
    have hR := row_spl (j := 0) (vs := [x]) hB (show k < m by omega) (by simp) (by rw [splL_all (by rw [hck]; rfl)]; exact UR_sca hx hs.1)
    rw [Nat.mul_one, Nat.add_zero] at hR
    have hI := putL_ok l (k + 1) _ _ y hR hy hs.2 (by omega)
    have e2 := splC_splC c k [x] y (by simp; omega)
    rw [show (k + 1) = k + [x].length from rfl, e2] at hI
    exact hI
theorem lsU_ok {s : RT AV} : ∀ (n i : Nat) (vs : List Value), vs.length = n → (∀ k, k < n → UR ρ 1 (s.get (i + k)) (chunk vs 1 k)) → (lsU s n i).all sca = true → VRs ρ (lsU s n i) vs
  | 0, i, vs, hl, _, _ => by
    have : vs = [] := List.length_eq_zero_iff.1 hl
    subst this
    rfl
  | n + 1, i, vs, hl, hU, hs => by
    have hs : (s.get i :: lsU s n (i + 1)).all sca = true := hs
    rw [List.all_cons, Bool.and_eq_true] at hs
    cases vs with
    | nil => cases hl
    | cons v vs =>
      have h0 := hU 0 (by omega)
      have hc0 : chunk (v :: vs) 1 0 = [v] := by simp [chunk]
      rw [hc0, Nat.add_zero] at h0
      have m1 := lsU_ok n (i + 1) vs (by simpa using hl) (fun k hk => by
        have := hU (k + 1) (by omega)
        have e : chunk (v :: vs) 1 (k + 1) = chunk vs 1 k := by simp [chunk]
        rw [e] at this
        rw [show i + 1 + k = i + (k + 1) by omega]; exact this) hs.2
      have h9 := h0.vs
      rw [sca_cellsL hs.1] at h9
      obtain ⟨x, y, e, n1, _⟩ := h9
      injection e with e1 e2
      subst e1
      exact ⟨v, vs, rfl, n1, m1⟩
theorem putS_ok {blk : Blk} {o n c : Nat} {s : Src} {cs : Array Value} {vs : List Value} (hB : BR ρ κ blk (.cells cs tid fr)) (hs : SrcR ρ n c s vs) (hd : putS blk o n c s ≠ .dead) :
    o + vs.length ≤ κ ∧ BR ρ κ (putS blk o n c s) (.cells (splC cs o vs) tid fr) := by
  have hlen := hs.length
  cases blk with
  | dead => exact absurd rfl hd
  | si l x p => exact absurd rfl hd
  | «by» l x =>
    cases s with
    | b m y =>
      obtain ⟨rfl, rfl, rfl, hy⟩ := hs
      have e : putS (.by l x) o m 1 (.b m y) = if o + m ≤ l then .by l (spb l x o m y) else .dead := brec_ble _ _ _ _
      rw [e] at hd ⊢
      by_cases h : o + m ≤ l
      · rw [if_pos h]
        obtain ⟨c', tid', fr', e, h1, h2, h3, h4, h5⟩ := hB
        exact ⟨by rw [byC_length]; omega, by_spl ⟨c', tid', fr', e, h1, h2, h3, h4, h5⟩ h hy⟩
      · rw [if_neg h] at hd; exact absurd rfl hd
    | bad => exact absurd rfl hd
    | t s i => exact absurd rfl hd
    | c l => exact absurd rfl hd
  | row u m t =>
    obtain ⟨h1, h2, h3, h4⟩ := hB.row_at
    have hdm := Nat.div_add_mod' o u
    have room : ∀ q, o / u + q ≤ m → o / u * u + q * u ≤ κ := fun q hq => by
      have := Nat.mul_le_mul_right u hq
      rw [Nat.add_mul, Nat.mul_comm m] at this
      omega
    cases s with
    | bad => exact absurd rfl hd
    | b k y =>
      obtain ⟨rfl, rfl, rfl, hy⟩ := hs
      have e : putS (.row u m t) o k 1 (.b k y) = if m ≤ o / u then .dead else (match t.get (o / u) with
        | .ba l x => if o % u + k ≤ l then .row u m (t.set (o / u) (.ba l (spb l x (o % u) k y))) else .dead
        | _ => .dead) := by
        show @Bool.rec (fun _ => Blk) _ _ _ = _
        rw [brec_ble, show o.div u = o / u from rfl]
        by_cases h : m ≤ o / u
        · rw [if_pos h, if_pos h]
        · rw [if_neg h, if_neg h]
          generalize t.get (o / u) = z
          cases z <;> first | rfl | (simp only; rw [brec_ble]; rfl)
      rw [e] at hd ⊢
      by_cases hm : m ≤ o / u
      · rw [if_pos hm] at hd; exact absurd rfl hd
      · rw [if_neg hm] at hd ⊢
        have hU := h4 (o / u) (by omega)
        split at hd
        · next l x hg =>
          rw [hg] at hU
          by_cases hj : o % u + k ≤ l
          · rw [if_pos hj] at hd ⊢
            obtain ⟨rfl, hU'⟩ := UR_spb hU hj hy
            have hR := row_spl hB (by omega) (by rw [byC_length]; omega) hU'
            rw [hdm] at hR
            have := room 1 (by omega)
            exact ⟨by rw [byC_length]; omega, hR⟩
          · rw [if_neg hj] at hd; exact absurd rfl hd
        · exact absurd rfl hd
    | t s i =>
      obtain ⟨hc, hl, hU⟩ := hs
      have e : putS (.row u m t) o n c (.t s i) = if u = c then (if o / u + n ≤ m then (if o % u = 0 then .row u m (cpU s n i (o / u) t) else .dead) else .dead) else (if c = 1 then (if (lsU s n i).all sca = true then putS.cells o n u m t (lsU s n i) else .dead) else .dead) := by
        show @Bool.rec (fun _ => Blk) _ _ _ = _
        rw [brec_beq, brec_ble, brec_beq, brec_beq, brec, allSca_eq]; rfl
      rw [e] at hd ⊢
      by_cases huc : u = c
      · subst huc
        rw [if_pos rfl] at hd ⊢
        by_cases hm : o / u + n ≤ m
        · rw [if_pos hm] at hd ⊢
          by_cases h0 : o % u = 0
          · rw [if_pos h0]
            have hR := cpU_ok n i (o / u) t cs vs hB hl hm hU
            rw [show o / u * u = o by omega] at hR
            have := room n hm
            exact ⟨by rw [hl, Nat.mul_comm u]; omega, hR⟩
          · rw [if_neg h0] at hd; exact absurd rfl hd
        · rw [if_neg hm] at hd; exact absurd rfl hd
      · rw [if_neg huc] at hd ⊢
        by_cases hc1 : c = 1
        · rw [if_pos hc1] at hd ⊢
          subst hc1
          by_cases k2 : (lsU s n i).all sca = true
          · rw [if_pos k2] at hd ⊢
            exact cells_ok hB (lsU_ok n i vs (by omega) hU k2) k2 (by omega) hd
          · rw [if_neg k2] at hd; exact absurd rfl hd
        · rw [if_neg hc1] at hd; exact absurd rfl hd
    | c l =>
      obtain ⟨k1, k2, k3, k4⟩ := hs
      have e : putS (.row u m t) o n c (.c l) = if c = 1 then (if u = 1 then (if o + n ≤ m then .row u m (putL l o t) else .dead) else putS.cells o n u m t l) else .dead := by
        show @Bool.rec (fun _ => Blk) _ _ _ = _
        rw [brec_beq, brec_beq, brec_ble]; rfl
      rw [e] at hd ⊢
      by_cases hc1 : c = 1
      · rw [if_pos hc1] at hd ⊢
        subst hc1
        have hll := VRs.length _ _ k1
        by_cases hu1 : u = 1
        · rw [if_pos hu1] at hd ⊢
          subst hu1
          by_cases hm : o + n ≤ m
          · rw [if_pos hm]
            exact ⟨by omega, putL_ok l o t cs vs hB k1 k2 (by omega)⟩
          · rw [if_neg hm] at hd; exact absurd rfl hd
        · rw [if_neg hu1] at hd ⊢
          exact cells_ok hB k1 k2 (by omega) hd
      · rw [if_neg hc1] at hd; exact absurd rfl hd
end
end Kv
end
end
end Go.Proofs.YtfkoaooceickiaaGreat
