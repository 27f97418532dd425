/- Parts of the proof: Kyb Kyc Ba Bb Bd Pa Bc Cr Cs Kzb Lw Da Fm Sa Rw Po Tf Na Nb Nc Ga Gq Gd Hc Hd He Hg. -/
import Derived.Laws.IdiomStrings
import Derived.Laws.Strings
import Derived.Laws.Strings2
import Derived.Laws.Strings3
import Derived.Laws.Concat
import Derived.RowKit
import Derived.WalkKit
import Derived.Deep.Draws
import Derived.Test.YtfkoaooceickiaaGreatProg
import Derived.WalkSpells
import Derived.WalkLawsBesides
import Derived.Maps.AppendAt
import Derived.Laws.BytesArg
import Derived.Laws.CopyOwn
import Derived.Lib.Bytealg
import Derived.Deep.OwnRows
import Derived.Deep.MidRow
import Derived.Deep.QuietTactic
import Derived.BigQuiet
import Derived.Deep.RegionHeld3
import Derived.Lib.AppendStr
import Derived.Deep.LoopGhost
import Derived.Laws.Cells
import Derived.Lib.SliceRun
import Derived.Handy
import Derived.Deep.AppendLies
import Derived.Lib.Hide
import Derived.Shelf.Abstract
import Derived.Laws.IdiomCopy
import Derived.Laws.AppendOwn
import Derived.Lib.ConvBytes
import Derived.Lib.SmallJoins
import Derived.ArgAppend
import Derived.Laws.AppendOwnNone
import Derived.Deep.Quiet
import Derived.Tactics2
import Derived.KernelRfl
import Derived.Laws.Cover1
import Derived.StillTailTactics
import Derived.Deep.RegionLaw
import Derived.Lib.AppendZerosOnto
import Derived.Lib.AppendZeros
import Derived.Lib.Overlaps
import Derived.Laws.Externs
import Derived.Laws.NewBlocks
import Derived.Test.YtfkoaooceickiaaGreatG11
set_option linter.all false
set_option maxRecDepth 100000
namespace Go.Proofs.YtfkoaooceickiaaGreat
section
namespace Kv
noncomputable section
inductive PT where
  | d
  | l (b : Blk)
  | n (x y : PT)
def PT.tree (p : PT) : Nat → RT Blk := PT.rec (motive := fun _ => Nat → RT Blk) (fun k => RT.mk .dead k) (fun b _ => .l b) (fun _ _ tx ty k => .n (Nat.pow 2 (Nat.pred k)) (tx (Nat.pred k)) (ty (Nat.pred k))) p
def PT.shape (p : PT) : Nat → Bool := PT.rec (motive := fun _ => Nat → Bool) (fun _ => true) (fun _ k => Nat.beq k 0) (fun _ _ sx sy k => (@Bool.rec (fun _ => _) ((@Bool.rec (fun _ => _) (false) (sy (Nat.pred k)) (sx (Nat.pred k)))) (false) (Nat.beq k 0))) p
def PT.in_ (p : PT) : RT Blk → Bool := PT.rec (motive := fun _ => RT Blk → Bool) (fun _ => true) (fun b t => match t with | .l c => eqB b c | .n _ _ _ => false) (fun _ _ ix iy t => match t with | .n _ x y => (@Bool.rec (fun _ => _) (false) (iy y) (ix x)) | .l _ => false) p
structure Ent where
  f : Nat
  a : List AV
  d : Nat
  p : PT
  n : Nat
  v : AV
  d' : Nat
  p' : PT
  n' : Nat
def litH (d : Nat) (p : PT) (n : Nat) : HP := ⟨d, p.tree d, n⟩
def Ent.h (e : Ent) : HP := litH e.d e.p e.n
def Ent.h' (e : Ent) : HP := litH e.d' e.p' e.n'
def isH (d : Nat) (p : PT) (n : Nat) (h : HP) : Bool := match h with | ⟨k, t, m⟩ => (@Bool.rec (fun _ => _) (false) ((@Bool.rec (fun _ => _) (false) (p.in_ t) (Nat.beq d k))) (Nat.beq n m))
def Ent.look (e : Ent) (f : Nat) (a : List AV) (h : HP) : Bool := (@Bool.rec (fun _ => _) (false) ((@Bool.rec (fun _ => _) (false) (isH e.d e.p e.n h) (eqL (eqA 4) e.a a))) (Nat.beq e.f f))
def findE (f : Nat) (a : List AV) (h : HP) : List Ent → Option (AV × HP)
  | [] => none
  | e :: l => (@Bool.rec (fun _ => _) (findE f a h l) (some (e.v, e.h')) (e.look f a h))
def hasE (f : Nat) : List Ent → Bool
  | [] => false
  | e :: l => (@Bool.rec (fun _ => _) (hasE f l) (true) (Nat.beq e.f f))
def addT (S : Sm) (l : List Ent) : Sm := ⟨fun f => (@Bool.rec (fun _ => _) (S.S f) (some (fun a h => findE f a h l)) (hasE f l)), S.I⟩
def Ent.is (e : Ent) (r : R) : Bool := match r with | some (v, h) => (@Bool.rec (fun _ => _) (false) (isH e.d' e.p' e.n' h) (eqA 4 e.v v)) | none => false
def segB (P : Program) (S : Sm) (l : List Ent) (e : Ent) : Bool := (@Bool.rec (fun _ => _) (false) ((@Bool.rec (fun _ => _) (false) ((@Bool.rec (fun _ => _) (false) (e.is (run P (addT S l) 1000000 e.f e.a e.h)) (Nat.ble e.n (Nat.pow 2 e.d)))) (e.p'.shape e.d'))) (e.p.shape e.d))
end
end Kv
end
section
noncomputable section
namespace Kv
open Go.RowKit
variable {P : Program}
theorem tree_d (k : Nat) : PT.d.tree k = RT.mk .dead k := rfl
theorem tree_l (b : Blk) (k : Nat) : (PT.l b).tree k = .l b := rfl
theorem tree_n (x y : PT) (k : Nat) : (PT.n x y).tree (k + 1) = .n (2 ^ k) (x.tree k) (y.tree k) := rfl
theorem pt_in : ∀ (p : PT) (k : Nat) (t : RT Blk), p.shape k = true → t.wf (2 ^ k) → p.in_ t = true → (p.tree k).wf (2 ^ k) ∧ ∀ i, i < 2 ^ k → (p.tree k).get i = .dead ∨ (p.tree k).get i = t.get i
  | .d, k, t, _, _, _ => ⟨RT.mk_wf _ _, fun i _ => .inl (RT.mk_get _ _ _)⟩
  | .l b, k, t, hs, hw, hi => by
    have hk : k = 0 := (beq_iff _ _).1 hs
    subst hk
    cases t with
    | l c =>
      have hb : b = c := eqB_eq b c hi
      subst hb
      exact ⟨rfl, fun i _ => .inr rfl⟩
    | n h x y => cases hi
  | .n x y, k, t, hs, hw, hi => by
    have hs : @Bool.rec (fun _ => Bool) (@Bool.rec (fun _ => Bool) false (y.shape (Nat.pred k)) (x.shape (Nat.pred k))) false (Nat.beq k 0) = true := hs
    rw [brec_beq] at hs
    cases k with
    | zero => cases hs
    | succ k =>
      rw [if_neg (by omega)] at hs
      obtain ⟨hx, hy⟩ := and_split hs
      cases t with
      | l c => cases hi
      | n h a b =>
        obtain ⟨hia, hib⟩ := and_split (show @Bool.rec (fun _ => Bool) false (y.in_ b) (x.in_ a) = true from hi)
        obtain ⟨h1, h2, h3⟩ := hw
        have hp : h = 2 ^ k := by rw [Nat.pow_succ] at h1; omega
        subst hp
        obtain ⟨w1, g1⟩ := pt_in x k a hx h2 hia
        obtain ⟨w2, g2⟩ := pt_in y k b hy h3 hib
        refine ⟨⟨h1, w1, w2⟩, fun i hik => ?_⟩
        rw [tree_n, RT.get_n, RT.get_n]
        by_cases q : 2 ^ k ≤ i
        · rw [if_pos q, if_pos q]; exact g2 _ (by rw [Nat.pow_succ] at hik; omega)
        · rw [if_neg q, if_neg q]; exact g1 _ (by omega)
theorem Ext.kills {ρ : Ren} {h g : HP} {w : World} (hr : HR ρ h w) (hw : g.wf) (hn : g.n = h.n) (he : ∀ i, g.get i = .dead ∨ g.get i = h.get i) : Ext ρ h w ρ g w := by
  have live : ∀ i, g.get i ≠ .dead → g.get i = h.get i := fun i hi => (he i).resolve_left hi
  refine ⟨RLe.refl ρ, ⟨hw, fun i b κ hi => ?_, fun i j b κ κ' hi hj d1 d2 => hr.inj i j b κ κ' hi hj (live i d1 ▸ d1) (live j d2 ▸ d2), fun i => ?_⟩, fun i p h1 h2 => (by rw [h1] at h2; cases h2), by omega, Nat.le_refl _, fun _ _ _ => rfl, fun i b κ hi hd _ => ⟨i, κ, hi, live i hd ▸ hd⟩, rfl, rfl, rfl⟩
  · obtain ⟨h1, o, h2, h3⟩ := hr.at_ i b κ hi
    refine ⟨by omega, o, h2, ?_⟩
    rcases he i with e | e
    · rw [e]; trivial
    · rw [e]; exact h3
  · rw [hn]
    rcases he i with e | e
    · rw [e]; exact .inl rfl
    · rw [e]; exact hr.low i
theorem isH_ext {ρ : Ren} {h : HP} {w : World} {d n : Nat} {p : PT} (hs : p.shape d = true) (hi : isH d p n h = true) (hr : HR ρ h w) : Ext ρ h w ρ (litH d p n) w := by
  obtain ⟨k, t, m⟩ := h
  have hi : @Bool.rec (fun _ => Bool) false (@Bool.rec (fun _ => Bool) false (p.in_ t) (Nat.beq d k)) (Nat.beq n m) = true := hi
  obtain ⟨h1, h2⟩ := and_split hi
  obtain ⟨h3, h4⟩ := and_split h2
  have e1 := (beq_iff _ _).1 h1
  have e2 := (beq_iff _ _).1 h3
  subst e1; subst e2
  obtain ⟨hw1, hw2⟩ := hr.wf
  have hw1 : t.wf (2 ^ d) := hw1
  have hw2 : n ≤ 2 ^ d := hw2
  obtain ⟨k1, k2⟩ := pt_in p d t hs hw1 h4
  refine Ext.kills hr ⟨k1, hw2⟩ rfl fun i => ?_
  rw [HP.get_eq, HP.get_eq]
  show (if i < n then (p.tree d).get i else .dead) = .dead ∨ (if i < n then (p.tree d).get i else .dead) = (if i < n then t.get i else .dead)
  by_cases q : i < n
  · rw [if_pos q, if_pos q]; exact k2 i (by omega)
  · rw [if_neg q]; exact .inl rfl
structure EntOK (P : Program) (e : Ent) : Prop where
  s : e.p.shape e.d = true
  c : CallR P e.f e.a e.h e.v e.h'
theorem look_ok {e : Ent} (he : EntOK P e) {f : Nat} {a : List AV} {h : HP} (hl : e.look f a h = true) : CallR P f a h e.v e.h' := by
  obtain ⟨h1, h2⟩ := and_split (show @Bool.rec (fun _ => Bool) false (@Bool.rec (fun _ => Bool) false (isH e.d e.p e.n h) (eqL (eqA 4) e.a a)) (Nat.beq e.f f) = true from hl)
  obtain ⟨h3, h4⟩ := and_split h2
  have e1 := (beq_iff _ _).1 h1
  have e2 := eqL_eq (eqA_eq 4) _ _ h3
  subst e1; subst e2
  intro ρ args' w K hv hr hK
  have x := isH_ext he.s h4 hr
  exact he.c ρ args' w K hv x.hr fun ρ' v' w' x' hv' => hK ρ' v' w' (x.trans x') hv'
theorem find_ok {f : Nat} {a : List AV} {h : HP} {v : AV} {h' : HP} : ∀ (l : List Ent), (∀ e ∈ l, EntOK P e) → findE f a h l = some (v, h') → CallR P f a h v h'
  | [], _, hf => by cases hf
  | e :: l, hl, hf => by
    have hf : @Bool.rec (fun _ => Option (AV × HP)) (findE f a h l) (some (e.v, e.h')) (e.look f a h) = some (v, h') := hf
    rw [brec] at hf
    split at hf
    · next q =>
      injection hf with hf
      injection hf with e1 e2
      subst e1; subst e2
      exact look_ok (hl e List.mem_cons_self) q
    · exact find_ok l (fun x hx => hl x (List.mem_cons_of_mem _ hx)) hf
theorem addT_ok {S : Sm} {l : List Ent} (hS : SmOk P S) (hl : ∀ e ∈ l, EntOK P e) : SmOk P (addT S l) where
  s := fun f g hg args h v h' hgo => by
    have hg : @Bool.rec (fun _ => Option (List AV → HP → Option (AV × HP))) (S.S f) (some (fun a h => findE f a h l)) (hasE f l) = some g := hg
    rw [brec] at hg
    split at hg
    · injection hg with hg
      subst hg
      exact find_ok l hl hgo
    · exact hS.s f g hg args h v h' hgo
  i := hS.i
theorem seg_ok (hm : P.follows .mixedOrders = true) (hN : NoNum P) {S : Sm} {l : List Ent} {e : Ent} (hS : SmOk P S) (hl : ∀ e ∈ l, EntOK P e) (hb : segB P S l e = true) : EntOK P e := by
  obtain ⟨h1, h2⟩ := and_split (show @Bool.rec (fun _ => Bool) false (@Bool.rec (fun _ => Bool) false (@Bool.rec (fun _ => Bool) false (e.is (run P (addT S l) 1000000 e.f e.a e.h)) (Nat.ble e.n (Nat.pow 2 e.d))) (e.p'.shape e.d')) (e.p.shape e.d) = true from hb)
  obtain ⟨h3, h4⟩ := and_split h2
  obtain ⟨_, h5⟩ := and_split h4
  refine ⟨h1, ?_⟩
  have hcall := run_ok hm hN (addT_ok hS hl) 1000000
  cases hr : run P (addT S l) 1000000 e.f e.a e.h with
  | none => rw [hr] at h5; cases h5
  | some vh =>
    obtain ⟨v, h⟩ := vh
    rw [hr] at h5
    obtain ⟨h6, h7⟩ := and_split (show @Bool.rec (fun _ => Bool) false (isH e.d' e.p' e.n' h) (eqA 4 e.v v) = true from h5)
    have e1 := eqA_eq 4 _ _ h6
    obtain ⟨v1, g1, k1, k2⟩ := hcall _ _ _ _ _ hr
    injection k1 with k1
    injection k1 with q1 q2
    subst q1; subst q2; subst e1
    intro ρ args' w K hv hw hK
    refine k2 ρ args' w K hv hw fun ρ' v' w' x hv' => ?_
    exact hK ρ' v' w' (x.trans (isH_ext h3 h7 x.hr)) hv'
end Kv
end
end
section
abbrev Bs := List UInt8
def S (l : Bs) : ByteArray := ⟨l.toArray⟩
@[go_sem] theorem S_size (l : Bs) : (S l).size = l.length := by simp [S, ByteArray.size]
@[go_sem] theorem S_append (a b : Bs) : S a ++ S b = S (a ++ b) := Go.ByteArray.mk_append_mk ..
@[go_sem] theorem S_extract (l : Bs) (i j : Nat) : (S l).extract i j = S ((l.drop i).take (j - i)) := Go.ByteArray.extract_mk ..
@[go_sem] theorem S_toList (l : Bs) : (S l).toList = l := Go.ByteArray.toList_mk l
section
variable {P : Program} (w : World)
@[go_sem high] theorem run_index_S (t : TypeId) (l : Bs) (k : IntKind) (i : Int) (h : P.underlying t = some .string) (h0 : 0 ≤ i) (h1 : i < l.length) :
  (Instr.index t (.string (S l)) (.int k i)).run P w = .ok (.int .u8 ((l.getD i.toNat 0).toNat : Int)) w := by
 rw [run_index_string w t (S l) k i h, dif_pos ⟨h0, by rw [S_size]; exact h1⟩]
 have h2 : i.toNat < l.length := by omega
 have e : (S l)[i.toNat]'(by rw [S_size]; exact h2) = l[i.toNat] := by
  show l.toArray[i.toNat] = _
  simp
 rw [e]
 simp [List.getD, h2]
end
def two (n : Nat) : Bs := [UInt8.ofNat (n / 256), UInt8.ofNat n]
@[simp] theorem two_length (n : Nat) : (two n).length = 2 := rfl
def rlen (rs : List Bs) : Nat := (rs.map List.length).sum
@[simp] theorem rlen_nil : rlen [] = 0 := rfl
@[simp] theorem rlen_cons (r : Bs) (rs : List Bs) : rlen (r :: rs) = r.length + rlen rs := by simp [rlen]
@[simp] theorem rlen_append (a b : List Bs) : rlen (a ++ b) = rlen a + rlen b := by simp [rlen]
def slotsOf : Nat → List Bs → List (Nat × Nat)
 | _, [] => []
 | top, r :: rs => (top - r.length, r.length) :: slotsOf (top - r.length) rs
@[simp] theorem slotsOf_length (rs : List Bs) : ∀ top, (slotsOf top rs).length = rs.length := by
 induction rs with
 | nil => intro; rfl
 | cons r rs ih => intro top; simp [slotsOf, ih]
def flatS (l : List (Nat × Nat)) : Bs := l.flatMap fun x => two x.1 ++ two x.2
@[simp] theorem flatS_nil : flatS [] = [] := rfl
@[simp] theorem flatS_cons (x : Nat × Nat) (l : List (Nat × Nat)) : flatS (x :: l) = two x.1 ++ two x.2 ++ flatS l := rfl
@[simp] theorem flatS_length (l : List (Nat × Nat)) : (flatS l).length = 4 * l.length := by
 induction l with
 | nil => rfl
 | cons x l ih => simp [ih]; omega
def heapB : List Bs → Bs
 | [] => []
 | r :: rs => heapB rs ++ r
@[simp] theorem heapB_length (rs : List Bs) : (heapB rs).length = rlen rs := by
 induction rs with
 | nil => rfl
 | cons r rs ih => simp [heapB, ih]; omega
def used (rs : List Bs) : Nat := 4 + 4 * rs.length + rlen rs
def lay (rs : List Bs) : Bs := two rs.length ++ two (232 - rlen rs) ++ flatS (slotsOf 232 rs) ++ List.replicate (232 - used rs) 0 ++ heapB rs
end
section
def be : Nat → Nat → Bs
 | 0, _ => []
 | k + 1, n => UInt8.ofNat (n / 256 ^ k) :: be k n
@[simp] theorem be_length (k n : Nat) : (be k n).length = k := by
 induction k with
 | zero => rfl
 | succ k ih => simp [be, ih]
def encI (x : Int) : Bs := be 8 (x + 9223372036854775808).toNat
@[simp] theorem encI_length (x : Int) : (encI x).length = 8 := by simp [encI]
end
section
open Go.RowKit
theorem hid {p : Prop} (h : p) : Hid p := h
theorem stopAt {P : Program} {ops : Array Oper} {Q : Exit → Act → World → Prop} {rest : List Oper} {o : Oper} {a : Act} {w : World} (b : Builtin) {args : Array Operand} {ts : Array TypeId}
  (_ : o.op = .call { callee := .builtin b, args := args, argTypes := ts }) (h : Hid (wpList P ops Q (o :: rest) a w)) : wpList P ops Q (o :: rest) a w := h
theorem goOn {p : Prop} (h : p) : Hid p := h
structure Kp (O : List Nat) (w w' : World) : Prop where
 os : w'.os = w.os
 tape : w'.tape = w.tape
 output : w'.output = w.output
 size : w.heap.size ≤ w'.heap.size
 block : ∀ b, b < w.heap.size → b ∉ O → w'.heap[b]? = w.heap[b]?
namespace Kp
variable {O O' : List Nat} {w w' w'' a : World}
theorem refl (O : List Nat) (w : World) : Kp O w w := ⟨rfl, rfl, rfl, Nat.le_refl _, fun _ _ _ => rfl⟩
theorem trans (h : Kp O w w') (k : Kp O w' w'') : Kp O w w'' :=
 ⟨k.os.trans h.os, k.tape.trans h.tape, k.output.trans h.output, Nat.le_trans h.size k.size, fun b hb ho => (k.block b (Nat.lt_of_lt_of_le hb h.size) ho).trans (h.block b hb ho)⟩
theorem mono (h : Kp O w w') (hs : ∀ x ∈ O, x ∈ O' ∨ w.heap.size ≤ x) : Kp O' w w' :=
 ⟨h.os, h.tape, h.output, h.size, fun b hb ho => h.block b hb fun hx => (hs b hx).elim ho (by omega)⟩
theorem of_below (h : Below w.heap.size w w') : Kp O w w' := ⟨h.os, h.tape, h.output, h.size, fun b hb _ => h.block b hb⟩
theorem to_below (h : Kp O w w') {B : Nat} (hB : B ≤ w.heap.size) (ho : ∀ x ∈ O, B ≤ x) : Below B w w' :=
 ⟨h.os, h.tape, h.output, h.size, fun b hb => h.block b (by omega) fun hx => by have := ho b hx; omega⟩
theorem drew (h : Kp O a w) : Kp O a w.drew := ⟨h.os, h.tape, h.output, h.size, h.block⟩
theorem alloc (h : Kp O a w) (o : Obj) : Kp O a (w.alloc o) :=
 ⟨h.os, h.tape, h.output, Nat.le_trans h.size (by simp), fun b hb ho => (Below.heap_alloc w o b (Nat.lt_of_lt_of_le hb h.size)).trans (h.block b hb ho)⟩
theorem setCell (h : Kp O a w) {p : Addr} (hp : p.block ∈ O ∨ a.heap.size ≤ p.block) (u : Value) : Kp O a (w.setCell p u) :=
 ⟨h.os, h.tape, h.output, by simpa [World.setCell] using h.size, fun b hb ho => (Below.heap_setCell w p u b (by
  rintro rfl
  rcases hp with hp | hp
  ·exact ho hp
  ·omega)).trans (h.block b hb ho)⟩
theorem cell (h : Kp O w w') {p : Addr} (hp : p.block < w.heap.size) (ho : p.block ∉ O) : w'.cell? p = w.cell? p := World.cell?_of_block (h.block _ hp ho)
theorem frozen (h : Kp O w w') {p : Addr} (hp : p.block < w.heap.size) (ho : p.block ∉ O) : w'.frozen? p = w.frozen? p := World.frozen?_of_block (h.block _ hp ho)
end Kp
def Blk (w : World) (g : Nat) (t : TypeId) (cs : Array Value) : Prop := w.heap[g]? = some (.cells cs t (0, 0))
section
variable {w w' : World} {g : Nat} {t : TypeId} {cs : Array Value}
theorem Blk.lt (h : Blk w g t cs) : g < w.heap.size := lt_of_block h
theorem Blk.cell (h : Blk w g t cs) (i : Nat) : w.cell? ⟨g, i, none⟩ = cs[i]? := cell_of_row w g i cs t (0, 0) h
theorem Blk.frozen (h : Blk w g t cs) (i : Nat) : w.frozen? ⟨g, i, none⟩ = false := by
 unfold Blk at h
 simp [World.frozen?, h]
theorem Blk.new (w : World) (t : TypeId) (cs : Array Value) : Blk (w.alloc (.cells cs t)) w.heap.size t cs := heap_alloc_new w _
theorem Blk.drew (h : Blk w g t cs) : Blk w.drew g t cs := h
theorem Blk.alloc (h : Blk w g t cs) (o : Obj) : Blk (w.alloc o) g t cs := (Below.heap_alloc w o g h.lt).trans h
theorem Blk.set_ (h : Blk w g t cs) (i : Nat) (u : Value) : Blk (w.setCell ⟨g, i, none⟩ u) g t (cs.setIfInBounds i u) := by
 unfold Blk at h ⊢
 simp [World.setCell, Array.getElem?_modify, h]
theorem Blk.far (h : Blk w g t cs) {p : Addr} (hp : g ≠ p.block) (u : Value) : Blk (w.setCell p u) g t cs := (Below.heap_setCell w p u g hp).trans h
theorem Blk.below {B : Nat} (h : Blk w g t cs) (hb : Below B w w') (hg : g < B) : Blk w' g t cs := (hb.block g hg).trans h
theorem Blk.kp {O : List Nat} (h : Blk w g t cs) (hk : Kp O w w') (ho : g ∉ O) : Blk w' g t cs := (hk.block g h.lt ho).trans h
theorem Blk.ne_ {g' : Nat} {t' : TypeId} {cs' : Array Value} (h : Blk w g t cs) (h' : Blk w g' t' cs') (hne : t ≠ t') : g ≠ g' := by
 rintro rfl
 unfold Blk at h h'
 rw [h] at h'
 injection h' with h'
 injection h' with _ ht
 exact hne ht
end
end
section
open Go.RowKit
def cB (l : Bs) : List Value := l.map fun b => Value.int .u8 (b.toNat : Int)
@[simp] theorem cB_length (l : Bs) : (cB l).length = l.length := by simp [cB]
@[simp] theorem cB_append (a b : Bs) : cB (a ++ b) = cB a ++ cB b := by simp [cB]
end
section
def tbl : List Nat := [0x00000000, 0x105ec76f, 0x20bd8ede, 0x30e349b1, 0x417b1dbc, 0x5125dad3, 0x61c69362, 0x7198540d, 0x82f63b78, 0x92a8fc17, 0xa24bb5a6, 0xb21572c9, 0xc38d26c4, 0xd3d3e1ab, 0xe330a81a, 0xf36e6f75]
theorem tbl_lt (i : Nat) : tbl.getD i 0 < 2 ^ 32 := by
 rcases Nat.lt_or_ge i 16 with h | h
 ·have : ∀ i : Fin 16, tbl.getD i 0 < 2 ^ 32 := by decide
  exact this ⟨i, h⟩
 ·have : tbl.getD i 0 = 0 := by
   have h2 : tbl[i]? = none := List.getElem?_eq_none (by simpa [tbl] using h)
   simp [List.getD, h2]
  rw [this]; decide
def tk1 (r : Nat) : Nat := (r / 16) ^^^ tbl.getD (r % 16) 0
def tk (r : Nat) (c : UInt8) : Nat := tk1 (tk1 (r ^^^ c.toNat))
theorem tk1_lt {r : Nat} (h : r < 2 ^ 32) : tk1 r < 2 ^ 32 := Nat.xor_lt_two_pow (by omega) (tbl_lt _)
theorem tk_lt {r : Nat} (c : UInt8) (h : r < 2 ^ 32) : tk r c < 2 ^ 32 :=
 tk1_lt (tk1_lt (Nat.xor_lt_two_pow h (Nat.lt_of_lt_of_le c.toNat_lt (by decide))))
def crcGo (r : Nat) (s : Bs) : Nat := s.foldl tk r
theorem crcGo_lt (s : Bs) : ∀ r, r < 2 ^ 32 → crcGo r s < 2 ^ 32 := by
 induction s with
 | nil => intro r h; exact h
 | cons c s ih => intro r h; exact ih _ (tk_lt c h)
theorem crcGo_take (s : Bs) (r j : Nat) (h : j < s.length) : crcGo r (s.take (j + 1)) = tk (crcGo r (s.take j)) (s.getD j 0) := by
 have e : s.getD j 0 = s[j] := by simp [List.getD, h]
 rw [e]
 unfold crcGo
 rw [List.take_succ_eq_append_getElem h, List.foldl_append]
 rfl
def crc (s : Bs) : Nat := 4294967295 - crcGo 4294967295 s
def four (n : Nat) : Bs := [UInt8.ofNat n, UInt8.ofNat (n / 256), UInt8.ofNat (n / 65536), UInt8.ofNat (n / 16777216)]
@[simp] theorem four_length (n : Nat) : (four n).length = 4 := rfl
def crcLay (s : Bs) : Bs := four (crc s) ++ s
@[simp] theorem crcLay_length (s : Bs) : (crcLay s).length = 4 + s.length := by simp [crcLay]
@[simp] theorem crcLay_take (s : Bs) : (crcLay s).take 4 = four (crc s) := by simp [crcLay, four]
@[simp] theorem crcLay_drop (s : Bs) : (crcLay s).drop 4 = s := by simp [crcLay, four]
end
section
open Go.RowKit
def tblV : Array Value := #[Value.int .u32 0, .int .u32 274646895, .int .u32 549293790, .int .u32 820201905, .int .u32 1098587580, .int .u32 1361435347, .int .u32 1640403810, .int .u32 1905808397, .int .u32 2197175160, .int .u32 2460548119, .int .u32 2722870694, .int .u32 2987750089, .int .u32 3280807620, .int .u32 3553878443, .int .u32 3811616794, .int .u32 4084100981]
theorem tblI : ∀ i, i < 16 → tblV[i]? = some (.int .u32 ((tbl.getD i 0 : Nat) : Int))
 | 0, _ | 1, _ | 2, _ | 3, _ | 4, _ | 5, _ | 6, _ | 7, _ | 8, _ | 9, _ | 10, _ | 11, _ | 12, _ | 13, _ | 14, _ | 15, _ => rfl
 | n + 16, h => absurd h (by omega)
def tkI (r : Nat) : Nat → Nat
 | 0 => r
 | k + 1 => tk1 (tkI r k)
theorem tkI_lt {r : Nat} (h : r < 4294967296) : ∀ k, tkI r k < 4294967296
 | 0 => h
 | k + 1 => tk1_lt (tkI_lt h k)
set_option maxHeartbeats 400000 in
theorem take_any (r : Nat) (c : UInt8) (w : World) (hr : r < 4294967296) :
  Calls Tryz.prog 450 #[.int .u32 r, .int .u8 (c.toNat : Int)] w fun e w' => e = .returned (.int .u32 (tk r c)) ∧ Below w.heap.size w w' := by
 have hc := c.toNat_lt
 have hl := hid (Nat.xor_lt_two_pow (n := 32) hr (by omega : c.toNat < 2 ^ 32))
 have HR := hid hr
 clear hr
 obtain ⟨x, hx⟩ : ∃ x : Nat, x = r ^^^ c.toNat := ⟨_, rfl⟩
 have hre : tk r c = tkI x 2 := by rw [hx]; rfl
 have HX := hid hx
 rw [hre]
 clear hre hx
 go_enter Tryz.func450, Tryz.ntmps450
 go_wp2
 obtain ⟨W, hW⟩ : ∃ W : World, W = w.alloc (.cells tblV 587) := ⟨_, rfl⟩
 have hB : Below w.heap.size w W := by rw [hW]; exact (Below.refl _ _).alloc (Nat.le_refl _) _
 have hT : Hid (∀ i, i < 16 → W.cell? ⟨w.heap.size, i, none⟩ = some (.int .u32 ((tbl.getD i 0 : Nat) : Int))) := by
  rw [hW]
  exact hid fun i hi => by rw [cell_of_row _ _ i _ _ (0, 0) (heap_alloc_new w _)]; exact tblI i hi
 rw [← HX.out] at hl
 have e0 : bits .xor .u32 (r : Int) (c.toNat : Int) = ((x : Nat) : Int) := by rw [HX.out, u32_xor_nat _ _ HR.out (by omega)]
 unfold tblV at hW
 rw [← hW, e0]
 clear e0 hW hc HR HX
 go_loop [0, 11] (fun v i => ∃ k : Nat, k ≤ 2 ∧ i = .int .i64 k ∧ v = .int .u32 (tkI x k)) (fun _ i => 2 - (intOf i).toNat)
 case atStart => exact ⟨0, by omega, rfl, rfl⟩
 case round =>
  obtain ⟨k, hk, rfl, rfl⟩ := hrel
  have hy := tkI_lt hl.out k
  have hs := hid (show tkI x (k + 1) = tk1 (tkI x k) from rfl)
  obtain ⟨y, hyx⟩ : ∃ y, tkI x k = y := ⟨_, rfl⟩
  rw [hyx] at hy hs
  have HY := hid hyx
  rw [hyx]
  clear hyx
  have hand : bits .and .u32 (y : Int) 15 = ((y % 16 : Nat) : Int) := by
   rw [show (15 : Int) = ((15 : Nat) : Int) from rfl, u32_and_nat _ _ hy (by omega), nat_mask4]
  have hc := hT.out (y % 16) (by omega)
  have hm : y % 16 < 16 := by omega
  by_cases hlt : k < 2
  ·go_wp2
   go_round
   case rel =>
    refine ⟨k + 1, by omega, by go_num, ?_⟩
    rw [hs.out]
    have ht := tbl_lt (y % 16)
    have e : ((y : Int) / 16) = ((y / 16 : Nat) : Int) := by omega
    have e2 : tbl[y % 16]?.getD 0 = tbl.getD (y % 16) 0 := by simp [List.getD]
    rw [e, e2, u32_xor_nat _ _ (by omega) (by omega)]
    rfl
   case measure => simp [intOf]; omega
  ·have hke : k = 2 := by omega
   subst hke
   go_wp2
   go_ret
   exact ⟨by rw [HY.out]; rfl, hB⟩
end
section
open Go.RowKit
theorem not32 (r : Nat) (hr : r < 4294967296) : bits .xor .u32 IntKind.u32.max (r : Int) = ((4294967295 - r : Nat) : Int) := by
 have h : IntKind.u32.max = ((4294967295 : Nat) : Int) := rfl
 rw [h, u32_xor_nat _ _ (by omega) hr]
 congr 1
 have h1 : (4294967295 : Nat) = 2 ^ 32 - 1 := rfl
 have h2 : 4294967295 - r = 2 ^ 32 - (r + 1) := by omega
 rw [h2, h1]
 refine Nat.eq_of_testBit_eq fun i => ?_
 rw [Nat.testBit_xor, Nat.testBit_two_pow_sub_one, Nat.testBit_two_pow_sub_succ hr]
 by_cases hi : i < 32
 ·simp [hi]
 ·have : r.testBit i = false := Nat.testBit_lt_two_pow (Nat.lt_of_lt_of_le hr (Nat.pow_le_pow_right (by omega) (by omega) : 2 ^ 32 ≤ 2 ^ i))
  simp [hi, this]
theorem more_any (r : Nat) (s : Bs) (w : World) (hr : r < 4294967296) (hs : s.length ≤ 1000000) :
  Calls Tryz.prog 407 #[.int .u32 r, .string (S s)] w fun e w' => e = .returned (.int .u32 ((4294967295 - crcGo (4294967295 - r) s : Nat) : Int)) ∧ Below w.heap.size w w' := by
 have hn := not32 r hr
 obtain ⟨q, hq⟩ : ∃ q, q = 4294967295 - r := ⟨_, rfl⟩
 rw [← hq] at hn ⊢
 have hql := hid (show q < 4294967296 by omega)
 clear hq hr
 go_enter Tryz.func407, Tryz.ntmps407
 go_wp2
 go_loopw [5, 11] (fun v i wr => ∃ k : Nat, k ≤ s.length ∧ i = .int .i64 k ∧ v = .int .u32 (crcGo q (s.take k)) ∧ Below w.heap.size w wr) (fun _ i _ => s.length - (intOf i).toNat)
 case atStart => exact ⟨0, by omega, rfl, rfl, Below.refl _ _⟩
 case round =>
  obtain ⟨k, hk, rfl, rfl, hb⟩ := hrel
  have hy := hid (crcGo_lt (s.take k) q hql.out)
  by_cases hlt : k < s.length
  ·have hst := hid (crcGo_take s q k hlt)
   obtain ⟨y, hyx⟩ : ∃ y, crcGo q (s.take k) = y := ⟨_, rfl⟩
   rw [hyx] at hy hst ⊢
   have hsz := hb.size
   have hc := hid (fun W => take_any y (s.getD k 0) W hy.out)
   have e : s.getD k 0 = s[k] := by simp [List.getD, hlt]
   rw [e] at hc hst
   clear e hyx
   go_wp2_with (go_at_call 450; refine (hc.out _).mono ?_; rintro e w1 ⟨rfl, hb1⟩)
   go_roundw
   case rel => exact ⟨k + 1, by omega, by go_num, by rw [hst.out], hb.trans (hb1.mono hsz)⟩
   case measure => simp [intOf]; omega
  ·have hke : k = s.length := by omega
   subst hke
   have ht : s.take s.length = s := by simp
   rw [ht] at hy ⊢
   have hn2 := not32 _ hy.out
   clear ht
   go_wp2
   go_ret
   exact ⟨rfl, hb⟩
end
section
noncomputable section
namespace Kv
open Go.RowKit
variable {P : Program}
section
variable {ρ : Ren} {h : HP} {w w' : World}
theorem Ext.of_below (hr : HR ρ h w) (b : Below w.heap.size w w') : Ext ρ h w ρ h w' :=
  ⟨RLe.refl ρ, ⟨hr.wf, fun i g κ hi => by obtain ⟨h1, o, h2, h3⟩ := hr.at_ i g κ hi; exact ⟨h1, o, by rw [b.block g (hr.lt hi)]; exact h2, h3⟩, hr.inj, hr.low⟩, fun i p h1 h2 => (by rw [h1] at h2; cases h2), Nat.le_refl _, b.size, fun k hk _ => b.block k hk, fun i g κ h1 h2 _ => ⟨i, κ, h1, h2⟩, b.os, b.output, b.tape⟩
theorem Upon.value {f : FuncId} {args : Array Value} {K : Value → World → Prop} {v : Value} (hr : (callFunc f args).run P w = .ok (.value v) w') (h : K v w') : Upon P f args w K := by
  unfold Upon; rw [hr]; exact h
theorem Upon.calls {f : FuncId} {args : Array Value} {K : Value → World → Prop} {fn : Func} {c : Code} (e1 : P.funcs[f]? = some fn) (e2 : fn.body = some c) (e3 : fn.name ≠ "runtime.NumGoroutine") (h : Calls P f args w fun e w' => ∃ v, e = .returned v ∧ K v w') : Upon P f args w K := by
  unfold Upon
  rw [r_callFunc e1 e2 e3]
  refine h.mono fun e w' he => ?_
  obtain ⟨v, rfl, hk⟩ := he
  exact hk
theorem ext1_ok {f : FuncId} (hf : ∀ b w, (callFunc f #[.float .f64 b]).run P w = .ok (.value (.int .u64 (b : Nat))) w) : ∀ args h v h', ext1 args h = some (v, h') → CallR P f args h v h' := fun args h v h' e => by
  rcases args with _ | ⟨a, _ | ⟨b, l⟩⟩
  · cases e
  · cases a <;> first | (cases e; done) | skip
    case fl x =>
      have e : @Bool.rec (fun _ => Option (AV × HP)) none (some (.int 7 x, h)) (Nat.ble x 18446744073709551615) = some (v, h') := e
      rw [brec_ble] at e
      split at e
      · next q =>
        injection e with e
        injection e with e1 e2
        subst e1; subst e2
        intro ρ args' w K hv hr hK
        obtain ⟨y, l, rfl, hy, hl⟩ := hv
        have hl : l = [] := hl
        have hy : y = .float .f64 x := hy
        subst hl; subst hy
        refine Upon.value (hf x w) (hK ρ _ w (Ext.refl hr) (VR_int.2 ⟨?_, ?_, by decide⟩))
        · show Value.int .u64 (x : Nat) = .int .u64 (toI 7 x)
          rw [toI_nat (by show x < 18446744073709551616; omega) (fun q => by cases q)]
        · show x < 18446744073709551616; omega
      · cases e
  · cases a <;> cases e
theorem ext2_ok {f : FuncId} (hf : ∀ (b : Int) w, (callFunc f #[.int .u64 b]).run P w = .ok (.value (.float .f64 b.toNat)) w) : ∀ args h v h', ext2 args h = some (v, h') → CallR P f args h v h' := fun args h v h' e => by
  obtain ⟨x, rfl, e⟩ : ∃ x, args = [.int 7 x] ∧ some (AV.fl x, h) = some (v, h') := by
    unfold ext2 at e
    split at e
    · exact ⟨_, rfl, e⟩
    · cases e
  injection e with e
  injection e with e1 e2
  subst e1; subst e2
  intro ρ args' w K hv hr hK
  obtain ⟨y, l, rfl, hy, hl⟩ := hv
  have hl : l = [] := hl
  subst hl
  obtain ⟨rfl, hx, _⟩ := VR_int.1 hy
  refine Upon.value (hf (toI 7 x) w) (hK ρ _ w (Ext.refl hr) ?_)
  rw [toI_nat hx (fun q => by cases q)]
  exact rfl
theorem cmp_less : ∀ a b : List UInt8, Lib.compareBytes a b = if Op.bytesLess a b = true then -1 else if Op.bytesLess b a = true then 1 else 0
  | [], [] => rfl
  | [], _ :: _ => rfl
  | _ :: _, [] => rfl
  | a :: x, b :: y => by
    have ih := cmp_less x y
    simp only [Lib.compareBytes, Op.bytesLess]
    by_cases h1 : a < b
    · simp [h1]
    · by_cases h2 : b < a
      · have hne : ¬ a = b := fun e => by subst e; exact absurd h2 (UInt8.lt_irrefl _)
        simp [h1, h2, hne]
      · have e : a = b := UInt8.le_antisymm (UInt8.not_lt.1 h2) (UInt8.not_lt.1 h1)
        subst e
        simp [h1, ih]
theorem ext3_ok {f : FuncId} (hf : ∀ (a b : ByteArray) w, (callFunc f #[.string a, .string b]).run P w = .ok (.value (.int .i64 (Lib.compareBytes a.data.toList b.data.toList))) w) : ∀ args h v h', ext3 args h = some (v, h') → CallR P f args h v h' := fun args h v h' e => by
  obtain ⟨l, x, m, y, rfl, e⟩ : ∃ l x m y, args = [.str l x, .str m y] ∧ some (@Bool.rec (fun _ => AV) (@Bool.rec (fun _ => AV) (AV.int 3 0) (.int 3 1) (lessS m y l x)) (.int 3 18446744073709551615) (lessS l x m y), h) = some (v, h') := by
    unfold ext3 at e
    split at e
    · exact ⟨_, _, _, _, rfl, e⟩
    · cases e
  injection e with e
  injection e with e1 e2
  subst e2
  intro ρ args' w K hv hr hK
  obtain ⟨v1, l1, rfl, ⟨s1, rfl, h1⟩, v2, l2, rfl, ⟨s2, rfl, h2⟩, hl⟩ := hv
  have hl : l2 = [] := hl
  subst hl
  refine Upon.value (hf s1 s2 w) (hK ρ _ w (Ext.refl hr) ?_)
  rw [← e1, cmp_less, ← ByteArray.toList_eq, ← ByteArray.toList_eq, SR_less h1 h2, SR_less h2 h1]
  cases lessS l x m y
  · cases lessS m y l x
    · exact VR_int.2 ⟨rfl, by decide, by decide⟩
    · exact VR_int.2 ⟨rfl, by decide, by decide⟩
  · exact VR_int.2 ⟨rfl, by decide, by decide⟩
theorem crc4_eq (r : Nat) : crc4 r = tk1 r := by
  have h : ∀ i : Fin 16, Nat.land (Nat.shiftRight 0xf36e6f75e330a81ad3d3e1abc38d26c4b21572c9a24bb5a692a8fc1782f63b787198540d61c693625125dad3417b1dbc30e349b120bd8ede105ec76f00000000 (Nat.mul 32 i.val)) 4294967295 = tbl.getD i.val 0 := by decide
  have hm : Nat.land r 15 = r % 16 := Nat.and_two_pow_sub_one_eq_mod r 4
  unfold crc4 tk1
  rw [hm, h ⟨r % 16, Nat.mod_lt _ (by omega)⟩]
  show (r >>> 4) ^^^ _ = _
  rw [Nat.shiftRight_eq_div_pow]
theorem crcB_succ (n x r : Nat) : crcB (n + 1) x r = crcB n x (crc4 (crc4 (Nat.xor r (Nat.land (Nat.shiftRight x (Nat.mul 8 n)) 255)))) := rfl
theorem crcB_eq (x : Nat) : ∀ (s : List UInt8) (r : Nat), s.map UInt8.toNat = bys s.length x → crcB s.length x r = crcGo r s
  | [], _, _ => rfl
  | c :: s, r, h => by
    rw [List.map_cons, List.length_cons] at h
    have h : c.toNat :: s.map UInt8.toNat = (x / 256 ^ s.length) % 256 :: bys s.length x := h
    injection h with h1 h2
    rw [List.length_cons, crcB_succ, crcB_eq x s _ h2]
    have hb : Nat.land (Nat.shiftRight x (Nat.mul 8 s.length)) 255 = c.toNat := by
      have e1 : Nat.land (Nat.shiftRight x (Nat.mul 8 s.length)) 255 = (x >>> (8 * s.length)) % 256 := Nat.and_two_pow_sub_one_eq_mod _ 8
      rw [e1, h1, Nat.shiftRight_eq_div_pow, Nat.pow_mul]
    rw [hb, crc4_eq, crc4_eq]; rfl
theorem crcS_ok {f : FuncId} {fn : Func} {c : Code} (e1 : P.funcs[f]? = some fn) (e2 : fn.body = some c) (e3 : fn.name ≠ "runtime.NumGoroutine")
    (hf : ∀ (r : Nat) (s : Bs) (w : World), r < 4294967296 → s.length ≤ 1000000 → Calls P f #[.int .u32 r, .string (S s)] w fun e w' => e = .returned (.int .u32 ((4294967295 - crcGo (4294967295 - r) s : Nat) : Int)) ∧ Below w.heap.size w w') : ∀ args h v h', crcS args h = some (v, h') → CallR P f args h v h' := fun args h v h' e => by
  obtain ⟨s, l, x, rfl, e0⟩ : ∃ s l x, args = [.int 6 s, .str l x] ∧ @Bool.rec (fun _ => Option (AV × HP)) none (some (AV.int 6 (Nat.sub 4294967295 (crcB l x (Nat.sub 4294967295 s))), h)) (Nat.ble l 1000000) = some (v, h') := by
    unfold crcS at e
    split at e
    · exact ⟨_, _, _, rfl, e⟩
    · cases e
  rw [brec_ble] at e0
  split at e0
  · next q =>
    injection e0 with e0
    injection e0 with k1 k2
    subst k1; subst k2
    intro ρ args' w K hv hr hK
    obtain ⟨v1, l1, rfl, hv1, v2, l2, rfl, ⟨s2, rfl, h2⟩, hl⟩ := hv
    have hl : l2 = [] := hl
    subst hl
    obtain ⟨rfl, hs, _⟩ := VR_int.1 hv1
    have hz := SR_size h2
    obtain ⟨bs, hbs⟩ : ∃ bs, bs = s2.data.toList := ⟨_, rfl⟩
    have hS : s2 = Go.Proofs.YtfkoaooceickiaaGreat.S bs := by rw [hbs]; rfl
    have hlen : bs.length = l := by rw [hbs, Array.length_toList]; exact hz
    have hmap : bs.map UInt8.toNat = bys bs.length x := by rw [hlen, hbs]; exact h2.1
    rw [hS, toI_nat hs (fun q => by cases q)]
    refine Upon.calls e1 e2 e3 ((hf s bs w hs (by omega)).mono fun e w' he => ?_)
    obtain ⟨rfl, hb⟩ := he
    refine ⟨_, rfl, hK ρ _ w' (Ext.of_below hr hb) ?_⟩
    rw [← crcB_eq x bs _ hmap, hlen]
    have hlt : Nat.sub 4294967295 (crcB l x (Nat.sub 4294967295 s)) < mdN 6 := Nat.lt_of_le_of_lt (Nat.sub_le _ _) (by decide)
    refine VR_int.2 ⟨?_, hlt, by decide⟩
    rw [toI_nat hlt (fun q => by cases q)]; rfl
  · cases e0
end
end Kv
end
end
section
open Go.RowKit
def bA (l : Bs) : Array Value := (cB l).toArray
@[simp] theorem bA_size (l : Bs) : (bA l).size = l.length := by simp [bA]
end
section
open Go.RowKit
structure DkL where
 d : Nat
 bn : Nat
 bo : Nat
 bl : Nat
theorem kp_setCells (b : Nat) : ∀ (vs : List Value) (o : Nat) (w : World), Kp [b] w (w.setCells b o vs)
 | [], _, w => Kp.refl _ _
 | v :: vs, o, w => by
  show Kp [b] w ((w.setCell ⟨b, o, none⟩ v).setCells b (o + 1) vs)
  exact ((Kp.refl [b] w).setCell (p := ⟨b, o, none⟩) (.inl (by simp)) v).trans (kp_setCells b vs (o + 1) _)
end
section
open Go.RowKit Go.Lib
def cI (l : List Int) : List Value := l.map fun n => Value.int .i64 n
@[simp] theorem cI_length (l : List Int) : (cI l).length = l.length := by simp [cI]
theorem cI_get (l : List Int) (i : Nat) (h : i < l.length) : (cI l)[i]? = some (.int .i64 (l.getD i 0)) := by
 simp [cI, h, List.getD]
def SlI (w : World) (v : Value) (l : List Int) : Prop := (v = .slice none 0 0 ∧ l = []) ∨ ∃ b o c, v = .slice (some ⟨b, o, none⟩) l.length c ∧ b < w.heap.size ∧ w.rangeAt b o (cI l)
theorem index_any (w : World) (v : Value) (l : List Int) (x : Int) (h : SlI w v l) (hl : l.length ≤ 1000000) :
  Calls Tryz.prog 406 #[v, .int .i64 x] w fun e w' => w = w' ∧ ((e = .returned (.int .i64 (-1)) ∧ x ∉ l) ∨ ∃ k : Nat, e = .returned (.int .i64 k) ∧ l[k]? = some x ∧ x ∉ l.take k) := by
 rcases h with ⟨rfl, rfl⟩ | ⟨b, o, c, rfl, hb, hr⟩
 ·go_enter Tryz.func406, Tryz.ntmps406
  go_wp2
  refine wp_loop_rounds 1 ?_
  rw [rounds_succ]
  go_wp2
  go_ret
  exact ⟨rfl, .inl ⟨rfl, by simp⟩⟩
 ·go_enter Tryz.func406, Tryz.ntmps406
  go_wp2
  go_loop [8] (fun i => ∃ k : Nat, k ≤ l.length ∧ i = .int .i64 k ∧ x ∉ l.take k) (fun i => l.length - (intOf i).toNat)
  case atStart => exact ⟨0, Nat.zero_le _, rfl, by simp⟩
  case round =>
   obtain ⟨k, hk, rfl, hno⟩ := hrel
   have HNO := hid hno
   clear hno
   by_cases hlt : k < l.length
   ·have hc := hr k _ (cI_get l k hlt)
    have hg : l[k]? = some (l.getD k 0) := by simp [List.getD, hlt]
    have HG := hid hg
    have ht : l.take (k + 1) = l.take k ++ [l.getD k 0] := by rw [List.take_succ_eq_append_getElem hlt]; simp [List.getD, hlt]
    have HT := hid ht
    clear hg ht
    generalize l.getD k 0 = y at *
    by_cases hxy : x = y
    ·subst hxy
     go_wp2
     go_ret
     exact ⟨rfl, .inr ⟨k, rfl, HG.out, HNO.out⟩⟩
    ·have hne : (x == y) = false := by simpa using hxy
     go_wp2
     go_round
     case rel => exact ⟨k + 1, by omega, by go_num, by rw [HT.out]; simp [HNO.out, hxy]⟩
     case measure => simp [intOf]; omega
   ·have hke : k = l.length := by omega
    go_wp2
    go_ret
    exact ⟨rfl, .inl ⟨rfl, by have := HNO.out; rwa [hke, List.take_length] at this⟩⟩
structure MpI (w : World) (m ml : Nat) (K : List Int) : Prop where
 c : Blk w m 396 #[.slice (some ⟨ml, 0, none⟩) K.length K.length]
 l : Blk w ml 3 (cI K).toArray
 n0 : 0 < K.length
 n1 : K.length ≤ 1024
theorem MpI.ne {w : World} {m ml : Nat} {K : List Int} (h : MpI w m ml K) : m ≠ ml := h.c.ne_ h.l (by decide)
theorem MpI.sl {w : World} {m ml : Nat} {K : List Int} (h : MpI w m ml K) : SlI w (.slice (some ⟨ml, 0, none⟩) K.length K.length) K :=
 .inr ⟨ml, 0, _, rfl, h.l.lt, fun j v hj => by rw [h.l.cell]; simpa using hj⟩
theorem map_first {w : World} {m ml : Nat} {K : List Int} (h : MpI w m ml K) (x : Int) :
  Calls Tryz.prog 424 #[.pointer (some ⟨m, 0, none⟩), .int .i64 x] w fun e w' => w = w' ∧ ((e = .returned (.int .i64 (-1)) ∧ x ∉ K) ∨ ∃ k : Nat, e = .returned (.int .i64 k) ∧ K[k]? = some x ∧ x ∉ K.take k) := by
 have HI := hid (index_any w _ K x h.sl (by have := h.n1; omega))
 have h0 : w.cell? ⟨m, 0, none⟩ = some (.slice (some ⟨ml, 0, none⟩) K.length K.length) := by rw [h.c.cell]; rfl
 clear h
 go_enter Tryz.func424, Tryz.ntmps424
 go_wp2_with fail
 refine HI.out.mono ?_
 rintro e w' ⟨rfl, ⟨rfl, hx⟩ | ⟨k, rfl, hk, hx⟩⟩
 ·have HX := hid hx
  clear hx
  go_wp2
  go_ret
  exact ⟨rfl, .inl ⟨rfl, HX.out⟩⟩
 ·have HX := hid hx
  have HK := hid hk
  clear hx hk
  go_wp2
  go_ret
  exact ⟨rfl, .inr ⟨k, rfl, HK.out, HX.out⟩⟩
theorem cI_set (K : List Int) (p : Nat) (x : Int) : (cI K).toArray.setIfInBounds p (.int .i64 x) = (cI (K.set p x)).toArray := by
 simp [cI, List.map_set]
theorem MpI.set_ {w : World} {m ml : Nat} {K : List Int} (h : MpI w m ml K) (p : Nat) (x : Int) : MpI (w.setCell ⟨ml, p, none⟩ (.int .i64 x)) m ml (K.set p x) :=
 ⟨by have := h.c.far (p := ⟨ml, p, none⟩) h.ne (.int .i64 x); simpa using this, by have := h.l.set_ p (.int .i64 x); rwa [cI_set] at this, by simpa using h.n0, by simpa using h.n1⟩
theorem map_take {w : World} {m ml : Nat} {K : List Int} (h : MpI w m ml K) (hx : (0 : Int) ∈ K) :
  Calls Tryz.prog 376 #[.pointer (some ⟨m, 0, none⟩)] w fun e w' => ∃ p : Nat, K[p]? = some 0 ∧ e = .returned (.tuple #[.int .i64 p, .int .i64 0]) ∧ MpI w' m ml (K.set p 2) ∧ w' = w.setCell ⟨ml, p, none⟩ (.int .i64 2) := by
 have HF := hid (map_first h 0)
 have h0 : w.cell? ⟨m, 0, none⟩ = some (.slice (some ⟨ml, 0, none⟩) K.length K.length) := by rw [h.c.cell]; rfl
 have H := hid h
 have HX := hid hx
 have hn := h.n1
 clear h hx
 go_enter Tryz.func376, Tryz.ntmps376
 go_wp2_with fail
 refine HF.out.mono ?_
 rintro e w' ⟨rfl, ⟨rfl, hx⟩ | ⟨k, rfl, hk, hx⟩⟩
 ·exact absurd HX.out hx
 ·have hkl := (List.getElem?_eq_some_iff.1 hk).1
  have hc : w.cell? ⟨ml, k, none⟩ = some (.int .i64 0) := by rw [H.out.l.cell]; simp [cI, hk]
  have hf := H.out.l.frozen k
  have HK := hid hk
  clear hk hx
  go_wp2
  go_ret2
  exact ⟨k, HK.out, rfl, H.out.set_ k 2, rfl⟩
end
section
open Go.RowKit Go.Lib
structure ShL where
 D : DkL
 m : Nat
 ml : Nat
 s : Nat
structure ShG where
 sec : Nat → Bs
 K : List Int
 T : List Int
 tv : Value
end
section
open Go.RowKit Go.Lib
section
variable {α : Type} {enc : α → List Value} {k : Nat}
def rowV (enc : α → List Value) (l : List α) : List Value := l.flatMap enc
@[simp] theorem rowV_nil : rowV enc [] = [] := rfl
@[simp] theorem rowV_cons (x : α) (l : List α) : rowV enc (x :: l) = enc x ++ rowV enc l := rfl
@[simp] theorem rowV_append (a b : List α) : rowV enc (a ++ b) = rowV enc a ++ rowV enc b := by simp [rowV]
end
end
section
open Go.RowKit Go.Lib
structure Fr where
 page : Int
 pay : Bs
 held : Int
 dirty : Bool
 used : Bool
structure PL where
 S : ShL
 p : Nat
 f : Nat
 cap : Nat
end
section
open Go.RowKit Go.Lib
def ofS (l : List Bs) : ByteArray := if used l ≤ 232 then S (lay l) else ⟨#[]⟩
def ofE (l : List Bs) : Int := if used l ≤ 232 then 0 else 11
abbrev ofR (l : List Bs) : Value := .tuple #[.string (ofS l), .int .i64 (ofE l)]
end
section
/-! the order of strings -/
theorem bl : ∀ (x y : Bs), Op.bytesLess x y = decide (x < y)
 | [], [] => by simp [Op.bytesLess]
 | _ :: _, [] => by simp [Op.bytesLess]
 | [], _ :: _ => by simp [Op.bytesLess]
 | a :: x, b :: y => by
  rw [Op.bytesLess, bl x y]
  simp only [List.cons_lt_cons_iff]
  by_cases h1 : a < b <;> by_cases h2 : a = b <;> by_cases h3 : x < y <;> simp [h1, h2, h3]
theorem ble_iff {a b : Bs} : a ≤ b ↔ ¬ b < a := List.not_lt.symm
structure En where
 key : Bs
 val : Bs
 far : Int
structure Nd where
 leaf : Bool
 l : List En
def encE (x : En) : Bs := UInt8.ofNat x.key.length :: (x.key ++ two (x.far + 1).toNat ++ x.val)
def kindB (b : Bool) : Bs := if b then [1] else [2]
def recs (n : Nd) : List Bs := kindB n.leaf :: n.l.map encE
def enB (x : En) : Nat := x.key.length + x.val.length + 7
def nB (l : List En) : Nat := (l.map enB).sum
@[simp] theorem nB_nil : nB [] = 0 := rfl
@[simp] theorem nB_cons (x : En) (l : List En) : nB (x :: l) = enB x + nB l := by simp [nB]
@[simp] theorem nB_append (a b : List En) : nB (a ++ b) = nB a + nB b := by simp [nB]
/-! the place of a key -/
def cnt (k : Bs) (l : List En) : Nat := l.countP fun x => decide (x.key < k)
/-! halves -/
end
section
abbrev PN := Nat × Nat × Nat
structure Ch where
 key : Bs
 page : Nat
 es : List En
 ps : List PN
def chEs (cs : List Ch) : List En := cs.flatMap Ch.es
def chPs (cs : List Ch) : List PN := cs.flatMap Ch.ps
@[simp] theorem chEs_nil : chEs [] = [] := rfl
@[simp] theorem chEs_cons (c : Ch) (cs : List Ch) : chEs (c :: cs) = c.es ++ chEs cs := rfl
@[simp] theorem chEs_append (a b : List Ch) : chEs (a ++ b) = chEs a ++ chEs b := by simp [chEs]
@[simp] theorem chPs_nil : chPs [] = [] := rfl
@[simp] theorem chPs_cons (c : Ch) (cs : List Ch) : chPs (c :: cs) = c.ps ++ chPs cs := rfl
@[simp] theorem chPs_append (a b : List Ch) : chPs (a ++ b) = chPs a ++ chPs b := by simp [chPs]
/-! a tree with a hole -/
def below (cs : List Ch) (k : Bs) : Nat := (cs.countP fun c => decide (¬ k < c.key)) - 1
end
section
def pgsOf (ps : List PN) : List Nat := ps.map Prod.fst
@[simp] theorem pgsOf_nil : pgsOf [] = [] := rfl
@[simp] theorem pgsOf_cons (x : PN) (ps : List PN) : pgsOf (x :: ps) = x.1 :: pgsOf ps := rfl
@[simp] theorem pgsOf_append (a b : List PN) : pgsOf (a ++ b) = pgsOf a ++ pgsOf b := by simp [pgsOf]
/-! potentials -/
structure Pot where
 A : Nat
 c : Nat → Nat
 R : Nat
 h1 : A + 39 * c 1 ≤ R
 h2 : 2 * A ≤ R
 h3 : ∀ h, 1 ≤ h → A + 39 * c (h + 1) ≤ 72 * c h
 h4 : ∀ h, 1 ≤ h → 2 * A ≤ 72 * c h
def Pot.one (p : Pot) (x : PN) : Nat := p.A + if x.2.1 = 0 then 0 else p.c x.2.1 * (x.2.2 - 152)
def Pot.sum (p : Pot) : List PN → Nat
 | [] => 0
 | x :: ps => p.one x + p.sum ps
@[simp] theorem Pot.sum_nil (p : Pot) : p.sum [] = 0 := rfl
@[simp] theorem Pot.sum_cons (p : Pot) (x : PN) (ps : List PN) : p.sum (x :: ps) = p.one x + p.sum ps := rfl
@[simp] theorem Pot.sum_append (p : Pot) (a b : List PN) : p.sum (a ++ b) = p.sum a + p.sum b := by
 induction a with
 | nil => simp
 | cons x a ih => simp [ih]; omega
theorem Pot.leaf (p : Pot) (q b : Nat) : p.one (q, 0, b) = p.A := by simp [Pot.one]
theorem Pot.inner (p : Pot) (q d b : Nat) : p.one (q, d + 1, b) = p.A + p.c (d + 1) * (b - 152) := by simp [Pot.one]
theorem Pot.mono (p : Pot) (q q' d : Nat) {b b' : Nat} (h : b ≤ b') : p.one (q, d, b) ≤ p.one (q', d, b') := by
 cases d with
 | zero => simp [Pot.one]
 | succ d =>
  rw [p.inner, p.inner]
  have := Nat.mul_le_mul_left (p.c (d + 1)) (show b - 152 ≤ b' - 152 by omega)
  omega
theorem Pot.more (p : Pot) (q d : Nat) {b e : Nat} (h : e ≤ 39) : p.one (q, d + 1, b + e) ≤ p.one (q, d + 1, b) + 39 * p.c (d + 1) := by
 rw [p.inner, p.inner]
 have h1 := Nat.mul_le_mul_left (p.c (d + 1)) (show b + e - 152 ≤ (b - 152) + 39 by omega)
 rw [Nat.mul_add, Nat.mul_comm _ 39] at h1
 omega
/-! halves -/
end
section
open Go.RowKit Go.Lib
theorem infEn : (Tryz.prog.info? 380).map (fun i => (i.zero, i.size, i.bytes)) = some (some (.agg #[.string ⟨#[]⟩, .string ⟨#[]⟩, .int .i64 0]), 3, 40) := by kernel_rfl
end
section
def wpC (P : Program) (ops : Array Oper) (C : World → Prop) (Q : Act → Prop) (rest : List Oper) (a : Act) : Prop := wpQuiet P ops C Q rest a
attribute [irreducible] wpC
end
section
open Go.RowKit Go.Lib
abbrev putR (n : Nd) : Value := ofR (recs n)
end
section
open Go.RowKit Go.Lib
def setL (l : List Value) (o : Nat) (vs : List Value) : List Value := l.take o ++ vs ++ l.drop (o + vs.length)
theorem setL_length {l : List Value} {o : Nat} {vs : List Value} (h : o + vs.length ≤ l.length) : (setL l o vs).length = l.length := by
 simp [setL]; omega
theorem setL_cons (l : List Value) (o : Nat) (v : Value) (r : List Value) (h : o < l.length) : setL (l.set o v) (o + 1) r = setL l o (v :: r) := by
 unfold setL
 have e1 : (l.set o v).take (o + 1) = l.take o ++ [v] := by
  rw [List.take_succ_eq_append_getElem (by simpa using h)]
  simp [List.take_set_of_le]
 have e2 : (l.set o v).drop (o + 1 + r.length) = l.drop (o + (v :: r).length) := by
  rw [List.drop_set_of_lt (by omega)]
  congr 1
  simp; omega
 rw [e1, e2]
 simp
theorem heap_setCellsL (g : Nat) (T : TypeId) (fz : Nat × Nat) : ∀ (vs : List Value) (o : Nat) (w : World) (cur : Array Value), w.heap[g]? = some (.cells cur T fz) → o + vs.length ≤ cur.size →
  (w.setCells g o vs).heap[g]? = some (.cells (setL cur.toList o vs).toArray T fz)
 | [], o, w, cur, h, _ => by
  show w.heap[g]? = _
  rw [h]
  simp [setL]
 | v :: r, o, w, cur, h, hle => by
  have hle2 : o + 1 + r.length ≤ cur.size := by simpa [Nat.add_assoc, Nat.add_comm 1] using hle
  have h1 : (w.setCell ⟨g, o, none⟩ v).heap[g]? = some (.cells (cur.setIfInBounds o v) T fz) := by
   simp [World.setCell, Array.getElem?_modify, h]
  have := heap_setCellsL g T fz r (o + 1) (w.setCell ⟨g, o, none⟩ v) (cur.setIfInBounds o v) h1 (by simpa using hle2)
  show ((w.setCell ⟨g, o, none⟩ v).setCells g (o + 1) r).heap[g]? = _
  rw [this]
  rw [Array.toList_setIfInBounds, setL_cons _ _ _ _ (by simp; omega)]
end
section
open Go.RowKit Go.Lib
theorem wp_copyR {P : Program} (w : World) {o : Oper} {a : Act} {K : Act → World → Prop} {Q : Exit → Act → World → Prop} (d s : Operand) (t t' : TypeId)
  (ho : o.op = .call { callee := .builtin .copy, args := #[d, s], argTypes := #[t, t'] }) (v u : Value) (hd : a.eval d = v) (hs : a.eval s = u) {v' : Value} {w' : World}
  (hr : (Builtin.copy_ #[t, t'] o.type #[v, u]).run P w = .ok v' w') (h : K (a.put o.dst v') w') : o.wp P a w K Q := by
 unfold Oper.wp execOp
 simp only [ho, resolve, invoke, builtin, Sem.run_bind, Sem.run_pure, Result.andThen_ok, List.map_toArray, List.map_cons, List.map_nil, hd, hs, hr]
 exact h
theorem wpL_copyR {P : Program} (w : World) {ops : Array Oper} {rest : List Oper} {o : Oper} {a : Act} {Q : Exit → Act → World → Prop} (hgd : o.guard = none) (d s : Operand) (t t' : TypeId)
  (ho : o.op = .call { callee := .builtin .copy, args := #[d, s], argTypes := #[t, t'] }) (v u : Value) (hd : a.eval d = v) (hs : a.eval s = u) {v' : Value} {w' : World}
  (hr : (Builtin.copy_ #[t, t'] o.type #[v, u]).run P w = .ok v' w') (h : wpList P ops Q rest (a.put o.dst v') w') : wpList P ops Q (o :: rest) a w :=
 wpList_plain hgd fun _ hK => wp_copyR w d s t t' ho v u hd hs hr (hK _ _ h)
theorem step_copyR {P : Program} {ops : Array Oper} {o : Oper} {a : Act} {w : World} {K : Act → World → Prop} {Q : Exit → Act → World → Prop} {E : Prop}
  (hg : o.guard = none) (d x : Operand) (dT sT : TypeId) (hop : o.op = Op.call { callee := Callee.builtin Builtin.copy, args := #[d, x], argTypes := #[dT, sT] })
  (v u : Value) (hd : a.eval d = v) (hx : a.eval x = u) {v' : Value} {w' : World} (hr : (Builtin.copy_ #[dT, sT] o.type #[v, u]).run P w = .ok v' w') (hK : K (a.put o.dst v') w') :
  if Region.wanted o (yielded ops a.tmps) = true then Oper.wp P o a w K Q else E := by
 have hw : Region.wanted o (yielded ops a.tmps) = true := by simp [Region.wanted, hg]
 rw [if_pos hw]
 unfold Oper.wp
 simp [execOp, hop, resolve, invoke, builtin, hd, hx, hr, Result.andThen]
 exact hK
theorem run_copy3 (w : World) (ty : TypeId) (b o dLen dCap : Nat) (a : Addr) (sLen sCap : Nat) (cs : List Value) (m : Nat) (hm : m = Nat.min sLen dLen) (hn : cs.length = m * 3)
  (hsrc : ∀ j v, cs[j]? = some v → w.cell? (a.add j) = some v) (hc : ∀ j, j < cs.length → (w.cell? ⟨b, o + j, none⟩).isSome = true) (hf : ∀ j, j < cs.length → w.frozen? ⟨b, o + j, none⟩ = false) (h1 : ∀ v ∈ cs, v.oneCell' = true) :
  (Builtin.copy_ #[372, 372] ty #[.slice (some ⟨b, o, none⟩) dLen dCap, .slice (some a) sLen sCap]).run Tryz.prog w = .ok (goInt m) (w.setCells b o cs) := by
 obtain ⟨i0, hi0, hz0, hz1, hz2⟩ := info_parts infEn
 have hl := run_firstCells_some (P := Tryz.prog) w 3 m a sLen sCap cs hn hsrc
 have hst := run_storeCells_cells (P := Tryz.prog) b o cs 0 w (by simpa using hc) (by simpa using hf) h1
 simp only [Nat.add_zero] at hst
 simp [Builtin.copy_, run_underlying Tryz.underlying372, Builtin.lenOf, sizeOf, typeInfo, hi0, hz1, ← hm, hl, hst]
end
section
open Go.RowKit Go.Lib
theorem two_lay {cur A X R : List Value} {i n c : Nat} (hc : cur.length = c * 3) (hA : cur.take (i * 3) = A) (hX : X.length = 3) (hR : R.length = (n - i) * 3) (hi : i ≤ n) (hn : n + 1 ≤ c) :
  (setL (setL cur (i * 3) X) ((i + 1) * 3) R).take ((n + 1) * 3) = A ++ X ++ R := by
 have hAl : A.length = i * 3 := by rw [← hA, List.length_take]; omega
 have e1 : setL cur (i * 3) X = A ++ X ++ cur.drop (i * 3 + X.length) := by unfold setL; rw [hA]
 have hAX : (A ++ X).length = (i + 1) * 3 := by rw [List.length_append]; omega
 have e2 : (A ++ X ++ cur.drop (i * 3 + X.length)).take ((i + 1) * 3) = A ++ X := by rw [← hAX, List.take_left]
 rw [e1]
 unfold setL
 rw [e2]
 rw [List.take_append_of_le_length (by simp only [List.length_append] at hAX ⊢; omega), List.take_of_length_le (by simp only [List.length_append] at hAX ⊢; omega)]
theorem two_lay' {cur A X R : List Value} {i n c : Nat} (hc : cur.length = c * 3) (hA : cur.take (i * 3) = A) (hX : X.length = 3) (hR : R.length = (n - i) * 3) (hi : i ≤ n) (hn : n + 1 ≤ c) :
  (setL (setL cur ((i + 1) * 3) R) (i * 3) X).take ((n + 1) * 3) = A ++ X ++ R := by
 have hAl : A.length = i * 3 := by rw [← hA, List.length_take]; omega
 unfold setL
 have e1 : (cur.take ((i + 1) * 3) ++ R ++ cur.drop ((i + 1) * 3 + R.length)).take (i * 3) = A := by
  rw [List.append_assoc, List.take_append_of_le_length (by rw [List.length_take]; omega), List.take_take, Nat.min_eq_left (by omega), hA]
 have e2 : (cur.take ((i + 1) * 3) ++ R ++ cur.drop ((i + 1) * 3 + R.length)).drop (i * 3 + X.length) = R ++ cur.drop ((i + 1) * 3 + R.length) := by
  have : i * 3 + X.length = (cur.take ((i + 1) * 3)).length := by rw [List.length_take]; omega
  rw [List.append_assoc, this, List.drop_left]
 rw [e1, e2, ← List.append_assoc]
 rw [List.take_append_of_le_length (by simp only [List.length_append]; omega), List.take_of_length_le (by simp only [List.length_append]; omega)]
end
section
open Go.RowKit Go.Lib
theorem kp_isSome {w : World} {g o : Nat} {vs : List Value} (h : ∀ j, j < vs.length → (w.cell? ⟨g, o + j, none⟩).isSome = true) (k : Nat) (hk : (w.cell? ⟨g, k, none⟩).isSome = true) : ((w.setCells g o vs).cell? ⟨g, k, none⟩).isSome = true := by
 by_cases hin : o ≤ k ∧ k < o + vs.length
 ·have := World.cell?_setCells_in g vs o w h (k - o) (by omega)
  rw [show o + (k - o) = k by omega] at this
  rw [this]
  have : k - o < vs.length := by omega
  simp [this]
 ·rw [World.cell?_setCells_out g vs o w ⟨g, k, none⟩ (fun _ _ => by show k < o ∨ o + vs.length ≤ k; omega)]
  exact hk
theorem zc_size (n : Nat) : (Builtin.zeroCells (Value.agg #[.string ⟨#[]⟩, .string ⟨#[]⟩, .int .i64 0]).cells n).size = n * 3 := by
 simp [Builtin.zeroCells, Value.cells]
end
end Go.Proofs.YtfkoaooceickiaaGreat
