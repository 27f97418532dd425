/- Parts of the proof: Ba Bb Bd Pa Pb Gq Rw. -/
import Derived.Laws.IdiomStrings
import Derived.Laws.Strings
import Derived.Laws.Strings2
import Derived.Laws.Strings3
import Derived.Laws.Concat
import Derived.RowKit
import Derived.WalkKit
import Derived.Deep.Draws
import Derived.Test.YtnnghcooidjlhaaGreatProg
import Derived.WalkSpells
import Derived.WalkLawsBesides
import Derived.Maps.AppendAt
import Derived.Laws.BytesArg
import Derived.Deep.Quiet
import Derived.Deep.QuietTactic
import Derived.Tactics2
import Derived.KernelRfl
import Derived.Laws.Cells
import Derived.Lib.SliceRun
import Derived.Deep.MidRow
import Derived.Deep.OwnRows
set_option linter.all false
set_option maxRecDepth 100000
namespace Go.Proofs.YtnnghcooidjlhaaGreat
section
abbrev Bs := List UInt8
def S (l : Bs) : ByteArray := ⟨l.toArray⟩
@[go_sem] theorem S_size (l : Bs) : (S l).size = l.length := by simp [S, ByteArray.size]
@[go_sem] theorem S_append (a b : Bs) : S a ++ S b = S (a ++ b) := Go.ByteArray.mk_append_mk ..
@[go_sem] theorem S_extract (l : Bs) (i j : Nat) : (S l).extract i j = S ((l.drop i).take (j - i)) := Go.ByteArray.extract_mk ..
@[go_sem] theorem S_toList (l : Bs) : (S l).toList = l := Go.ByteArray.toList_mk l
section
variable {P : Program} (w : World)
@[go_sem high] theorem run_index_S (t : TypeId) (l : Bs) (k : IntKind) (i : Int) (h : P.underlying t = some .string) (h0 : 0 ≤ i) (h1 : i < l.length) :
  (Instr.index t (.string (S l)) (.int k i)).run P w = .ok (.int .u8 ((l.getD i.toNat 0).toNat : Int)) w := by
 rw [run_index_string w t (S l) k i h, dif_pos ⟨h0, by rw [S_size]; exact h1⟩]
 have h2 : i.toNat < l.length := by omega
 have e : (S l)[i.toNat]'(by rw [S_size]; exact h2) = l[i.toNat] := by
  show l.toArray[i.toNat] = _
  simp
 rw [e]
 simp [List.getD, h2]
end
def two (n : Nat) : Bs := [UInt8.ofNat (n / 256), UInt8.ofNat n]
@[simp] theorem two_length (n : Nat) : (two n).length = 2 := rfl
def un2 (a b : UInt8) : Nat := a.toNat * 256 + b.toNat
theorem un2_two {n : Nat} (h : n < 65536) : un2 (UInt8.ofNat (n / 256)) (UInt8.ofNat n) = n := by
 simp [un2]; omega
def setAt (l : Bs) (at_ : Nat) (b : Bs) : Bs := l.take at_ ++ b ++ l.drop (at_ + b.length)
theorem setAt_length {l : Bs} {i : Nat} {b : Bs} (h : i + b.length ≤ l.length) : (setAt l i b).length = l.length := by
 simp [setAt]; omega
theorem setAt_drop {l : Bs} {i k : Nat} {b : Bs} (hk : k ≤ i) (h : i ≤ l.length) : (setAt l i b).drop k = (l.take i).drop k ++ b ++ l.drop (i + b.length) := by
 unfold setAt
 rw [List.append_assoc, List.drop_append_of_le_length (by simp; omega), List.append_assoc]
def rlen (rs : List Bs) : Nat := (rs.map List.length).sum
@[simp] theorem rlen_nil : rlen [] = 0 := rfl
@[simp] theorem rlen_cons (r : Bs) (rs : List Bs) : rlen (r :: rs) = r.length + rlen rs := by simp [rlen]
@[simp] theorem rlen_append (a b : List Bs) : rlen (a ++ b) = rlen a + rlen b := by simp [rlen]
def slotsOf : Nat → List Bs → List (Nat × Nat)
 | _, [] => []
 | top, r :: rs => (top - r.length, r.length) :: slotsOf (top - r.length) rs
@[simp] theorem slotsOf_length (rs : List Bs) : ∀ top, (slotsOf top rs).length = rs.length := by
 induction rs with
 | nil => intro; rfl
 | cons r rs ih => intro top; simp [slotsOf, ih]
theorem slotsOf_snoc (rs : List Bs) (r : Bs) : ∀ top, slotsOf top (rs ++ [r]) = slotsOf top rs ++ [(top - rlen rs - r.length, r.length)] := by
 induction rs with
 | nil => intro; simp [slotsOf]
 | cons x rs ih => intro top; simp [slotsOf, ih, Nat.sub_sub]
def flatS (l : List (Nat × Nat)) : Bs := l.flatMap fun x => two x.1 ++ two x.2
@[simp] theorem flatS_nil : flatS [] = [] := rfl
@[simp] theorem flatS_cons (x : Nat × Nat) (l : List (Nat × Nat)) : flatS (x :: l) = two x.1 ++ two x.2 ++ flatS l := rfl
@[simp] theorem flatS_length (l : List (Nat × Nat)) : (flatS l).length = 4 * l.length := by
 induction l with
 | nil => rfl
 | cons x l ih => simp [ih]; omega
def heapB : List Bs → Bs
 | [] => []
 | r :: rs => heapB rs ++ r
@[simp] theorem heapB_length (rs : List Bs) : (heapB rs).length = rlen rs := by
 induction rs with
 | nil => rfl
 | cons r rs ih => simp [heapB, ih]; omega
theorem heapB_snoc (rs : List Bs) (r : Bs) : heapB (rs ++ [r]) = r ++ heapB rs := by
 induction rs with
 | nil => simp [heapB]
 | cons x rs ih => simp [heapB, ih]
def used (rs : List Bs) : Nat := 4 + 4 * rs.length + rlen rs
def lay (rs : List Bs) : Bs := two rs.length ++ two (232 - rlen rs) ++ flatS (slotsOf 232 rs) ++ List.replicate (232 - used rs) 0 ++ heapB rs
theorem lay_length {rs : List Bs} (h : used rs ≤ 232) : (lay rs).length = 232 := by
 unfold used at h; simp [lay, used]; omega
def withB (b : Bs) (l : List (Nat × Nat)) (heap : Nat) : Bs := two l.length ++ two heap ++ flatS l ++ b.drop (4 + 4 * l.length)
theorem lay_insert {rs : List Bs} {r : Bs} (h : used (rs ++ [r]) ≤ 232) :
  withB (setAt (lay rs) (232 - rlen rs - r.length) r) (slotsOf 232 (rs ++ [r])) (232 - rlen rs - r.length) = lay (rs ++ [r]) := by
 have hu : 4 + 4 * (rs.length + 1) + (rlen rs + r.length) ≤ 232 := by simpa [used] using h
 have hl : (lay rs).length = 232 := lay_length (by unfold used; omega)
 have h1 : (lay rs).take (232 - rlen rs - r.length) = two rs.length ++ two (232 - rlen rs) ++ flatS (slotsOf 232 rs) ++ List.replicate (232 - used rs - r.length) 0 := by
  unfold lay
  rw [List.take_append_of_le_length (by simp [used]; omega)]
  rw [List.take_append]
  rw [List.take_of_length_le (by simp; omega)]
  congr 1
  simp [used]; omega
 have h2 : (lay rs).drop (232 - rlen rs) = heapB rs := by
  unfold lay
  rw [List.drop_append_of_le_length (by simp [used]; omega), List.drop_of_length_le (by simp [used]; omega)]
  rfl
 unfold withB
 rw [setAt_drop (by simp; omega) (by omega), h1]
 have e2 : 232 - rlen rs - r.length + r.length = 232 - rlen rs := by omega
 rw [e2, h2]
 have e3 : List.drop (4 + 4 * (slotsOf 232 (rs ++ [r])).length) (two rs.length ++ two (232 - rlen rs) ++ flatS (slotsOf 232 rs) ++ List.replicate (232 - used rs - r.length) 0) = List.replicate (232 - used (rs ++ [r])) 0 := by
  rw [List.drop_append, List.drop_of_length_le (by simp; omega)]
  simp [used]; omega
 rw [e3]
 unfold lay
 rw [heapB_snoc]
 simp [Nat.sub_sub]
theorem slotsOf_get (rs : List Bs) : ∀ (top i : Nat) (hi : i < rs.length), (slotsOf top rs)[i]? = some (top - rlen (rs.take (i + 1)), (rs[i]).length) := by
 induction rs with
 | nil => intro top i hi; simp at hi
 | cons r rs ih =>
  intro top i hi
  cases i with
  | zero => simp [slotsOf]
  | succ i => simp [slotsOf]; rw [ih _ i (by simpa using hi)]; simp [Nat.sub_sub]
theorem heapB_take (rs : List Bs) : ∀ i, (hi : i < rs.length) → ∃ a z, heapB rs = a ++ rs[i] ++ z ∧ z.length = rlen (rs.take i) := by
 induction rs with
 | nil => intro i hi; simp at hi
 | cons r rs ih =>
  intro i hi
  cases i with
  | zero => exact ⟨heapB rs, [], by simp [heapB], rfl⟩
  | succ i =>
   obtain ⟨a, z, h1, h2⟩ := ih i (by simpa using hi)
   exact ⟨a, z ++ r, by simp [heapB, h1], by simp [h2]; omega⟩
theorem rlen_take_le (rs : List Bs) (i : Nat) : rlen (rs.take i) ≤ rlen rs := by
 have := rlen_append (rs.take i) (rs.drop i); simp at this; omega
theorem rlen_take_succ (rs : List Bs) (i : Nat) (hi : i < rs.length) : rlen (rs.take (i + 1)) = rlen (rs.take i) + (rs[i]).length := by
 rw [List.take_succ_eq_append_getElem hi, rlen_append]; simp
theorem lay_record {rs : List Bs} (h : used rs ≤ 232) {i : Nat} (hi : i < rs.length) : ((lay rs).drop (232 - rlen (rs.take (i + 1)))).take (rs[i]).length = rs[i] := by
 obtain ⟨a, z, h1, h2⟩ := heapB_take rs i hi
 have hl := rlen_take_le rs (i + 1)
 have hs := rlen_take_succ rs i hi
 have ha : a.length = rlen rs - rlen (rs.take (i + 1)) := by
  have := congrArg List.length h1; simp at this; omega
 unfold used at h
 have e : lay rs = (two rs.length ++ two (232 - rlen rs) ++ flatS (slotsOf 232 rs) ++ List.replicate (232 - used rs) 0 ++ a) ++ (rs[i] ++ z) := by unfold lay; rw [h1]; simp
 rw [e, List.drop_append]
 rw [List.drop_of_length_le (by simp [used]; omega)]
 have : 232 - rlen (rs.take (i + 1)) - (two rs.length ++ two (232 - rlen rs) ++ flatS (slotsOf 232 rs) ++ List.replicate (232 - used rs) 0 ++ a).length = 0 := by simp [used]; omega
 rw [this]
 simp
end
section
def be : Nat → Nat → Bs
 | 0, _ => []
 | k + 1, n => UInt8.ofNat (n / 256 ^ k) :: be k n
@[simp] theorem be_length (k n : Nat) : (be k n).length = k := by
 induction k with
 | zero => rfl
 | succ k ih => simp [be, ih]
def unbe (l : Bs) : Nat := l.foldl (fun a b => a * 256 + b.toNat) 0
theorem unbe_go (l : Bs) : ∀ a, l.foldl (fun a b => a * 256 + b.toNat) a = a * 256 ^ l.length + unbe l := by
 induction l with
 | nil => intro a; simp [unbe]
 | cons b l ih =>
  intro a
  simp only [List.foldl_cons, unbe]
  rw [ih, ih (0 * 256 + b.toNat)]
  simp [Nat.pow_succ, Nat.add_mul, Nat.mul_assoc, Nat.mul_comm 256]
  omega
theorem unbe_cons (b : UInt8) (l : Bs) : unbe (b :: l) = b.toNat * 256 ^ l.length + unbe l := by
 have := unbe_go l b.toNat
 simp [unbe] at this ⊢
 exact this
theorem unbe_snoc (l : Bs) (b : UInt8) : unbe (l ++ [b]) = unbe l * 256 + b.toNat := by simp [unbe]
theorem unbe_be (k n : Nat) : unbe (be k n) = n % 256 ^ k := by
 induction k with
 | zero => simp [be, unbe, Nat.mod_one]
 | succ k ih =>
  simp only [be, unbe_cons, be_length, ih]
  have h1 : (UInt8.ofNat (n / 256 ^ k)).toNat = n / 256 ^ k % 256 := by simp
  rw [h1, Nat.pow_succ, Nat.mod_mul]
  rw [Nat.mul_comm, Nat.add_comm]
theorem unbe_lt (l : Bs) : unbe l < 256 ^ l.length := by
 induction l with
 | nil => simp [unbe]
 | cons b l ih =>
  rw [unbe_cons]
  have := b.toNat_lt
  simp only [List.length_cons, Nat.pow_succ]
  have : b.toNat * 256 ^ l.length ≤ 255 * 256 ^ l.length := Nat.mul_le_mul_right _ (by omega)
  omega
theorem be_take_succ (k n j : Nat) (h : j < k) : (be k n).take (j + 1) = (be k n).take j ++ [UInt8.ofNat (n / 256 ^ (k - 1 - j))] := by
 induction k generalizing j with
 | zero => omega
 | succ k ih =>
  cases j with
  | zero => simp [be]
  | succ j =>
   simp only [be, List.take_succ_cons, List.cons_append]
   rw [ih j (by omega)]
   have : k + 1 - 1 - (j + 1) = k - 1 - j := by omega
   rw [this]
def encI (x : Int) : Bs := be 8 (x + 9223372036854775808).toNat
@[simp] theorem encI_length (x : Int) : (encI x).length = 8 := by simp [encI]
theorem unbe_encI {x : Int} (h0 : -9223372036854775808 ≤ x) (h1 : x < 9223372036854775808) : (unbe (encI x) : Int) = x + 9223372036854775808 := by
 unfold encI; rw [unbe_be]; omega
end
section
open Go.RowKit
theorem hid {p : Prop} (h : p) : Hid p := h
theorem below_drewN {B : Nat} {a w : World} (h : Below B a w) (n : Nat) : Below B a (w.drewN n) := ⟨h.os, h.tape, h.output, h.size, h.block⟩
theorem stopAt {P : Program} {ops : Array Oper} {Q : Exit → Act → World → Prop} {rest : List Oper} {o : Oper} {a : Act} {w : World} (b : Builtin) {args : Array Operand} {ts : Array TypeId}
  (_ : o.op = .call { callee := .builtin b, args := args, argTypes := ts }) (h : Hid (wpList P ops Q (o :: rest) a w)) : wpList P ops Q (o :: rest) a w := h
theorem stopStore {P : Program} {ops : Array Oper} {Q : Exit → Act → World → Prop} {rest : List Oper} {o : Oper} {a : Act} {w : World} (ty : TypeId) {x y : Operand}
  (_ : o.op = .store ty x y) (h : Hid (wpList P ops Q (o :: rest) a w)) : wpList P ops Q (o :: rest) a w := h
theorem stopLoad {P : Program} {ops : Array Oper} {Q : Exit → Act → World → Prop} {rest : List Oper} {o : Oper} {a : Act} {w : World} (ty : TypeId) {x : Operand}
  (_ : o.op = .load ty x) (h : Hid (wpList P ops Q (o :: rest) a w)) : wpList P ops Q (o :: rest) a w := h
theorem goOn {p : Prop} (h : p) : Hid p := h
structure Kp (O : List Nat) (w w' : World) : Prop where
 os : w'.os = w.os
 tape : w'.tape = w.tape
 output : w'.output = w.output
 size : w.heap.size ≤ w'.heap.size
 block : ∀ b, b < w.heap.size → b ∉ O → w'.heap[b]? = w.heap[b]?
def Gr (O : List Nat) (n : Nat) (O' : List Nat) : Prop := ∀ x ∈ O', x ∈ O ∨ n ≤ x
theorem Gr.refl (O : List Nat) (n : Nat) : Gr O n O := fun _ h => .inl h
theorem Gr.trans {O O1 O2 : List Nat} {n m : Nat} (h : Gr O n O1) (h2 : Gr O1 m O2) (hm : n ≤ m) : Gr O n O2 := fun x hx => by
 rcases h2 x hx with h' | h'
 ·exact h x h'
 ·exact .inr (by omega)
theorem Gr.mono {O O' : List Nat} {n m : Nat} (h : Gr O n O') (hm : m ≤ n) : Gr O m O' := fun x hx => (h x hx).imp id (by omega)
theorem Gr.out {O O' : List Nat} {n b : Nat} (h : Gr O n O') (hb : b < n) (ho : b ∉ O) : b ∉ O' := fun hx => by
 rcases h b hx with h' | h'
 ·exact ho h'
 ·omega
namespace Kp
variable {O O' : List Nat} {w w' w'' a : World}
theorem refl (O : List Nat) (w : World) : Kp O w w := ⟨rfl, rfl, rfl, Nat.le_refl _, fun _ _ _ => rfl⟩
theorem trans (h : Kp O w w') (k : Kp O w' w'') : Kp O w w'' :=
 ⟨k.os.trans h.os, k.tape.trans h.tape, k.output.trans h.output, Nat.le_trans h.size k.size, fun b hb ho => (k.block b (Nat.lt_of_lt_of_le hb h.size) ho).trans (h.block b hb ho)⟩
theorem trans_gr (h : Kp O w w') (hg : Gr O w.heap.size O') (k : Kp O' w' w'') : Kp O w w'' :=
 ⟨k.os.trans h.os, k.tape.trans h.tape, k.output.trans h.output, Nat.le_trans h.size k.size, fun b hb ho => (k.block b (Nat.lt_of_lt_of_le hb h.size) (hg.out hb ho)).trans (h.block b hb ho)⟩
theorem mono (h : Kp O w w') (hs : ∀ x ∈ O, x ∈ O' ∨ w.heap.size ≤ x) : Kp O' w w' :=
 ⟨h.os, h.tape, h.output, h.size, fun b hb ho => h.block b hb fun hx => (hs b hx).elim ho (by omega)⟩
theorem of_below (h : Below w.heap.size w w') : Kp O w w' := ⟨h.os, h.tape, h.output, h.size, fun b hb _ => h.block b hb⟩
theorem to_below (h : Kp O w w') {B : Nat} (hB : B ≤ w.heap.size) (ho : ∀ x ∈ O, B ≤ x) : Below B w w' :=
 ⟨h.os, h.tape, h.output, h.size, fun b hb => h.block b (by omega) fun hx => by have := ho b hx; omega⟩
theorem nil_below (h : Kp [] w w') : Below w.heap.size w w' := h.to_below (Nat.le_refl _) (by simp)
theorem drewN (h : Kp O a w) (n : Nat) : Kp O a (w.drewN n) := ⟨h.os, h.tape, h.output, h.size, h.block⟩
theorem drew (h : Kp O a w) : Kp O a w.drew := ⟨h.os, h.tape, h.output, h.size, h.block⟩
theorem alloc (h : Kp O a w) (o : Obj) : Kp O a (w.alloc o) :=
 ⟨h.os, h.tape, h.output, Nat.le_trans h.size (by simp), fun b hb ho => (Below.heap_alloc w o b (Nat.lt_of_lt_of_le hb h.size)).trans (h.block b hb ho)⟩
theorem setCell (h : Kp O a w) {p : Addr} (hp : p.block ∈ O ∨ a.heap.size ≤ p.block) (u : Value) : Kp O a (w.setCell p u) :=
 ⟨h.os, h.tape, h.output, by simpa [World.setCell] using h.size, fun b hb ho => (Below.heap_setCell w p u b (by
  rintro rfl
  rcases hp with hp | hp
  ·exact ho hp
  ·omega)).trans (h.block b hb ho)⟩
theorem grown (h : Kp O a w) {row : Option Nat} (hg : w.grownBy w' row) (hr : ∀ g, row = some g → g ∈ O ∨ a.heap.size ≤ g) : Kp O a w' :=
 ⟨hg.os.trans h.os, hg.tape.trans h.tape, hg.output.trans h.output, Nat.le_trans h.size hg.size, fun b hb ho => (hg.block b (Nat.lt_of_lt_of_le hb h.size) (fun e => by
  rcases hr b e.symm with h' | h'
  ·exact ho h'
  ·omega)).trans (h.block b hb ho)⟩
theorem cell (h : Kp O w w') {p : Addr} (hp : p.block < w.heap.size) (ho : p.block ∉ O) : w'.cell? p = w.cell? p := World.cell?_of_block (h.block _ hp ho)
theorem frozen (h : Kp O w w') {p : Addr} (hp : p.block < w.heap.size) (ho : p.block ∉ O) : w'.frozen? p = w.frozen? p := World.frozen?_of_block (h.block _ hp ho)
end Kp
def Blk (w : World) (g : Nat) (t : TypeId) (cs : Array Value) : Prop := w.heap[g]? = some (.cells cs t (0, 0))
section
variable {w w' : World} {g : Nat} {t : TypeId} {cs : Array Value}
theorem Blk.lt (h : Blk w g t cs) : g < w.heap.size := lt_of_block h
theorem Blk.cell (h : Blk w g t cs) (i : Nat) : w.cell? ⟨g, i, none⟩ = cs[i]? := cell_of_row w g i cs t (0, 0) h
theorem Blk.frozen (h : Blk w g t cs) (i : Nat) : w.frozen? ⟨g, i, none⟩ = false := by
 unfold Blk at h
 simp [World.frozen?, h]
theorem Blk.new (w : World) (t : TypeId) (cs : Array Value) : Blk (w.alloc (.cells cs t)) w.heap.size t cs := heap_alloc_new w _
theorem Blk.drew (h : Blk w g t cs) : Blk w.drew g t cs := h
theorem Blk.drewN (h : Blk w g t cs) (n : Nat) : Blk (w.drewN n) g t cs := h
theorem Blk.alloc (h : Blk w g t cs) (o : Obj) : Blk (w.alloc o) g t cs := (Below.heap_alloc w o g h.lt).trans h
theorem Blk.set_ (h : Blk w g t cs) (i : Nat) (u : Value) : Blk (w.setCell ⟨g, i, none⟩ u) g t (cs.setIfInBounds i u) := by
 unfold Blk at h ⊢
 simp [World.setCell, Array.getElem?_modify, h]
theorem Blk.far (h : Blk w g t cs) {p : Addr} (hp : g ≠ p.block) (u : Value) : Blk (w.setCell p u) g t cs := (Below.heap_setCell w p u g hp).trans h
theorem Blk.below {B : Nat} (h : Blk w g t cs) (hb : Below B w w') (hg : g < B) : Blk w' g t cs := (hb.block g hg).trans h
theorem Blk.grown {row : Option Nat} (h : Blk w g t cs) (hb : w.grownBy w' row) (hg : some g ≠ row) : Blk w' g t cs := (hb.block g h.lt hg).trans h
theorem Blk.kp {O : List Nat} (h : Blk w g t cs) (hk : Kp O w w') (ho : g ∉ O) : Blk w' g t cs := (hk.block g h.lt ho).trans h
theorem Blk.ne_ {g' : Nat} {t' : TypeId} {cs' : Array Value} (h : Blk w g t cs) (h' : Blk w g' t' cs') (hne : t ≠ t') : g ≠ g' := by
 rintro rfl
 unfold Blk at h h'
 rw [h] at h'
 injection h' with h'
 injection h' with _ ht
 exact hne ht
end
end
section
open Go.RowKit
theorem inf5 : (Tryz.prog.info? 5).map (fun i => (i.zero, i.size, i.bytes)) = some (some (.int .u8 0), 1, 1) := by kernel_rfl
def cB (l : Bs) : List Value := l.map fun b => Value.int .u8 (b.toNat : Int)
@[simp] theorem cB_length (l : Bs) : (cB l).length = l.length := by simp [cB]
@[simp] theorem cB_append (a b : Bs) : cB (a ++ b) = cB a ++ cB b := by simp [cB]
theorem news1 (w : World) (v : Value) (t : TypeId) {g : Nat} (hg : g = w.heap.size) : ∀ j u, [v][j]? = some u → (w.alloc (.cells #[v] t)).cell? ((⟨g, 0, none⟩ : Addr).add j) = some u := by
 subst hg; exact cell_one_new w v t
theorem one1 {v : Value} (h : v.oneCell' = true) : ∀ u ∈ [v], u.oneCell' = true := by
 intro u hu
 simp at hu
 rw [hu]; exact h
theorem one_cB (l : Bs) : ∀ u ∈ cB l, u.oneCell' = true := by
 intro u hu
 simp [cB] at hu
 obtain ⟨b, _, rfl⟩ := hu
 rfl
theorem own_eq {w : World} {B : Nat} {T : TypeId} {s n n' : Nat} {v : Value} {xs xs' : List Value} (h : w.ownsRow B T s v n xs) (hn : n = n') (hx : xs = xs') : w.ownsRow B T s v n' xs' := by rw [← hn, ← hx]; exact h
theorem byte_of (n i : Nat) : Value.int .u8 ((n : Int) / 2 ^ (8 * i) % 256) = .int .u8 ((UInt8.ofNat (n / 256 ^ i)).toNat : Int) := by
 have e : (256 : Nat) ^ i = 2 ^ (8 * i) := by rw [Nat.pow_mul]
 rw [e]
 simp
set_option maxHeartbeats 400000 in
theorem put_any (B : Nat) (v : Value) (b : Bs) (n k : Nat) (w : World) (hn : n < 18446744073709551616) (hk : k ≤ 8) (hb : b.length ≤ 1000000) (hB : B ≤ w.heap.size)
  (hown : w.ownsRow B 5 1 v b.length (cB b)) :
  Calls Tryz.prog 156 #[v, .int .u64 n, .int .i64 k] w fun e w' => ∃ v', e = .returned v' ∧ w'.ownsRow B 5 1 v' (b ++ be k n).length (cB (b ++ be k n)) ∧ Kp (v.ownBlock.toList) w w' ∧ ∀ g, v'.ownBlock = some g → v.ownBlock = some g ∨ w.heap.size ≤ g := by
 obtain ⟨i0, hi, hz0, hz1, hz2⟩ := info_parts inf5
 have HN := hid hn
 clear hn
 go_enter Tryz.func156, Tryz.ntmps156
 go_wp2
 go_loopw [0, 7] (fun u i wr => ∃ j : Nat, j ≤ k ∧ i = .int .i64 ((k : Int) - 1 - j) ∧ wr.ownsRow B 5 1 u (b ++ (be k n).take j).length (cB (b ++ (be k n).take j)) ∧ Kp (v.ownBlock.toList) w wr ∧ ∀ g, u.ownBlock = some g → v.ownBlock = some g ∨ w.heap.size ≤ g) (fun _ i _ => (intOf i + 1).toNat)
 case atStart => exact ⟨0, Nat.zero_le _, by simp, by simpa using hown, Kp.refl _ _, fun g hg => .inl hg⟩
 case round =>
  obtain ⟨j, hj, rfl, hown1, hb1, hg1⟩ := hrel
  have HG := hid hg1
  clear hg1
  have hs := hb1.size
  have hl : ((be k n).take j).length = j := by simp; omega
  by_cases hlt : j < k
  ·have hbyte := hid (byte_of n (k - 1 - j))
   go_wp2_with (at_builtin; refine wpList_append_own_at _ rfl _ _ 129 rfl B 5 i0 (.int .u8 0) 1 1 Tryz.underlying129 hi hz0 hz1 hz2 rfl (by decide) _ _ _ rfl (hown1.alloc _) ⟨wr.heap.size, 0, none⟩ 1 1 [.int .u8 ((n : Int) / 2 ^ (8 * (k - 1 - j)) % 256)] rfl rfl ?c1 ?c2 ?c3 ?c4 ?c5 ?_)
   case c1 => exact news1 _ _ _ rfl
   case c2 => exact one1 rfl
   case c3 => simp [hl]; unfold maxLen; omega
   case c4 => simp [hl]; omega
   case c5 => simp; omega
   intro v' w1 hown' hgr _ hat
   go_wp2
   go_roundw
   case rel =>
    refine ⟨j + 1, by omega, by go_num, ?_, ?_, ?_⟩
    ·rw [hbyte.out] at hown'
     rw [be_take_succ k n j hlt, ← List.append_assoc]
     exact own_eq hown' (by simp; omega) (by simp [cB])
    ·exact (hb1.alloc _).grown hgr (fun g hg => by simpa using HG.out g hg)
    ·intro g hg
     rcases hat with h | h
     ·exact HG.out g (h ▸ hg)
     ·rw [h] at hg; simp at hg; right; omega
   case measure => simp [intOf]; omega
  ·have hke : j = k := by omega
   subst hke
   have ht : (be j n).take j = be j n := List.take_of_length_le (by simp)
   rw [ht] at hown1
   go_wp2
   go_ret
   exact ⟨_, rfl, hown1, hb1, HG.out⟩
end
section
open Go.RowKit
theorem own_string {w : World} {B : Nat} {v : Value} {b : Bs} (h : w.ownsRow B 5 1 v b.length (cB b)) :
  (convert 129 9 v).run Tryz.prog w = .ok (.string (S b)) w := by
 rcases h.2 with ⟨rfl, h0⟩ | ⟨g, cap, cur, rfl, hg, hh, hn, _, hs, ht⟩
 ·have : b = [] := List.length_eq_zero_iff.1 h0
  subst this
  exact run_convert_bytes_nil w 129 5 Tryz.underlying129 Tryz.underlying5 0 0 9 Tryz.underlying9
 ·refine run_convert_bytes_back w 129 9 5 ⟨g, 0, none⟩ cap b Tryz.underlying129 Tryz.underlying5 Tryz.underlying9 fun j hj => ?_
  refine h.cells (g := g) rfl j _ ?_
  simp [cB, hj]
theorem put_nil (n k : Nat) (w : World) (hn : n < 18446744073709551616) (hk : k ≤ 8) :
  Calls Tryz.prog 156 #[.slice none 0 0, .int .u64 n, .int .i64 k] w fun e w' => ∃ v', e = .returned v' ∧ (convert 129 9 v').run Tryz.prog w' = .ok (.string (S (be k n))) w' ∧ Below w.heap.size w w' :=
 (put_any w.heap.size (.slice none 0 0) [] n k w hn hk (by simp) (Nat.le_refl _) (World.ownsRow_nil _ _ _ _)).mono fun e w' ⟨v', h1, h2, h3, _⟩ =>
  ⟨v', h1, by have := own_string h2; simpa using this, h3.nil_below⟩
theorem wrap_u64_i (x : Int) : IntKind.u64.wrap (IntKind.u64.wrap x + 9223372036854775808) = (((x + 9223372036854775808) % 18446744073709551616).toNat : Int) := by
 rw [IntKind.wrap_u64, IntKind.wrap_u64]; omega
theorem packU_any (n : Nat) (w : World) (hn : n < 18446744073709551616) :
  Calls Tryz.prog 220 #[.int .u64 n] w fun e w' => e = .returned (.string (S (be 8 n))) ∧ Below w.heap.size w w' := by
 have HN := hid hn
 clear hn
 go_enter Tryz.func220, Tryz.ntmps220
 go_wp2_with (go_at_call 156; refine (put_nil n 8 _ HN.out (by omega)).mono ?_; rintro e w1 ⟨v', rfl, hv, hb⟩)
 go_ret
 exact ⟨rfl, by assumption⟩
theorem packI_any (x : Int) (w : World) (h0 : -9223372036854775808 ≤ x) (h1 : x < 9223372036854775808) :
  Calls Tryz.prog 109 #[.int .i64 x] w fun e w' => e = .returned (.string (S (encI x))) ∧ Below w.heap.size w w' := by
 obtain ⟨n, hn⟩ : ∃ n : Nat, n = (x + 9223372036854775808).toNat := ⟨_, rfl⟩
 have hx : IntKind.u64.wrap (IntKind.u64.wrap x + 9223372036854775808) = (n : Int) := by rw [wrap_u64_i]; omega
 have HN : Hid (n < 18446744073709551616) := hid (by omega)
 have HE : Hid (encI x = be 8 n) := hid (by rw [hn]; rfl)
 clear hn h0 h1
 go_enter Tryz.func109, Tryz.ntmps109
 go_wp2_with (go_at_call 156; refine (put_nil n 8 _ HN.out (by omega)).mono ?_; rintro e w1 ⟨v', rfl, hv, hb⟩)
 go_ret
 exact ⟨by rw [HE.out]; rfl, by assumption⟩
theorem unbe_take (s : Bs) (k : Nat) (h : k < s.length) : unbe (s.take (k + 1)) = unbe (s.take k) * 256 + (s.getD k 0).toNat := by
 have e : s.getD k 0 = s[k] := by simp [List.getD, h]
 rw [List.take_succ_eq_append_getElem h, e, unbe_snoc]
theorem or_byte (m c : Nat) (hm : m < 72057594037927936) (hc : c < 256) : bits .or .u64 (IntKind.u64.wrap ((m : Int) * 256)) (c : Int) = ((m * 256 + c : Nat) : Int) := by
 have h1 : IntKind.u64.wrap ((m : Int) * 256) = ((m * 256 : Nat) : Int) := by rw [IntKind.wrap_u64]; omega
 rw [h1, u64_or_nat _ _ (by omega) (by omega), nat_join 8 _ _ (by omega) (by omega)]
theorem get_any (s : Bs) (w : World) (hs : s.length ≤ 8) :
  Calls Tryz.prog 224 #[.string (S s)] w fun e w' => e = .returned (.int .u64 (unbe s)) ∧ w = w' := by
 go_enter Tryz.func224, Tryz.ntmps224
 go_wp2
 go_loop [3, 7] (fun n i => ∃ k : Nat, k ≤ s.length ∧ i = .int .i64 k ∧ n = .int .u64 (unbe (s.take k))) (fun _ i => s.length - (intOf i).toNat)
 case atStart => exact ⟨0, Nat.zero_le _, rfl, rfl⟩
 case round =>
  obtain ⟨k, hk, rfl, rfl⟩ := hrel
  by_cases hlt : k < s.length
  ·have hu := hid (unbe_take s k hlt)
   have hm := unbe_lt (s.take k)
   have hp : 256 ^ (s.take k).length ≤ 256 ^ 7 := Nat.pow_le_pow_right (by omega) (by simp; omega)
   have hm2 := hid (Nat.lt_of_lt_of_le hm hp)
   clear hm hp
   go_wp2
   go_round
   case rel =>
    refine ⟨k + 1, by omega, by go_num, ?_⟩
    have e : s.getD k 0 = s[k] := by simp [List.getD, hlt]
    rw [hu.out, e]
    have hc := s[k].toNat_lt
    have h1 : IntKind.u64.wrap (s[k].toNat : Int) = (s[k].toNat : Int) := by rw [IntKind.wrap_u64]; omega
    rw [h1, or_byte _ _ hm2.out (by omega)]
   case measure => simp [intOf]; omega
  ·have hke : k = s.length := by omega
   go_wp2
   go_ret
   subst hke
   exact ⟨by simp, rfl⟩
def leftE (len : Nat) (at_ n : Int) : Int := if at_ < 0 ∨ len < at_ then 3 else if len - at_ < n then 5 else 0
theorem left_any (s : Bs) (i n : Int) (w : World) (hl : s.length ≤ 1000000) :
  Calls Tryz.prog 223 #[.string (S s), .int .i64 i, .int .i64 n] w fun e w' => e = .returned (.int .i64 (leftE s.length i n)) ∧ w = w' := by
 by_cases h1 : i < 0
 ·go_enter Tryz.func223, Tryz.ntmps223
  go_wp2
  go_ret
  exact ⟨by simp [leftE, h1], rfl⟩
 by_cases h2 : (s.length : Int) < i
 ·go_enter Tryz.func223, Tryz.ntmps223
  go_wp2
  go_ret
  exact ⟨by simp [leftE, h2], rfl⟩
 by_cases h3 : (s.length : Int) - i < n
 ·go_enter Tryz.func223, Tryz.ntmps223
  go_wp2
  go_ret
  exact ⟨by simp [leftE, h1, h2, h3], rfl⟩
 ·go_enter Tryz.func223, Tryz.ntmps223
  go_wp2
  go_ret
  have he : leftE s.length i n = 0 := by unfold leftE; rw [if_neg (by omega), if_neg (by omega)]
  exact ⟨by rw [he]; rfl, rfl⟩
theorem readU_any (s : Bs) (i : Nat) (w : World) (hl : s.length ≤ 1000000) (hi : i + 8 ≤ s.length) :
  Calls Tryz.prog 190 #[.string (S s), .int .i64 i] w fun e w' => e = .returned (.tuple #[.int .u64 (unbe ((s.drop i).take 8)), .int .i64 ((i + 8 : Nat) : Int), .int .i64 0]) ∧ w = w' := by
 have he : leftE s.length i 8 = 0 := by unfold leftE; split; omega; split; omega; rfl
 have e8 : i + 8 - i = 8 := by omega
 go_enter Tryz.func190, Tryz.ntmps190
 go_wp2_with (first
  | (go_at_call 223; refine (left_any s i 8 _ hl).mono ?_; rintro e w' ⟨rfl, rfl⟩)
  | (go_at_call 224; refine (get_any _ _ ?hq).mono ?_; rotate_left; rintro e w' ⟨rfl, rfl⟩))
 case hq => simp; omega
 go_ret3
 exact ⟨by simp, rfl⟩
def decI (b : Bs) : Int := (unbe b : Int) - 9223372036854775808
theorem decI_encI {x : Int} (h0 : -9223372036854775808 ≤ x) (h1 : x < 9223372036854775808) : decI (encI x) = x := by
 have := unbe_encI h0 h1; unfold decI; omega
theorem wrap_dec (b : Bs) (h : b.length = 8) : wrap64 (IntKind.u64.wrap ((unbe b : Int) + 9223372036854775808)) = decI b := by
 have := unbe_lt b; rw [h] at this; unfold decI wrap64; rw [IntKind.wrap_u64]; omega
theorem readI_any (s : Bs) (i : Nat) (w : World) (hl : s.length ≤ 1000000) (hi : i + 8 ≤ s.length) :
  Calls Tryz.prog 155 #[.string (S s), .int .i64 i] w fun e w' => e = .returned (.tuple #[.int .i64 (decI ((s.drop i).take 8)), .int .i64 ((i + 8 : Nat) : Int), .int .i64 0]) ∧ w = w' := by
 have hd := hid (wrap_dec ((s.drop i).take 8) (by simp; omega))
 go_enter Tryz.func155, Tryz.ntmps155
 go_wp2_with (go_at_call 190; refine (readU_any s i _ hl hi).mono ?_; rintro e w' ⟨rfl, rfl⟩)
 go_ret3
 exact ⟨by rw [← hd.out]; simp, rfl⟩
end
section
def wpC (P : Program) (ops : Array Oper) (C : World → Prop) (Q : Act → Prop) (rest : List Oper) (a : Act) : Prop := wpQuiet P ops C Q rest a
theorem wpC_step {P : Program} {ops : Array Oper} {C : World → Prop} {Q : Act → Prop} {a : Act} {o : Oper} {rest : List Oper}
  (h : ∀ K : Act → Prop, (∀ a, wpC P ops C Q rest a → K a) → if Region.wanted o (yielded ops a.tmps) then o.quiet P a C K else K (a.put o.dst undef)) : wpC P ops C Q (o :: rest) a :=
 wpQuiet_step h
section
variable {P : Program} {l : List Oper} {C : World → Prop} {Q : Act → Prop} {a : Act} {o : Oper} {rest : List Oper}
theorem qC_want (hw : Region.wanted o (yielded l.toArray a.tmps) = true)
  (h : ∀ K : Act → Prop, (∀ a, wpC P l.toArray C Q rest a → K a) → ∃ v, (∀ w, C w → o.quietAt P a C w v) ∧ K (a.put o.dst v)) : wpC P l.toArray C Q (o :: rest) a :=
 wpC_step fun K hK => by rw [if_pos hw]; exact h K hK
theorem qC_pass (hw : Region.wanted o (yielded l.toArray a.tmps) = false)
  (h : ∀ K : Act → Prop, (∀ a, wpC P l.toArray C Q rest a → K a) → K (a.put o.dst undef)) : wpC P l.toArray C Q (o :: rest) a :=
 wpC_step fun K hK => by rw [if_neg (by rw [hw]; exact Bool.false_ne_true)]; exact h K hK
theorem qC_none (hg : o.guard = none)
  (h : ∀ K : Act → Prop, (∀ a, wpC P l.toArray C Q rest a → K a) → ∃ v, (∀ w, C w → o.quietAt P a C w v) ∧ K (a.put o.dst v)) : wpC P l.toArray C Q (o :: rest) a :=
 qC_want (by unfold Region.wanted; rw [hg]) h
theorem qwanted_of (j : Nat) (want : Bool) (d : Tmp) (b : Bool) (hg : o.guard = some (j, want)) (hd : (l[j]?).bind (·.dst) = some d)
  (hv : a.tmps.toList[d]? = some (.bool b)) : Region.wanted o (yielded l.toArray a.tmps) = (b == want) := by
 unfold Region.wanted yielded
 rw [hg]
 have h1 : l.toArray[j]? = l[j]? := by simp
 have h2 : a.tmps[d]? = a.tmps.toList[d]? := by simp
 simp only [h1, hd, Option.bind_some, h2, hv]
 cases b <;> cases want <;> rfl
theorem qC_yes (j : Nat) (want : Bool) (d : Tmp) (hg : o.guard = some (j, want)) (hd : (l[j]?).bind (·.dst) = some d) (hv : a.tmps.toList[d]? = some (.bool want))
  (h : ∀ K : Act → Prop, (∀ a, wpC P l.toArray C Q rest a → K a) → ∃ v, (∀ w, C w → o.quietAt P a C w v) ∧ K (a.put o.dst v)) : wpC P l.toArray C Q (o :: rest) a :=
 qC_want (by rw [qwanted_of j want d _ hg hd hv]; cases want <;> rfl) h
theorem qC_no (j : Nat) (want : Bool) (d : Tmp) (hg : o.guard = some (j, want)) (hd : (l[j]?).bind (·.dst) = some d) (hv : a.tmps.toList[d]? = some (.bool !want))
  (h : ∀ K : Act → Prop, (∀ a, wpC P l.toArray C Q rest a → K a) → K (a.put o.dst undef)) : wpC P l.toArray C Q (o :: rest) a :=
 qC_pass (by rw [qwanted_of j want d _ hg hd hv]; cases want <;> rfl) h
theorem qC_undef (j : Nat) (want : Bool) (d : Tmp) (hg : o.guard = some (j, want)) (hd : (l[j]?).bind (·.dst) = some d) (hv : a.tmps.toList[d]? = some undef)
  (h : ∀ K : Act → Prop, (∀ a, wpC P l.toArray C Q rest a → K a) → K (a.put o.dst undef)) : wpC P l.toArray C Q (o :: rest) a :=
 qC_pass (by
  unfold Region.wanted yielded
  rw [hg]
  have h1 : l.toArray[j]? = l[j]? := by simp
  have h2 : a.tmps[d]? = a.tmps.toList[d]? := by simp
  simp only [h1, hd, Option.bind_some, h2, hv]
  cases want <;> rfl) h
theorem qC_region {id : Nat} {Q : Exit → Act → World → Prop} {w : World} (hm : P.follows .mixedOrders = true) (hB : Region.lexB .any l.toArray = true) (C : World → Prop) (hC : C w.drew)
  (h : wpC P l.toArray C (fun a' => ∀ w', C w' → Q .normal a' w') l a) : (Code.region id l.toArray true).wp P Q a w :=
 wp_region_quiet (C := C) hm hB hC (by have h : wpQuiet P l.toArray C _ l a := h; simpa using h)
theorem qC_nil (h : Q a) : wpC P l.toArray C Q [] a := h
end
attribute [irreducible] wpC
end
section
open Go.RowKit Go.Lib
section
variable {α : Type} {enc : α → List Value} {k : Nat}
def rowV (enc : α → List Value) (l : List α) : List Value := l.flatMap enc
@[simp] theorem rowV_nil : rowV enc [] = [] := rfl
@[simp] theorem rowV_cons (x : α) (l : List α) : rowV enc (x :: l) = enc x ++ rowV enc l := rfl
@[simp] theorem rowV_append (a b : List α) : rowV enc (a ++ b) = rowV enc a ++ rowV enc b := by simp [rowV]
theorem rowV_length (hk : ∀ x, (enc x).length = k) (l : List α) : (rowV enc l).length = l.length * k := by
 induction l with
 | nil => simp
 | cons x l ih => rw [rowV_cons, List.length_append, hk, ih, List.length_cons, Nat.succ_mul, Nat.add_comm]
theorem rowV_get (hk : ∀ x, (enc x).length = k) : ∀ (l : List α) (i : Nat) (x : α), l[i]? = some x → ∀ j, j < k → (rowV enc l)[i * k + j]? = (enc x)[j]?
 | [], i, x, h, j, hj => by simp at h
 | y :: l, 0, x, h, j, hj => by
  simp at h; subst h
  rw [rowV_cons, Nat.zero_mul, Nat.zero_add, List.getElem?_append_left (by rw [hk]; exact hj)]
 | y :: l, i + 1, x, h, j, hj => by
  rw [rowV_cons, List.getElem?_append_right (by rw [hk, Nat.succ_mul]; omega), hk, show (i + 1) * k + j - k = i * k + j by rw [Nat.succ_mul]; omega]
  exact rowV_get hk l i x (by simpa using h) j hj
theorem rowV_set (hk : ∀ x, (enc x).length = k) : ∀ (l : List α) (i : Nat) (x y : α) (j : Nat) (v : Value), l[i]? = some x → j < k → enc y = (enc x).set j v → (rowV enc l).set (i * k + j) v = rowV enc (l.set i y)
 | [], i, x, y, j, v, h, hj, e => by simp at h
 | z :: l, 0, x, y, j, v, h, hj, e => by
  simp at h; subst h
  rw [rowV_cons, Nat.zero_mul, Nat.zero_add, List.set_append_left _ _ (by rw [hk]; exact hj), List.set_cons_zero, rowV_cons, e]
 | z :: l, i + 1, x, y, j, v, h, hj, e => by
  rw [rowV_cons, List.set_append_right _ _ (by rw [hk, Nat.succ_mul]; omega), hk, show (i + 1) * k + j - k = i * k + j by rw [Nat.succ_mul]; omega, List.set_cons_succ, rowV_cons]
  rw [rowV_set hk l i x y j v (by simpa using h) hj e]
theorem rowV_one (h1 : ∀ x, ∀ u ∈ enc x, u.oneCell' = true) (l : List α) : ∀ u ∈ rowV enc l, u.oneCell' = true := by
 intro u hu
 obtain ⟨x, _, hx⟩ := List.mem_flatMap.1 hu
 exact h1 x u hx
end
theorem news_of {W : World} {g : Nat} {T : TypeId} {cs : List Value} (h : Blk W g T cs.toArray) : ∀ j u, cs[j]? = some u → W.cell? ((⟨g, 0, none⟩ : Addr).add j) = some u := by
 intro j u hj
 rw [Addr.add_mid, Nat.zero_add, h.cell]
 simpa using hj
theorem own_at {w : World} {B : Nat} {T : TypeId} {s n : Nat} {v : Value} {xs : List Value} {g : Nat} {c : Nat} (h : w.ownsRow B T s v n xs) (hv : v = .slice (some ⟨g, 0, none⟩) n c) {j : Nat} {u : Value} (hj : xs[j]? = some u) : w.cell? ⟨g, j, none⟩ = some u := by
 have := h.cells (g := g) (by rw [hv]; rfl) j u hj
 rwa [Addr.add_mid, Nat.zero_add] at this
theorem own_form {w : World} {B : Nat} {T : TypeId} {s n : Nat} {v : Value} {xs : List Value} (h : w.ownsRow B T s v n xs) (hn : 0 < n) : ∃ g c, v = .slice (some ⟨g, 0, none⟩) n c ∧ B ≤ g ∧ g < w.heap.size ∧ n ≤ c := by
 rcases h.2 with ⟨_, h0⟩ | ⟨g, cap, cur, hv, hb, hg, hn2, _⟩
 ·omega
 ·exact ⟨g, cap, hv, hb, (Array.getElem?_eq_some_iff.1 hg).1, hn2⟩
end
end Go.Proofs.YtnnghcooidjlhaaGreat
