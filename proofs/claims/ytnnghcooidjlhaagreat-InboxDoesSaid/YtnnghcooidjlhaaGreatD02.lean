/- Parts of the proof: Lw Da Bk. -/
import Derived.Laws.CopyOwn
import Derived.Deep.OwnRows
import Derived.Deep.MidRow
import Derived.Deep.QuietTactic
import Derived.BigQuiet
import Derived.Deep.RegionHeld3
import Derived.Laws.IdiomCopy
import Derived.Laws.AppendOwn
import Derived.Lib.ConvBytes
import Derived.Lib.SmallJoins
import Derived.Test.YtnnghcooidjlhaaGreatD01
set_option linter.all false
set_option maxRecDepth 100000
namespace Go.Proofs.YtnnghcooidjlhaaGreat
section
open Go.RowKit
def bA (l : Bs) : Array Value := (cB l).toArray
@[simp] theorem bA_size (l : Bs) : (bA l).size = l.length := by simp [bA]
theorem bA_get (l : Bs) (i : Nat) (h : i < l.length) : (bA l)[i]? = some (.int .u8 ((l.getD i 0).toNat : Int)) := by
 simp [bA, cB, h, List.getD]
theorem inf5s : (Tryz.prog.info? 5).map (·.size) = some 1 := by kernel_rfl
theorem bA_made (n : Nat) : madeCells #[Value.int .u8 0] n = bA (List.replicate n 0) := by
 apply Array.toList_inj.1
 rw [toList_madeCells_one]
 simp [bA, cB]
theorem setAt_cB (l b : Bs) (o : Nat) : ((bA l).toList.take o ++ cB b ++ (bA l).toList.drop (o + (cB b).length)).toArray = bA (setAt l o b) := by
 simp [bA, setAt, cB]
section
variable {w : World} {ops : Array Oper} {rest : List Oper} {o : Oper} {a : Act} {Q : Exit → Act → World → Prop}
theorem wpL_make (hgd : o.guard = none) (x y : Operand) (hop : o.op = Op.makeSlice 129 x y) (n : Nat) (hx : a.eval x = .int .i64 (n : Int)) (hy : a.eval y = .int .i64 (n : Int)) (hn : n ≤ 1000000)
  (h : ∀ W, Blk W w.heap.size 5 (bA (List.replicate n 0)) → Below w.heap.size w W → wpList Tryz.prog ops Q rest (a.put o.dst (.slice (some ⟨w.heap.size, 0, none⟩) n n)) W) : wpList Tryz.prog ops Q (o :: rest) a w := by
 obtain ⟨i0, hi, hz0, hz1, hz2⟩ := info_parts inf5
 refine wpList_make_row w hgd x y 129 hop 5 i0 (.int .u8 0) Tryz.underlying129 hi hz0 hz1 rfl .i64 .i64 n hx hy (by rw [hz2]; omega) (by omega) ?_
 rw [bA_made]
 exact h _ (Blk.new w _ _) ((Below.refl _ _).alloc (Nat.le_refl _) _)
theorem kp_setRow (w : World) (g : Nat) (cs : Array Value) : Kp [g] w (w.setRow g cs) :=
 ⟨rfl, rfl, rfl, by simp, fun b _ hb => setRow_other w g b cs (by simpa using hb)⟩
theorem run_copy_S (dT ty : TypeId) (hu : Tryz.prog.underlying dT = some (.slice 5)) (g i dLen dCap : Nat) (s cur : Bs) (hb : Blk w g 5 (bA cur)) (hle : s.length ≤ dLen) (hfit : i + s.length ≤ cur.length) :
  (Builtin.copy_ #[dT, 9] ty #[.slice (some ⟨g, i, none⟩) dLen dCap, .string (S s)]).run Tryz.prog w = .ok (goInt s.length) (w.setRow g (bA (setAt cur i s))) := by
 have hst := run_storeCells_at Tryz.prog g i 5 (cB s) 0 (bA cur) w hb (by simpa using hfit) (one_cB s)
 simp only [Nat.add_zero, setAt_cB] at hst
 have hmin : Nat.min (S s).size dLen = s.length := by rw [S_size]; exact Nat.min_eq_left hle
 have e : List.take s.length (List.map (fun b : UInt8 => Value.int IntKind.u8 (b.toNat : Int)) (S s).data.toList) = cB s := by
  rw [List.take_of_length_le (by simp [S])]
  rfl
 cases hq : Tryz.prog.info? 5 with
 | none => have := inf5s; rw [hq] at this; simp at this
 | some i0 =>
  simp [Builtin.copy_, run_underlying hu, Builtin.lenOf, Builtin.firstCells, sizeOf, typeInfo, hq, hmin]
  rw [e, hst]
  simp [Result.andThen]
theorem wpL_copyS (hgd : o.guard = none) (d s : Operand) (dT : TypeId) (ho : o.op = .call { callee := .builtin .copy, args := #[d, s], argTypes := #[dT, 9] }) (hu : Tryz.prog.underlying dT = some (.slice 5))
  (g i dLen dCap : Nat) (b cur : Bs) (hd : a.eval d = .slice (some ⟨g, i, none⟩) dLen dCap) (hs : a.eval s = .string (S b)) (hb : Blk w g 5 (bA cur)) (hle : b.length ≤ dLen) (hfit : i + b.length ≤ cur.length)
  (h : ∀ W, Blk W g 5 (bA (setAt cur i b)) → Kp [g] w W → wpList Tryz.prog ops Q rest (a.put o.dst (goInt b.length)) W) : wpList Tryz.prog ops Q (o :: rest) a w := by
 refine wpList_plain hgd fun K hK => ?_
 have hrun := run_copy_S (w := w) dT o.type hu g i dLen dCap b cur hb hle hfit
 unfold Oper.wp
 simp [execOp, ho, resolve, invoke, builtin, hd, hs, hrun, Result.andThen]
 exact hK _ _ (h _ (setRow_heap w g _ _ _ (0, 0) hb) (kp_setRow w g _))
theorem wpL_copyB (hgd : o.guard = none) (d s : Operand) (dT sT : TypeId) (ho : o.op = .call { callee := .builtin .copy, args := #[d, s], argTypes := #[dT, sT] }) (hu : Tryz.prog.underlying dT = some (.slice 5))
  (g i dLen dCap : Nat) (ad : Addr) (n c : Nat) (b cur : Bs) (hd : a.eval d = .slice (some ⟨g, i, none⟩) dLen dCap) (hs : a.eval s = .slice (some ad) n c) (hn : b.length = n) (hsrc : ∀ j v, (cB b)[j]? = some v → w.cell? (ad.add j) = some v)
  (hb : Blk w g 5 (bA cur)) (hle : b.length ≤ dLen) (hfit : i + b.length ≤ cur.length)
  (h : ∀ W, Blk W g 5 (bA (setAt cur i b)) → Kp [g] w W → wpList Tryz.prog ops Q rest (a.put o.dst (goInt b.length)) W) : wpList Tryz.prog ops Q (o :: rest) a w := by
 refine wpList_copy_own hgd d s dT sT ho 5 hu inf5s g i dLen dCap ad n c hd hs (bA cur) 5 hb (cB b) (by simp; rw [← hn]; exact (Nat.min_eq_left hle).symm) hsrc (by simpa using hfit) (one_cB b) ?_
 have e : ((bA cur).toList.take i ++ (cB b ++ (bA cur).toList.drop (i + (cB b).length))).toArray = bA (setAt cur i b) := by rw [← setAt_cB, List.append_assoc]
 rw [e]
 have := h _ (setRow_heap w g _ (bA (setAt cur i b)) _ (0, 0) hb) (kp_setRow w g _)
 simpa using this
theorem blk_string {g i n c : Nat} {cur : Bs} (hb : Blk w g 5 (bA cur)) (hn : i + n ≤ cur.length) :
  (convert 129 9 (.slice (some ⟨g, i, none⟩) n c)).run Tryz.prog w = .ok (.string (S ((cur.drop i).take n))) w := by
 have hl : ((cur.drop i).take n).length = n := by simp; omega
 have := run_convert_bytes_back (P := Tryz.prog) w 129 9 5 ⟨g, i, none⟩ c ((cur.drop i).take n) Tryz.underlying129 Tryz.underlying5 Tryz.underlying9 (fun j hj => by
  have e : (⟨g, i, none⟩ : Addr).add j = ⟨g, i + j, none⟩ := Addr.add_mid g i j
  rw [e, hb.cell, bA_get _ _ (by omega)]
  simp [List.getD]
  rw [List.getElem?_eq_getElem (by omega)]; rfl)
 rw [hl] at this
 exact this
end
theorem blk_src {W : World} {g : Nat} {T : TypeId} {b : Bs} (h : Blk W g T (cB b).toArray) : ∀ j v, (cB b)[j]? = some v → W.cell? ((⟨g, 0, none⟩ : Addr).add j) = some v := by
 intro j v hj
 have e : (⟨g, 0, none⟩ : Addr).add j = ⟨g, 0 + j, none⟩ := Addr.add_mid g 0 j
 rw [e, h.cell]
 simpa using hj
theorem cells_string {W : World} {ad : Addr} {n c : Nat} (b : Bs) (h : ∀ j v, (cB b)[j]? = some v → W.cell? (ad.add j) = some v) (hn : b.length = n) :
  (convert 129 9 (.slice (some ad) n c)).run Tryz.prog W = .ok (.string (S b)) W := by
 subst hn
 exact run_convert_bytes_back (P := Tryz.prog) W 129 9 5 ad c b Tryz.underlying129 Tryz.underlying5 Tryz.underlying9 (fun j hj => h j _ (by simp [cB, hj]))
end
section
open Go.RowKit
theorem quiet_left {P : Program} {f : FuncId} {args : Array Value} {w : World} {n : Nat} {v : Value}
  (h : Calls P f args (w.drewN n) fun e w' => e = .returned v ∧ w.drewN n = w') : Calls P f args (w.drewN n) fun e w' => e = .returned v ∧ ∃ m, w' = w.drewN m :=
 h.mono fun _ _ ⟨he, hm⟩ => ⟨he, n, hm.symm⟩
structure DkL where
 d : Nat
 bn : Nat
 bo : Nat
 bl : Nat
def dkCells (D : DkL) (n : Nat) (calls : Int) : Array Value :=
 #[.slice (some ⟨D.bn, 0, none⟩) n n, .slice (some ⟨D.bo, 0, none⟩) n n, .slice (some ⟨D.bl, 0, none⟩) n n, .int .i64 0, .int .i64 calls, .bool false]
structure DkI (w : World) (D : DkL) (n : Nat) (sec : Nat → Bs) : Prop where
 cells : ∃ calls, Blk w D.d 253 (dkCells D n calls)
 now : ∀ i, i < n → w.rangeAt D.bn (i * 64) (cB (sec i))
 len : ∀ i, i < n → (sec i).length = 64
 tn : w.there D.bn 0 (n * 64)
 to : w.there D.bo 0 (n * 64)
 tl : w.there D.bl 0 n
 bl : ∀ i, i < n → ∃ b, w.cell? ⟨D.bl, i, none⟩ = some (.bool b)
 n0 : 0 < n
 n1 : n ≤ 4096
 ne1 : D.bn ≠ D.bo
 ne2 : D.bn ≠ D.bl
 ne3 : D.bo ≠ D.bl
 ne4 : D.d ≠ D.bn
 ne5 : D.d ≠ D.bo
 ne6 : D.d ≠ D.bl
theorem disk_works {w : World} {D : DkL} {n : Nat} {sec : Nat → Bs} (h : DkI w D n sec) :
  Calls Tryz.prog 183 #[.pointer (some ⟨D.d, 0, none⟩)] w fun e w' => e = .returned (.int .i64 0) ∧ w = w' := by
 obtain ⟨calls, hc⟩ := h.cells
 have h5 : w.cell? ⟨D.d, 5, none⟩ = some (.bool false) := by rw [hc.cell]; rfl
 clear h hc
 go_enter Tryz.func183, Tryz.ntmps183
 go_wp2
 go_ret
 exact ⟨rfl, rfl⟩
theorem disk_at {w : World} {D : DkL} {n : Nat} {sec : Nat → Bs} (h : DkI w D n sec) (i : Nat) (hi : i < n) :
  Calls Tryz.prog 181 #[.pointer (some ⟨D.d, 0, none⟩), .int .i64 i] w fun e w' => e = .returned (.int .i64 0) ∧ w = w' := by
 have hw := hid (disk_works h)
 obtain ⟨calls, hc⟩ := h.cells
 have h0 : w.cell? ⟨D.d, 0, none⟩ = some (.slice (some ⟨D.bn, 0, none⟩) n n) := by rw [hc.cell]; rfl
 have hn := h.n1
 clear h hc
 go_enter Tryz.func181, Tryz.ntmps181
 go_wp2_with (go_at_call 183; refine hw.out.mono ?_; rintro e w' ⟨rfl, rfl⟩)
 go_ret
 exact ⟨rfl, rfl⟩
theorem disk_sectors {w : World} {D : DkL} {n : Nat} {sec : Nat → Bs} (h : DkI w D n sec) :
  Calls Tryz.prog 208 #[.pointer (some ⟨D.d, 0, none⟩)] w fun e w' => e = .returned (.int .i64 n) ∧ w = w' := by
 obtain ⟨calls, hc⟩ := h.cells
 have h0 : w.cell? ⟨D.d, 0, none⟩ = some (.slice (some ⟨D.bn, 0, none⟩) n n) := by rw [hc.cell]; rfl
 have hn := h.n1
 clear h hc
 go_enter Tryz.func208, Tryz.ntmps208
 go_wp2
 go_ret
 exact ⟨rfl, rfl⟩
theorem disk_counts {w : World} {D : DkL} {n : Nat} {sec : Nat → Bs} (h : DkI w D n sec) :
  Calls Tryz.prog 182 #[.pointer (some ⟨D.d, 0, none⟩)] w fun e w' => e = .returned (.int .i64 0) ∧ ∃ calls', w' = w.setCell ⟨D.d, 4, none⟩ (.int .i64 calls') := by
 obtain ⟨calls, hc⟩ := h.cells
 have h3 : w.cell? ⟨D.d, 3, none⟩ = some (.int .i64 0) := by rw [hc.cell]; rfl
 have h4 : w.cell? ⟨D.d, 4, none⟩ = some (.int .i64 calls) := by rw [hc.cell]; rfl
 have f4 := hc.frozen 4
 clear h hc
 go_enter Tryz.func182, Tryz.ntmps182
 go_wp2
 go_ret
 exact ⟨rfl, _, rfl⟩
theorem disk_read {w : World} {D : DkL} {n : Nat} {sec : Nat → Bs} (h : DkI w D n sec) (i : Nat) (hi : i < n) :
  Calls Tryz.prog 290 #[.pointer (some ⟨D.d, 0, none⟩), .int .i64 i] w fun e w' => e = .returned (.tuple #[.string (S (sec i)), .int .i64 0]) ∧ w = w' := by
 have hw := hid (disk_at h i hi)
 obtain ⟨calls, hc⟩ := h.cells
 have h0 : w.cell? ⟨D.d, 0, none⟩ = some (.slice (some ⟨D.bn, 0, none⟩) n n) := by rw [hc.cell]; rfl
 have hn := h.n1
 have hr := h.now i hi
 have hcv := cells_string (ad := ⟨D.bn, i * 64, none⟩) (c := 64) (sec i) (fun j v hj => by rw [Addr.add_mid]; exact hr j v hj) (h.len i hi)
 clear h hc hr
 go_enter Tryz.func290, Tryz.ntmps290
 go_wp2_with (go_at_call 181; refine hw.out.mono ?_; rintro e w' ⟨rfl, rfl⟩)
 go_ret2
 exact ⟨rfl, rfl⟩
def dkOwn (D : DkL) : List Nat := [D.d, D.bn, D.bo, D.bl]
theorem rangeAt_of {w w' : World} {b o : Nat} {cs : List Value} (h : w.rangeAt b o cs) (e : w'.heap[b]? = w.heap[b]?) : w'.rangeAt b o cs := fun j v hj => by
 rw [World.cell?_of_block (a := ⟨b, o + j, none⟩) e]; exact h j v hj
theorem there_of {w w' : World} {b o n : Nat} (h : w.there b o n) (e : w'.heap[b]? = w.heap[b]?) : w'.there b o n := fun j hj => by
 rw [World.cell?_of_block (a := ⟨b, o + j, none⟩) e, World.frozen?_of_block (a := ⟨b, o + j, none⟩) e]; exact h j hj
theorem there_lt {w : World} {b o n : Nat} (h : w.there b o n) (hn : 0 < n) : b < w.heap.size := by
 have := (h 0 hn).1
 obtain ⟨v, hv⟩ := Option.isSome_iff_exists.1 this
 exact block_lt_of_cell hv
theorem DkI.lts {w : World} {D : DkL} {n : Nat} {sec : Nat → Bs} (h : DkI w D n sec) : D.d < w.heap.size ∧ D.bn < w.heap.size ∧ D.bo < w.heap.size ∧ D.bl < w.heap.size := by
 obtain ⟨_, hc⟩ := h.cells
 exact ⟨hc.lt, there_lt h.tn (by have := h.n0; omega), there_lt h.to (by have := h.n0; omega), there_lt h.tl h.n0⟩
theorem DkI.of_blocks {w w' : World} {D : DkL} {n : Nat} {sec : Nat → Bs} (h : DkI w D n sec) (e : ∀ b ∈ dkOwn D, w'.heap[b]? = w.heap[b]?) : DkI w' D n sec := by
 have e1 := e D.d (by simp [dkOwn])
 have e2 := e D.bn (by simp [dkOwn])
 have e3 := e D.bo (by simp [dkOwn])
 have e4 := e D.bl (by simp [dkOwn])
 obtain ⟨calls, hc⟩ := h.cells
 exact ⟨⟨calls, e1.trans hc⟩, fun i hi => rangeAt_of (h.now i hi) e2, h.len, there_of h.tn e2, there_of h.to e3, there_of h.tl e4,
  fun i hi => by rw [World.cell?_of_block (a := ⟨D.bl, i, none⟩) e4]; exact h.bl i hi, h.n0, h.n1, h.ne1, h.ne2, h.ne3, h.ne4, h.ne5, h.ne6⟩
theorem DkI.kp {w w' : World} {D : DkL} {n : Nat} {sec : Nat → Bs} {O : List Nat} (h : DkI w D n sec) (hk : Kp O w w') (ho : ∀ b ∈ dkOwn D, b ∉ O) : DkI w' D n sec := by
 have hl := h.lts
 refine h.of_blocks fun b hb => hk.block b ?_ (ho b hb)
 simp [dkOwn] at hb
 rcases hb with rfl | rfl | rfl | rfl <;> omega
theorem DkI.below {w w' : World} {D : DkL} {n : Nat} {sec : Nat → Bs} (h : DkI w D n sec) (hb : Below w.heap.size w w') : DkI w' D n sec :=
 h.kp (O := []) (Kp.of_below hb) (by simp)
def pad64 (s : Bs) : Bs := s ++ List.replicate (64 - s.length) 0
theorem size64 : (Tryz.prog.info? 316).map (·.size) = some 64 := by kernel_rfl
theorem cell_setCells_ne {w : World} {b o b' j : Nat} {vs : List Value} {x : Option Value} (h : b' ≠ b) (hx : w.cell? ⟨b', j, none⟩ = x) : (w.setCells b o vs).cell? ⟨b', j, none⟩ = x := by
 rw [World.cell?_setCells_out b vs o w ⟨b', j, none⟩ (fun e => absurd e h)]; exact hx
theorem frozen_setCells {w : World} {b o b' j : Nat} {vs : List Value} {x : Bool} (hx : w.frozen? ⟨b', j, none⟩ = x) : (w.setCells b o vs).frozen? ⟨b', j, none⟩ = x := by
 rw [World.frozen?_setCells]; exact hx
theorem run_copy_mid {w : World} (dT ty : TypeId) (hu : Tryz.prog.underlying dT = some (.slice 5)) (g i dLen dCap : Nat) (s : Bs) (ht : w.there g i s.length) (hle : s.length ≤ dLen) :
  (Builtin.copy_ #[dT, 9] ty #[.slice (some ⟨g, i, none⟩) dLen dCap, .string (S s)]).run Tryz.prog w = .ok (goInt s.length) (w.setCells g i (cB s)) := by
 have hst := run_storeCells_cells (P := Tryz.prog) g i (cB s) 0 w (fun j hj => by simpa using (ht j (by simpa using hj)).1) (fun j hj => by simpa using (ht j (by simpa using hj)).2) (one_cB s)
 simp only [Nat.add_zero] at hst
 have hmin : Nat.min (S s).size dLen = s.length := by rw [S_size]; exact Nat.min_eq_left hle
 have e : List.take s.length (List.map (fun b : UInt8 => Value.int IntKind.u8 (b.toNat : Int)) (S s).data.toList) = cB s := by
  rw [List.take_of_length_le (by simp [S])]
  rfl
 cases hq : Tryz.prog.info? 5 with
 | none => have := inf5s; rw [hq] at this; simp at this
 | some i0 =>
  simp [Builtin.copy_, run_underlying hu, Builtin.lenOf, Builtin.firstCells, sizeOf, typeInfo, hq, hmin]
  rw [e, hst]
  simp [Result.andThen]
theorem wpL_copy_mid {w : World} {ops : Array Oper} {rest : List Oper} {o : Oper} {a : Act} {Q : Exit → Act → World → Prop} (hgd : o.guard = none) (d s : Operand) (dT : TypeId) (ho : o.op = .call { callee := .builtin .copy, args := #[d, s], argTypes := #[dT, 9] }) (hu : Tryz.prog.underlying dT = some (.slice 5))
  (g i dLen dCap : Nat) (b : Bs) (hd : a.eval d = .slice (some ⟨g, i, none⟩) dLen dCap) (hs : a.eval s = .string (S b)) (ht : w.there g i b.length) (hle : b.length ≤ dLen)
  (h : wpList Tryz.prog ops Q rest (a.put o.dst (goInt b.length)) (w.setCells g i (cB b))) : wpList Tryz.prog ops Q (o :: rest) a w := by
 refine wpList_plain hgd fun K hK => ?_
 have hrun := run_copy_mid (w := w) dT o.type hu g i dLen dCap b ht hle
 unfold Oper.wp
 simp [execOp, ho, resolve, invoke, builtin, hd, hs, hrun, Result.andThen]
 exact hK _ _ h
theorem zeros64c : ((Array.replicate 64 (Value.int .u8 0)).all fun x => x.oneCell') = true := by decide +kernel
theorem zeros64 : (Array.replicate 64 (Value.int .u8 0)).toList = cB (List.replicate 64 0) := by simp [cB]
theorem DkI.congr {w : World} {D : DkL} {n : Nat} {sec sec' : Nat → Bs} (h : DkI w D n sec) (e : ∀ j, j < n → sec j = sec' j) : DkI w D n sec' :=
 ⟨h.cells, fun i hi => by rw [← e i hi]; exact h.now i hi, fun i hi => by rw [← e i hi]; exact h.len i hi, h.tn, h.to, h.tl, h.bl, h.n0, h.n1, h.ne1, h.ne2, h.ne3, h.ne4, h.ne5, h.ne6⟩
theorem set_zero_n {l s : Bs} {n : Nat} (h : l.length = n) : setAt (setAt l 0 (List.replicate n 0)) 0 s = s ++ List.replicate (n - s.length) 0 := by
 have e1 : setAt l 0 (List.replicate n 0) = List.replicate n 0 := by simp [setAt, h]
 rw [e1]
 simp [setAt, List.drop_replicate]
theorem set_zero {l s : Bs} (h : l.length = 64) : setAt (setAt l 0 (List.replicate 64 0)) 0 s = pad64 s := set_zero_n h
def bOf (w : World) (a : Addr) : Bool := match w.cell? a with | some (.bool b) => b | _ => false
theorem bOf_of {w : World} {a : Addr} {b : Bool} (h : w.cell? a = some (.bool b)) : w.cell? a = some (.bool (bOf w a)) := by simp [bOf, h]
def WrS (D : DkL) (n i : Nat) (cs : List Value) (w' : World) : Prop :=
 w'.cell? ⟨D.d, 0, none⟩ = some (.slice (some ⟨D.bn, 0, none⟩) n n) ∧ w'.cell? ⟨D.d, 1, none⟩ = some (.slice (some ⟨D.bo, 0, none⟩) n n) ∧ w'.cell? ⟨D.d, 2, none⟩ = some (.slice (some ⟨D.bl, 0, none⟩) n n) ∧ w'.rangeAt D.bn (i * 64) cs ∧ w'.there D.bo (i * 64) 64 ∧ w'.cell? ⟨D.bl, i, none⟩ = some (.bool (bOf w' ⟨D.bl, i, none⟩)) ∧ w'.frozen? ⟨D.bl, i, none⟩ = false
theorem WrS.a {D : DkL} {n i : Nat} {cs : List Value} {w : World} (h : WrS D n i cs w) (ne1 : D.bn ≠ D.bo) (ne3 : D.bo ≠ D.bl) (ne5 : D.d ≠ D.bo) : WrS D n i cs (w.drew.setCells D.bo (i * 64) cs) := by
 obtain ⟨h0, h1, h2, h3, h4, h5, h6⟩ := h
 exact ⟨cell_setCells_ne ne5 h0, cell_setCells_ne ne5 h1, cell_setCells_ne ne5 h2, World.rangeAt_setCells_apart (by simpa using h3) _ _ _ (.inl ne1), World.there_setCells (by simpa using h4) _ _ _, bOf_of (cell_setCells_ne (w := w.drew) (Ne.symm ne3) h5), frozen_setCells h6⟩
theorem WrS.b {D : DkL} {n i : Nat} {cs : List Value} {w : World} (h : WrS D n i cs w) (ne2 : D.bn ≠ D.bl) (ne3 : D.bo ≠ D.bl) (ne6 : D.d ≠ D.bl) : WrS D n i cs (w.setCell ⟨D.bl, i, none⟩ (.bool true)) := by
 obtain ⟨h0, h1, h2, h3, h4, h5, h6⟩ := h
 have e1 := Below.heap_setCell w ⟨D.bl, i, none⟩ (.bool true) D.d ne6
 have e2 := Below.heap_setCell w ⟨D.bl, i, none⟩ (.bool true) D.bn ne2
 have e3 := Below.heap_setCell w ⟨D.bl, i, none⟩ (.bool true) D.bo ne3
 exact ⟨(World.cell?_of_block e1).trans h0, (World.cell?_of_block e1).trans h1, (World.cell?_of_block e1).trans h2, rangeAt_of h3 e2, there_of h4 e3, bOf_of (b := true) (by simp [go_sem, h5]), by simp [go_sem, h6]⟩
theorem heap_setCells (b : Nat) : ∀ (vs : List Value) (o : Nat) (w : World) (k : Nat), k ≠ b → (w.setCells b o vs).heap[k]? = w.heap[k]?
 | [], _, _, _, _ => rfl
 | v :: vs, o, w, k, hk => by
  show ((w.setCell ⟨b, o, none⟩ v).setCells b (o + 1) vs).heap[k]? = _
  rw [heap_setCells b vs (o + 1) _ k hk]
  exact Below.heap_setCell w ⟨b, o, none⟩ v k hk
theorem kp_setCells (b : Nat) : ∀ (vs : List Value) (o : Nat) (w : World), Kp [b] w (w.setCells b o vs)
 | [], _, w => Kp.refl _ _
 | v :: vs, o, w => by
  show Kp [b] w ((w.setCell ⟨b, o, none⟩ v).setCells b (o + 1) vs)
  exact ((Kp.refl [b] w).setCell (p := ⟨b, o, none⟩) (.inl (by simp)) v).trans (kp_setCells b vs (o + 1) _)
theorem DkI.save {w : World} {D : DkL} {n : Nat} {sec : Nat → Bs} (h : DkI w D n sec) {i : Nat} (cs : List Value) : DkI ((w.drew.setCells D.bo (i * 64) cs).setCell ⟨D.bl, i, none⟩ (.bool true)) D n sec ∧ Kp (dkOwn D) w ((w.drew.setCells D.bo (i * 64) cs).setCell ⟨D.bl, i, none⟩ (.bool true)) := by
 have hk : Kp (dkOwn D) w (w.drew.setCells D.bo (i * 64) cs) := (Kp.refl _ w).drew.trans ((kp_setCells D.bo cs (i * 64) w.drew).mono (by simp [dkOwn]))
 refine ⟨?_, hk.setCell (.inl (by simp [dkOwn])) _⟩
 have e : ∀ k, k ≠ D.bo → k ≠ D.bl → ((w.drew.setCells D.bo (i * 64) cs).setCell ⟨D.bl, i, none⟩ (.bool true)).heap[k]? = w.heap[k]? := fun k h1 h2 => by
  rw [Below.heap_setCell _ ⟨D.bl, i, none⟩ _ k h2, heap_setCells D.bo cs _ _ k h1]; rfl
 have e1 := e D.d h.ne5 h.ne6
 have e2 := e D.bn h.ne1 h.ne2
 have e3 : ((w.drew.setCells D.bo (i * 64) cs).setCell ⟨D.bl, i, none⟩ (.bool true)).heap[D.bo]? = (w.drew.setCells D.bo (i * 64) cs).heap[D.bo]? := Below.heap_setCell _ ⟨D.bl, i, none⟩ _ D.bo h.ne3
 have e4 : (w.drew.setCells D.bo (i * 64) cs).heap[D.bl]? = w.heap[D.bl]? := heap_setCells D.bo cs _ w.drew D.bl (Ne.symm h.ne3)
 obtain ⟨calls, hc⟩ := h.cells
 have hbl : ∀ j, j < n → ∃ b, (w.drew.setCells D.bo (i * 64) cs).cell? ⟨D.bl, j, none⟩ = some (.bool b) := fun j hj => by rw [World.cell?_of_block (a := ⟨D.bl, j, none⟩) (w := w) e4]; exact h.bl j hj
 have htl : (w.drew.setCells D.bo (i * 64) cs).there D.bl 0 n := there_of h.tl e4
 refine ⟨⟨calls, e1.trans hc⟩, fun j hj => rangeAt_of (h.now j hj) e2, h.len, there_of h.tn e2, there_of (World.there_setCells (w := w.drew) (by simpa using h.to) _ _ _) e3, ?_, ?_, h.n0, h.n1, h.ne1, h.ne2, h.ne3, h.ne4, h.ne5, h.ne6⟩
 ·intro j hj
  have h2 := htl j hj
  simp only [Nat.zero_add] at h2 ⊢
  obtain ⟨b, hb⟩ := hbl j hj
  by_cases hij : j = i
  ·subst hij; simp [go_sem, hb, h2.2]
  ·have e5 : ((w.drew.setCells D.bo (i * 64) cs).setCell ⟨D.bl, i, none⟩ (.bool true)).cell? ⟨D.bl, j, none⟩ = (w.drew.setCells D.bo (i * 64) cs).cell? ⟨D.bl, j, none⟩ := World.cell?_setCell_other _ _ _ _ (by simp <;> omega)
   rw [e5]; exact ⟨h2.1, by simp [go_sem, h2.2]⟩
 ·intro j hj
  obtain ⟨b, hb⟩ := hbl j hj
  by_cases hij : j = i
  ·subst hij; exact ⟨true, by simp [go_sem, hb]⟩
  ·exact ⟨b, by rw [World.cell?_setCell_other _ _ _ _ (by simp <;> omega)]; exact hb⟩
theorem DkI.setNow {w : World} {D : DkL} {n : Nat} {sec : Nat → Bs} (h : DkI w D n sec) {i : Nat} (hi : i < n) (b : Bs) (hb : b.length ≤ 64) : DkI (w.setCells D.bn (i * 64) (cB b)) D n (fun j => if j = i then setAt (sec i) 0 b else sec j) ∧ Kp (dkOwn D) w (w.setCells D.bn (i * 64) (cB b)) := by
 refine ⟨?_, (kp_setCells D.bn _ _ w).mono (by simp [dkOwn])⟩
 have e : ∀ k, k ≠ D.bn → (w.setCells D.bn (i * 64) (cB b)).heap[k]? = w.heap[k]? := heap_setCells D.bn _ _ w
 have e1 := e D.d h.ne4
 have e2 := e D.bo (Ne.symm h.ne1)
 have e3 := e D.bl (Ne.symm h.ne2)
 have hli := h.len i hi
 obtain ⟨calls, hc⟩ := h.cells
 refine ⟨⟨calls, e1.trans hc⟩, fun j hj => ?_, fun j hj => ?_, World.there_setCells h.tn _ _ _, there_of h.to e2, there_of h.tl e3, fun j hj => by rw [World.cell?_of_block (a := ⟨D.bl, j, none⟩) e3]; exact h.bl j hj, h.n0, h.n1, h.ne1, h.ne2, h.ne3, h.ne4, h.ne5, h.ne6⟩
 ·by_cases hij : j = i
  ·subst hij
   simp only [if_true]
   intro k v hk
   have hkl : k < 64 := by
    have := (List.getElem?_eq_some_iff.1 hk).1
    simpa [setAt_length (l := sec j) (i := 0) (b := b) (by omega), hli] using this
   by_cases hkb : k < b.length
   ·have h1 := World.rangeAt_setCells_same w D.bn (j * 64) (cB b) (fun q hq => by
     have := h.tn (j * 64 + q) (by simp at hq; omega)
     simpa using this)
    refine h1 k v ?_
    rw [← hk]
    simp [cB, setAt, hkb]
    rw [List.getElem?_append_left (by simpa using hkb)]
    simp [hkb]
   ·have e5 := World.cell?_setCells_out D.bn (cB b) (j * 64) w ⟨D.bn, j * 64 + k, none⟩ (fun _ _ => .inr (by simp; omega))
    rw [e5]
    refine h.now j hj k v ?_
    rw [← hk]
    simp [cB, setAt]
    rw [List.getElem?_append_right (by simp; omega)]
    simp
    congr 2
    omega
  ·simp only [hij, if_false]
   exact World.rangeAt_setCells_apart (h.now j hj) _ _ _ (.inr (by
    have := h.len j hj
    simp only [cB_length]
    rcases Nat.lt_or_gt_of_ne hij with h1 | h1
    ·left; omega
    ·right; omega))
 ·by_cases hij : j = i
  ·subst hij
   simp only [if_true]
   rw [setAt_length (by omega)]; exact hli
  ·simp only [hij, if_false]; exact h.len j hj
theorem DkI.count {w : World} {D : DkL} {n : Nat} {sec : Nat → Bs} (h : DkI w D n sec) (c : Int) : DkI (w.setCell ⟨D.d, 4, none⟩ (.int .i64 c)) D n sec ∧ Kp (dkOwn D) w (w.setCell ⟨D.d, 4, none⟩ (.int .i64 c)) := by
 refine ⟨?_, (Kp.refl _ w).setCell (.inl (by simp [dkOwn])) _⟩
 have e : ∀ k, k ≠ D.d → (w.setCell ⟨D.d, 4, none⟩ (.int .i64 c)).heap[k]? = w.heap[k]? := fun k hk => Below.heap_setCell w ⟨D.d, 4, none⟩ _ k hk
 have e2 := e D.bn (Ne.symm h.ne4)
 have e3 := e D.bo (Ne.symm h.ne5)
 have e4 := e D.bl (Ne.symm h.ne6)
 obtain ⟨calls, hc⟩ := h.cells
 exact ⟨⟨c, by have := hc.set_ 4 (.int .i64 c); simpa [dkCells] using this⟩, fun i hi => rangeAt_of (h.now i hi) e2, h.len, there_of h.tn e2, there_of h.to e3, there_of h.tl e4,
  fun i hi => by rw [World.cell?_of_block (a := ⟨D.bl, i, none⟩) e4]; exact h.bl i hi, h.n0, h.n1, h.ne1, h.ne2, h.ne3, h.ne4, h.ne5, h.ne6⟩
set_option maxHeartbeats 1000000 in
theorem disk_write {w : World} {D : DkL} {n : Nat} {sec : Nat → Bs} (h : DkI w D n sec) (i : Nat) (hi : i < n) (s : Bs) (hs : s.length ≤ 64) :
  Calls Tryz.prog 141 #[.pointer (some ⟨D.d, 0, none⟩), .int .i64 i, .string (S s)] w fun e w' => e = .returned (.int .i64 0) ∧ DkI w' D n (fun j => if j = i then pad64 s else sec j) ∧ Kp (dkOwn D) w w' := by
 have hw := hid (disk_at h i hi)
 have HC := hid (fun (W : World) (sec' : Nat → Bs) (hW : DkI W D n sec') => disk_counts hW)
 obtain ⟨calls, hc⟩ := h.cells
 have h0 : w.cell? ⟨D.d, 0, none⟩ = some (.slice (some ⟨D.bn, 0, none⟩) n n) := by rw [hc.cell]; rfl
 have h1 : w.cell? ⟨D.d, 1, none⟩ = some (.slice (some ⟨D.bo, 0, none⟩) n n) := by rw [hc.cell]; rfl
 have h2 : w.cell? ⟨D.d, 2, none⟩ = some (.slice (some ⟨D.bl, 0, none⟩) n n) := by rw [hc.cell]; rfl
 have hn := h.n1
 obtain ⟨bv, hb⟩ := h.bl i hi
 have hi0 : (0 : Int) ≤ (i : Int) := by omega
 have hi1 : (i : Int) < (n : Int) := by omega
 have H := hid h
 clear h hc
 cases bv
 ·go_enter Tryz.func141, Tryz.ntmps141
  go_wp2_with (go_at_call 181; refine hw.out.mono ?_; rintro e w' ⟨rfl, rfl⟩)
  have hu := Tryz.underlying316
  have hr := H.out.now i hi
  have hl64 := H.out.len i hi
  have ht : w.there D.bo (i * 64) 64 := fun j hj => by have := H.out.to (i * 64 + j) (by omega); simpa using this
  have hbf : w.frozen? ⟨D.bl, i, none⟩ = false := by have := (H.out.tl i hi).2; simpa using this
  have ne1 := H.out.ne1
  have ne2 := H.out.ne2
  have ne3 := H.out.ne3
  have ne4 := H.out.ne4
  have ne5 := H.out.ne5
  have ne6 := H.out.ne6
  obtain ⟨cs, hcs⟩ : ∃ cs, cs = cB (sec i) := ⟨_, rfl⟩
  have hone := one_cB (sec i)
  have hcl : cs.length = 64 := by rw [hcs]; simpa using hl64
  have hsz : (Tryz.prog.info? 316).map (·.size) = some cs.length := by rw [size64, hcl]
  rw [← hcs] at hr hone
  have HCS := hid hcs
  clear hcs hl64
  have hb' := bOf_of hb
  clear hb
  have HS : Hid (WrS D n i cs w) := hid ⟨h0, h1, h2, hr, ht, hb', hbf⟩
  go_region_held3 (fun w' => w'.cell? ⟨D.d, 0, none⟩ = some (.slice (some ⟨D.bn, 0, none⟩) n n) ∧ w'.cell? ⟨D.d, 1, none⟩ = some (.slice (some ⟨D.bo, 0, none⟩) n n) ∧ w'.cell? ⟨D.d, 2, none⟩ = some (.slice (some ⟨D.bl, 0, none⟩) n n) ∧ w'.rangeAt D.bn (i * 64) cs ∧ w'.there D.bo (i * 64) 64 ∧ w'.cell? ⟨D.bl, i, none⟩ = some (.bool (bOf w' ⟨D.bl, i, none⟩)) ∧ w'.frozen? ⟨D.bl, i, none⟩ = false) (first | exact (show WrS D n i cs w.drew from HS.out) | exact (WrS.a HS.out ne1 ne3 ne5) | exact (WrS.b (WrS.a HS.out ne1 ne3 ne5) ne2 ne3 ne6)) (fail)
  obtain ⟨hI1, hk1⟩ := DkI.save H.out (i := i) cs
  generalize (w.drew.setCells D.bo (i * 64) cs).setCell ⟨D.bl, i, none⟩ (.bool true) = W1 at *
  have HI1 := hid hI1
  have HK1 := hid hk1
  obtain ⟨calls1, hc1⟩ := hI1.cells
  have g0 : W1.cell? ⟨D.d, 0, none⟩ = some (.slice (some ⟨D.bn, 0, none⟩) n n) := by rw [hc1.cell]; rfl
  clear hI1 hk1 hc1
  clear h0 h1 h2 hr ht hb' hbf HS
  go_wp2_with (with_reducible refine stopStore 316 rfl ?_)
  with_reducible refine goOn ?_
  refine wpList_store_mid rfl _ _ _ rfl D.bn (i * 64) (Array.replicate 64 (.int .u8 0)) rfl rfl ?_ size64 zeros64c ?_
  ·intro j hj; have := HI1.out.tn (i * 64 + j) (by simp at hj; omega); simpa using this
  rw [zeros64]
  obtain ⟨hI2, hk2⟩ := DkI.setNow HI1.out hi (List.replicate 64 0) (by simp)
  generalize W1.setCells D.bn (i * 64) (cB (List.replicate 64 0)) = W2 at *
  have HI2 := hid hI2
  have HK2 := hid (HK1.out.trans hk2)
  obtain ⟨calls2, hc2⟩ := hI2.cells
  have g0' : W2.cell? ⟨D.d, 0, none⟩ = some (.slice (some ⟨D.bn, 0, none⟩) n n) := by rw [hc2.cell]; rfl
  clear hI2 hk2 hc2 g0
  go_wp2_with (with_reducible refine stopAt .copy rfl ?_)
  with_reducible refine goOn ?_
  refine wpL_copy_mid rfl _ _ _ rfl Tryz.underlying129 D.bn (i * 64) 64 64 s rfl rfl ?_ hs ?_
  ·intro j hj; have := HI2.out.tn (i * 64 + j) (by omega); simpa using this
  obtain ⟨hI3, hk3⟩ := DkI.setNow HI2.out hi s hs
  generalize W2.setCells D.bn (i * 64) (cB s) = W3 at *
  have HI3 := hid hI3
  have HK3 := hid (HK2.out.trans hk3)
  clear hI3 hk3 g0'
  go_wp2_with (go_at_call 182; refine (HC.out _ _ HI3.out).mono ?_; rintro e W4 ⟨rfl, calls', rfl⟩)
  go_ret
  obtain ⟨hI4, hk4⟩ := DkI.count HI3.out calls'
  refine ⟨rfl, ?_, HK3.out.trans hk4⟩
  refine hI4.congr fun j _ => ?_
  by_cases hij : j = i
  ·simp only [hij, if_true]; exact set_zero (H.out.len i hi)
  ·simp only [hij, if_false]
 ·have HI1 := H
  have HK1 := hid (Kp.refl (dkOwn D) w)
  clear h1
  go_enter Tryz.func141, Tryz.ntmps141
  go_wp2_with (first | (go_at_call 181; refine hw.out.mono ?_; rintro e w' ⟨rfl, rfl⟩) | (with_reducible refine stopStore 316 rfl ?_))
  clear h0 h2 hb
  with_reducible refine goOn ?_
  refine wpList_store_mid rfl _ _ _ rfl D.bn (i * 64) (Array.replicate 64 (.int .u8 0)) rfl rfl ?_ size64 zeros64c ?_
  ·intro j hj; have := HI1.out.tn (i * 64 + j) (by simp at hj; omega); simpa using this
  rw [zeros64]
  obtain ⟨hI2, hk2⟩ := DkI.setNow HI1.out hi (List.replicate 64 0) (by simp)
  generalize w.setCells D.bn (i * 64) (cB (List.replicate 64 0)) = W2 at *
  have HI2 := hid hI2
  have HK2 := hid (HK1.out.trans hk2)
  obtain ⟨calls2, hc2⟩ := hI2.cells
  have g0' : W2.cell? ⟨D.d, 0, none⟩ = some (.slice (some ⟨D.bn, 0, none⟩) n n) := by rw [hc2.cell]; rfl
  clear hI2 hk2 hc2
  go_wp2_with (with_reducible refine stopAt .copy rfl ?_)
  with_reducible refine goOn ?_
  refine wpL_copy_mid rfl _ _ _ rfl Tryz.underlying129 D.bn (i * 64) 64 64 s rfl rfl ?_ hs ?_
  ·intro j hj; have := HI2.out.tn (i * 64 + j) (by omega); simpa using this
  obtain ⟨hI3, hk3⟩ := DkI.setNow HI2.out hi s hs
  generalize W2.setCells D.bn (i * 64) (cB s) = W3 at *
  have HI3 := hid hI3
  have HK3 := hid (HK2.out.trans hk3)
  clear hI3 hk3 g0'
  go_wp2_with (go_at_call 182; refine (HC.out _ _ HI3.out).mono ?_; rintro e W4 ⟨rfl, calls', rfl⟩)
  go_ret
  obtain ⟨hI4, hk4⟩ := DkI.count HI3.out calls'
  refine ⟨rfl, ?_, HK3.out.trans hk4⟩
  refine hI4.congr fun j _ => ?_
  by_cases hij : j = i
  ·simp only [hij, if_true]; exact set_zero (H.out.len i hi)
  ·simp only [hij, if_false]
end
section
open Go.RowKit Go.Lib
structure Bk (w : World) (g : Nat) (l : Bs) : Prop where
 lt : g < w.heap.size
 cell : ∀ i, i < l.length → w.cell? ⟨g, i, none⟩ = some (.int .u8 ((l.getD i 0).toNat : Int))
 fr : ∀ i, i < l.length → w.frozen? ⟨g, i, none⟩ = false
section
variable {w w' : World} {g : Nat} {l : Bs}
theorem Bk.of_blk {T : TypeId} (h : Blk w g T (bA l)) : Bk w g l :=
 ⟨h.lt, fun i hi => by rw [h.cell, bA_get _ _ hi], fun i _ => h.frozen i⟩
theorem Bk.of_block (h : Bk w g l) (e : w'.heap[g]? = w.heap[g]?) : Bk w' g l :=
 ⟨lt_of_block (e.trans (Array.getElem?_eq_getElem h.lt)), fun i hi => (World.cell?_of_block (a := ⟨g, i, none⟩) e).trans (h.cell i hi), fun i hi => (World.frozen?_of_block (a := ⟨g, i, none⟩) e).trans (h.fr i hi)⟩
theorem Bk.below {B : Nat} (h : Bk w g l) (hb : Below B w w') (hg : g < B) : Bk w' g l := h.of_block (hb.block g hg)
theorem Bk.kp {O : List Nat} (h : Bk w g l) (hk : Kp O w w') (ho : g ∉ O) : Bk w' g l := h.of_block (hk.block g h.lt ho)
theorem Bk.alloc (h : Bk w g l) (o : Obj) : Bk (w.alloc o) g l := h.of_block (Below.heap_alloc w o g h.lt)
theorem Bk.set_ (h : Bk w g l) {i : Nat} (hi : i < l.length) (b : UInt8) : Bk (w.setCell ⟨g, i, none⟩ (.int .u8 (b.toNat : Int))) g (l.set i b) := by
 refine ⟨by simpa [World.setCell] using h.lt, fun j hj => ?_, fun j hj => ?_⟩
 ·by_cases hij : i = j
  ·subst hij
   rw [World.cell?_setCell_same _ _ _ (h.cell i hi)]
   simp [List.getD, hi]
  ·rw [World.cell?_setCell_other _ _ _ _ (by simp [hij, Ne.symm hij]), h.cell j (by simpa using hj)]
   simp [List.getD, List.getElem?_set, hij]
 ·rw [World.frozen?_setCell]; exact h.fr j (by simpa using hj)
theorem setAt_getD (l b : Bs) (i j : Nat) (h : i + b.length ≤ l.length) (hj : j < l.length) : (setAt l i b).getD j 0 = if i ≤ j ∧ j < i + b.length then b.getD (j - i) 0 else l.getD j 0 := by
 unfold setAt
 simp only [List.getD]
 rcases Nat.lt_or_ge j i with h1 | h1
 ·rw [if_neg (by omega), List.append_assoc, List.getElem?_append_left (by simp; omega), List.getElem?_take, if_pos h1]
 ·rw [List.append_assoc, List.getElem?_append_right (by simp; omega)]
  simp only [List.length_take, Nat.min_eq_left (show i ≤ l.length by omega)]
  by_cases h2 : j < i + b.length
  ·rw [if_pos ⟨h1, h2⟩, List.getElem?_append_left (by omega)]
  ·rw [if_neg (by omega), List.getElem?_append_right (by omega), List.getElem?_drop]
   congr 2
   omega
theorem Bk.setCells (h : Bk w g l) {i : Nat} {b : Bs} (hi : i + b.length ≤ l.length) : Bk (w.setCells g i (cB b)) g (setAt l i b) := by
 have hl := setAt_length hi
 have hsome : ∀ j, j < (cB b).length → (w.cell? ⟨g, i + j, none⟩).isSome = true := fun j hj => by rw [h.cell (i + j) (by simp [cB] at hj; omega)]; rfl
 refine ⟨Nat.lt_of_lt_of_le h.lt (kp_setCells g (cB b) i w).size, fun j hj => ?_, fun j hj => ?_⟩
 ·rw [hl] at hj
  rw [setAt_getD l b i j hi hj]
  by_cases h1 : i ≤ j ∧ j < i + b.length
  ·rw [if_pos h1]
   have := World.cell?_setCells_in g (cB b) i w hsome (j - i) (by simp [cB]; omega)
   rw [show i + (j - i) = j by omega] at this
   rw [this]
   have h2 : j - i < b.length := by omega
   simp [cB, List.getD, h2]
  ·rw [if_neg h1, World.cell?_setCells_out g (cB b) i w _ (fun _ _ => by simp [cB]; omega)]
   exact h.cell j hj
 ·rw [hl] at hj
  rw [World.frozen?_setCells]; exact h.fr j hj
theorem bk_string (h : Bk w g l) {n c : Nat} (hn : n = l.length) : (convert 129 9 (.slice (some ⟨g, 0, none⟩) n c)).run Tryz.prog w = .ok (.string (S l)) w := by
 refine cells_string l (fun j v hj => ?_) hn.symm
 rw [Addr.add_mid, Nat.zero_add]
 have hj2 : j < l.length := by have := (List.getElem?_eq_some_iff.1 hj).1; simpa [cB] using this
 rw [h.cell j hj2, ← hj]
 simp [cB, List.getD, hj2]
theorem bytes_of (w : World) (l : Bs) : ∃ c W, (convert 9 129 (.string (S l))).run Tryz.prog w = .ok (.slice (some ⟨w.heap.size, 0, none⟩) l.length c) W ∧ Bk W w.heap.size l ∧ Below w.heap.size w W ∧ l.length ≤ c := by
 have h := Go.Lib.run_convert_string_bytes (P := Tryz.prog) w 9 129 5 (S l) Tryz.underlying9 Tryz.underlying129 Tryz.underlying5
 rw [S_size] at h
 refine ⟨_, _, h, ⟨by rw [bytesWorld_size]; omega, fun i hi => ?_, fun i hi => ?_⟩, Go.Joins.below_bytesWorld _ _ _ _ (Nat.le_refl _), ?_⟩
 ·rw [bytesWorld_cell w 5 (S l) i (by rw [S_size]; exact hi)]
  rw [show (S l).data.toList = l by simp [S]]
 ·unfold World.frozen?
  simp only [bytesWorld_at_new]
  have : l.length ≤ (bytesCells w 5 (S l)).size := by
   have h1 : (S l).data.size = l.length := by simp [S]
   unfold bytesCells
   rw [Array.size_append, Array.size_map, h1]
   omega
  simp only [Bool.and_eq_false_iff, decide_eq_false_iff_not]
  left; omega
 ·exact grownCap_ge _ _ _ _
end
section
variable {w : World} {ops : Array Oper} {rest : List Oper} {o : Oper} {a : Act} {Q : Exit → Act → World → Prop}
theorem wpL_copyK (hgd : o.guard = none) (d s : Operand) (dT : TypeId) (ho : o.op = .call { callee := .builtin .copy, args := #[d, s], argTypes := #[dT, 9] }) (hu : Tryz.prog.underlying dT = some (.slice 5))
  (g i dLen dCap : Nat) (b cur : Bs) (hd : a.eval d = .slice (some ⟨g, i, none⟩) dLen dCap) (hs : a.eval s = .string (S b)) (hb : Bk w g cur) (hle : b.length ≤ dLen) (hfit : i + b.length ≤ cur.length)
  (h : ∀ W, Bk W g (setAt cur i b) → Kp [g] w W → wpList Tryz.prog ops Q rest (a.put o.dst (goInt b.length)) W) : wpList Tryz.prog ops Q (o :: rest) a w := by
 refine wpList_plain hgd fun K hK => ?_
 have hst := run_storeCells_cells (P := Tryz.prog) g i (cB b) 0 w (fun j hj => by rw [Nat.add_zero, hb.cell (i + j) (by simp [cB] at hj; omega)]; rfl) (fun j hj => by rw [Nat.add_zero]; exact hb.fr (i + j) (by simp [cB] at hj; omega)) (one_cB b)
 rw [Nat.add_zero] at hst
 have hmin : Nat.min (S b).size dLen = b.length := by rw [S_size]; exact Nat.min_eq_left hle
 have e : List.take b.length (List.map (fun b : UInt8 => Value.int IntKind.u8 (b.toNat : Int)) (S b).data.toList) = cB b := by
  rw [List.take_of_length_le (by simp [S])]
  rfl
 have hrun : (Builtin.copy_ #[dT, 9] o.type #[.slice (some ⟨g, i, none⟩) dLen dCap, .string (S b)]).run Tryz.prog w = .ok (goInt b.length) (w.setCells g i (cB b)) := by
  cases hq : Tryz.prog.info? 5 with
  | none => have := inf5s; rw [hq] at this; simp at this
  | some i0 =>
   simp [Builtin.copy_, run_underlying hu, Builtin.lenOf, Builtin.firstCells, sizeOf, typeInfo, hq, hmin]
   rw [e, hst]
   simp [Result.andThen]
 unfold Oper.wp
 simp [execOp, ho, resolve, invoke, builtin, hd, hs, hrun, Result.andThen]
 exact hK _ _ (h _ (hb.setCells hfit) (kp_setCells g _ i w))
end
end
end Go.Proofs.YtnnghcooidjlhaaGreat
