/- Parts of the proof: Da Ph Pi. -/
import Derived.Deep.QuietTactic
import Derived.BigQuiet
import Derived.Deep.RegionHeld3
import Derived.Test.YtnnghcooidjlhaaGreatA02
set_option linter.all false
section
set_option linter.unusedSimpArgs false
set_option maxRecDepth 100000
namespace Go.Proofs.YtnnghcooidjlhaaGreat
open Go.RowKit
theorem quiet_left {P : Program} {f : FuncId} {args : Array Value} {w : World} {n : Nat} {v : Value}
    (h : Calls P f args (w.drewN n) fun e w' => e = .returned v ∧ w.drewN n = w') : Calls P f args (w.drewN n) fun e w' => e = .returned v ∧ ∃ m, w' = w.drewN m :=
  h.mono fun _ _ ⟨he, hm⟩ => ⟨he, n, hm.symm⟩
structure DkL where
  d : Nat
  bn : Nat
  bo : Nat
  bl : Nat
def dkCells (D : DkL) (n : Nat) (calls : Int) : Array Value :=
  #[.slice (some ⟨D.bn, 0, none⟩) n n, .slice (some ⟨D.bo, 0, none⟩) n n, .slice (some ⟨D.bl, 0, none⟩) n n, .int .i64 0, .int .i64 calls, .bool false]
structure DkI (w : World) (D : DkL) (n : Nat) (sec : Nat → Bs) : Prop where
  cells : ∃ calls, Blk w D.d 253 (dkCells D n calls)
  now : ∀ i, i < n → w.rangeAt D.bn (i * 64) (cB (sec i))
  len : ∀ i, i < n → (sec i).length = 64
  tn : w.there D.bn 0 (n * 64)
  to : w.there D.bo 0 (n * 64)
  tl : w.there D.bl 0 n
  bl : ∀ i, i < n → ∃ b, w.cell? ⟨D.bl, i, none⟩ = some (.bool b)
  n0 : 0 < n
  n1 : n ≤ 4096
  ne1 : D.bn ≠ D.bo
  ne2 : D.bn ≠ D.bl
  ne3 : D.bo ≠ D.bl
  ne4 : D.d ≠ D.bn
  ne5 : D.d ≠ D.bo
  ne6 : D.d ≠ D.bl
theorem disk_works {w : World} {D : DkL} {n : Nat} {sec : Nat → Bs} (h : DkI w D n sec) :
    Calls Tryz.prog 183 #[.pointer (some ⟨D.d, 0, none⟩)] w fun e w' => e = .returned (.int .i64 0) ∧ w = w' := by
  obtain ⟨calls, hc⟩ := h.cells
  have h5 : w.cell? ⟨D.d, 5, none⟩ = some (.bool false) := by rw [hc.cell]; rfl
  clear h hc
  go_enter Tryz.func183, Tryz.ntmps183
  go_wp2
  go_ret
  exact ⟨rfl, rfl⟩
theorem disk_at {w : World} {D : DkL} {n : Nat} {sec : Nat → Bs} (h : DkI w D n sec) (i : Nat) (hi : i < n) :
    Calls Tryz.prog 181 #[.pointer (some ⟨D.d, 0, none⟩), .int .i64 i] w fun e w' => e = .returned (.int .i64 0) ∧ w = w' := by
  have hw := hid (disk_works h)
  obtain ⟨calls, hc⟩ := h.cells
  have h0 : w.cell? ⟨D.d, 0, none⟩ = some (.slice (some ⟨D.bn, 0, none⟩) n n) := by rw [hc.cell]; rfl
  have hn := h.n1
  clear h hc
  go_enter Tryz.func181, Tryz.ntmps181
  go_wp2_with (go_at_call 183; refine hw.out.mono ?_; rintro e w' ⟨rfl, rfl⟩)
  go_ret
  exact ⟨rfl, rfl⟩
theorem disk_sectors {w : World} {D : DkL} {n : Nat} {sec : Nat → Bs} (h : DkI w D n sec) :
    Calls Tryz.prog 208 #[.pointer (some ⟨D.d, 0, none⟩)] w fun e w' => e = .returned (.int .i64 n) ∧ w = w' := by
  obtain ⟨calls, hc⟩ := h.cells
  have h0 : w.cell? ⟨D.d, 0, none⟩ = some (.slice (some ⟨D.bn, 0, none⟩) n n) := by rw [hc.cell]; rfl
  have hn := h.n1
  clear h hc
  go_enter Tryz.func208, Tryz.ntmps208
  go_wp2
  go_ret
  exact ⟨rfl, rfl⟩
theorem disk_counts {w : World} {D : DkL} {n : Nat} {sec : Nat → Bs} (h : DkI w D n sec) :
    Calls Tryz.prog 182 #[.pointer (some ⟨D.d, 0, none⟩)] w fun e w' => e = .returned (.int .i64 0) ∧ ∃ calls', w' = w.setCell ⟨D.d, 4, none⟩ (.int .i64 calls') := by
  obtain ⟨calls, hc⟩ := h.cells
  have h3 : w.cell? ⟨D.d, 3, none⟩ = some (.int .i64 0) := by rw [hc.cell]; rfl
  have h4 : w.cell? ⟨D.d, 4, none⟩ = some (.int .i64 calls) := by rw [hc.cell]; rfl
  have f4 := hc.frozen 4
  clear h hc
  go_enter Tryz.func182, Tryz.ntmps182
  go_wp2
  go_ret
  exact ⟨rfl, _, rfl⟩
theorem disk_read {w : World} {D : DkL} {n : Nat} {sec : Nat → Bs} (h : DkI w D n sec) (i : Nat) (hi : i < n) :
    Calls Tryz.prog 290 #[.pointer (some ⟨D.d, 0, none⟩), .int .i64 i] w fun e w' => e = .returned (.tuple #[.string (S (sec i)), .int .i64 0]) ∧ w = w' := by
  have hw := hid (disk_at h i hi)
  obtain ⟨calls, hc⟩ := h.cells
  have h0 : w.cell? ⟨D.d, 0, none⟩ = some (.slice (some ⟨D.bn, 0, none⟩) n n) := by rw [hc.cell]; rfl
  have hn := h.n1
  have hr := h.now i hi
  have hcv := cells_string (ad := ⟨D.bn, i * 64, none⟩) (c := 64) (sec i) (fun j v hj => by rw [Addr.add_mid]; exact hr j v hj) (h.len i hi)
  clear h hc hr
  go_enter Tryz.func290, Tryz.ntmps290
  go_wp2_with (go_at_call 181; refine hw.out.mono ?_; rintro e w' ⟨rfl, rfl⟩)
  go_ret2
  exact ⟨rfl, rfl⟩
def dkOwn (D : DkL) : List Nat := [D.d, D.bn, D.bo, D.bl]
theorem rangeAt_of {w w' : World} {b o : Nat} {cs : List Value} (h : w.rangeAt b o cs) (e : w'.heap[b]? = w.heap[b]?) : w'.rangeAt b o cs := fun j v hj => by
  rw [World.cell?_of_block (a := ⟨b, o + j, none⟩) e]; exact h j v hj
theorem there_of {w w' : World} {b o n : Nat} (h : w.there b o n) (e : w'.heap[b]? = w.heap[b]?) : w'.there b o n := fun j hj => by
  rw [World.cell?_of_block (a := ⟨b, o + j, none⟩) e, World.frozen?_of_block (a := ⟨b, o + j, none⟩) e]; exact h j hj
theorem there_lt {w : World} {b o n : Nat} (h : w.there b o n) (hn : 0 < n) : b < w.heap.size := by
  have := (h 0 hn).1
  obtain ⟨v, hv⟩ := Option.isSome_iff_exists.1 this
  exact block_lt_of_cell hv
theorem DkI.lts {w : World} {D : DkL} {n : Nat} {sec : Nat → Bs} (h : DkI w D n sec) : D.d < w.heap.size ∧ D.bn < w.heap.size ∧ D.bo < w.heap.size ∧ D.bl < w.heap.size := by
  obtain ⟨_, hc⟩ := h.cells
  exact ⟨hc.lt, there_lt h.tn (by have := h.n0; omega), there_lt h.to (by have := h.n0; omega), there_lt h.tl h.n0⟩
theorem DkI.of_blocks {w w' : World} {D : DkL} {n : Nat} {sec : Nat → Bs} (h : DkI w D n sec) (e : ∀ b ∈ dkOwn D, w'.heap[b]? = w.heap[b]?) : DkI w' D n sec := by
  have e1 := e D.d (by simp [dkOwn])
  have e2 := e D.bn (by simp [dkOwn])
  have e3 := e D.bo (by simp [dkOwn])
  have e4 := e D.bl (by simp [dkOwn])
  obtain ⟨calls, hc⟩ := h.cells
  exact ⟨⟨calls, e1.trans hc⟩, fun i hi => rangeAt_of (h.now i hi) e2, h.len, there_of h.tn e2, there_of h.to e3, there_of h.tl e4,
    fun i hi => by rw [World.cell?_of_block (a := ⟨D.bl, i, none⟩) e4]; exact h.bl i hi, h.n0, h.n1, h.ne1, h.ne2, h.ne3, h.ne4, h.ne5, h.ne6⟩
theorem DkI.kp {w w' : World} {D : DkL} {n : Nat} {sec : Nat → Bs} {O : List Nat} (h : DkI w D n sec) (hk : Kp O w w') (ho : ∀ b ∈ dkOwn D, b ∉ O) : DkI w' D n sec := by
  have hl := h.lts
  refine h.of_blocks fun b hb => hk.block b ?_ (ho b hb)
  simp [dkOwn] at hb
  rcases hb with rfl | rfl | rfl | rfl <;> omega
theorem DkI.below {w w' : World} {D : DkL} {n : Nat} {sec : Nat → Bs} (h : DkI w D n sec) (hb : Below w.heap.size w w') : DkI w' D n sec :=
  h.kp (O := []) (Kp.of_below hb) (by simp)
def pad64 (s : Bs) : Bs := s ++ List.replicate (64 - s.length) 0
theorem pad64_length {s : Bs} (h : s.length ≤ 64) : (pad64 s).length = 64 := by simp [pad64]; omega
theorem size64 : (Tryz.prog.info? 316).map (·.size) = some 64 := by kernel_rfl
theorem cell_setCells_ne {w : World} {b o b' j : Nat} {vs : List Value} {x : Option Value} (h : b' ≠ b) (hx : w.cell? ⟨b', j, none⟩ = x) : (w.setCells b o vs).cell? ⟨b', j, none⟩ = x := by
  rw [World.cell?_setCells_out b vs o w ⟨b', j, none⟩ (fun e => absurd e h)]; exact hx
theorem frozen_setCells {w : World} {b o b' j : Nat} {vs : List Value} {x : Bool} (hx : w.frozen? ⟨b', j, none⟩ = x) : (w.setCells b o vs).frozen? ⟨b', j, none⟩ = x := by
  rw [World.frozen?_setCells]; exact hx
theorem run_copy_mid {w : World} (dT ty : TypeId) (hu : Tryz.prog.underlying dT = some (.slice 5)) (g i dLen dCap : Nat) (s : Bs) (ht : w.there g i s.length) (hle : s.length ≤ dLen) :
    (Builtin.copy_ #[dT, 9] ty #[.slice (some ⟨g, i, none⟩) dLen dCap, .string (S s)]).run Tryz.prog w = .ok (goInt s.length) (w.setCells g i (cB s)) := by
  have hst := run_storeCells_cells (P := Tryz.prog) g i (cB s) 0 w (fun j hj => by simpa using (ht j (by simpa using hj)).1) (fun j hj => by simpa using (ht j (by simpa using hj)).2) (one_cB s)
  simp only [Nat.add_zero] at hst
  have hmin : Nat.min (S s).size dLen = s.length := by rw [S_size]; exact Nat.min_eq_left hle
  have e : List.take s.length (List.map (fun b : UInt8 => Value.int IntKind.u8 (b.toNat : Int)) (S s).data.toList) = cB s := by
    rw [List.take_of_length_le (by simp [S])]
    rfl
  cases hq : Tryz.prog.info? 5 with
  | none => have := inf5s; rw [hq] at this; simp at this
  | some i0 =>
    simp [Builtin.copy_, run_underlying hu, Builtin.lenOf, Builtin.firstCells, sizeOf, typeInfo, hq, hmin]
    rw [e, hst]
    simp [Result.andThen]
theorem wpL_copy_mid {w : World} {ops : Array Oper} {rest : List Oper} {o : Oper} {a : Act} {Q : Exit → Act → World → Prop} (hgd : o.guard = none) (d s : Operand) (dT : TypeId) (ho : o.op = .call { callee := .builtin .copy, args := #[d, s], argTypes := #[dT, 9] }) (hu : Tryz.prog.underlying dT = some (.slice 5))
    (g i dLen dCap : Nat) (b : Bs) (hd : a.eval d = .slice (some ⟨g, i, none⟩) dLen dCap) (hs : a.eval s = .string (S b)) (ht : w.there g i b.length) (hle : b.length ≤ dLen)
    (h : wpList Tryz.prog ops Q rest (a.put o.dst (goInt b.length)) (w.setCells g i (cB b))) : wpList Tryz.prog ops Q (o :: rest) a w := by
  refine wpList_plain hgd fun K hK => ?_
  have hrun := run_copy_mid (w := w) dT o.type hu g i dLen dCap b ht hle
  unfold Oper.wp
  simp [execOp, ho, resolve, invoke, builtin, hd, hs, hrun, Result.andThen]
  exact hK _ _ h
theorem zeros64c : ((Array.replicate 64 (Value.int .u8 0)).all fun x => x.oneCell') = true := by decide +kernel
theorem zeros64 : (Array.replicate 64 (Value.int .u8 0)).toList = cB (List.replicate 64 0) := by simp [cB]
theorem DkI.congr {w : World} {D : DkL} {n : Nat} {sec sec' : Nat → Bs} (h : DkI w D n sec) (e : ∀ j, j < n → sec j = sec' j) : DkI w D n sec' :=
  ⟨h.cells, fun i hi => by rw [← e i hi]; exact h.now i hi, fun i hi => by rw [← e i hi]; exact h.len i hi, h.tn, h.to, h.tl, h.bl, h.n0, h.n1, h.ne1, h.ne2, h.ne3, h.ne4, h.ne5, h.ne6⟩
theorem set_zero_n {l s : Bs} {n : Nat} (h : l.length = n) : setAt (setAt l 0 (List.replicate n 0)) 0 s = s ++ List.replicate (n - s.length) 0 := by
  have e1 : setAt l 0 (List.replicate n 0) = List.replicate n 0 := by simp [setAt, h]
  rw [e1]
  simp [setAt, List.drop_replicate]
theorem set_zero {l s : Bs} (h : l.length = 64) : setAt (setAt l 0 (List.replicate 64 0)) 0 s = pad64 s := set_zero_n h
def bOf (w : World) (a : Addr) : Bool := match w.cell? a with | some (.bool b) => b | _ => false
theorem bOf_of {w : World} {a : Addr} {b : Bool} (h : w.cell? a = some (.bool b)) : w.cell? a = some (.bool (bOf w a)) := by simp [bOf, h]
def WrS (D : DkL) (n i : Nat) (cs : List Value) (w' : World) : Prop :=
  w'.cell? ⟨D.d, 0, none⟩ = some (.slice (some ⟨D.bn, 0, none⟩) n n) ∧ w'.cell? ⟨D.d, 1, none⟩ = some (.slice (some ⟨D.bo, 0, none⟩) n n) ∧ w'.cell? ⟨D.d, 2, none⟩ = some (.slice (some ⟨D.bl, 0, none⟩) n n) ∧ w'.rangeAt D.bn (i * 64) cs ∧ w'.there D.bo (i * 64) 64 ∧ w'.cell? ⟨D.bl, i, none⟩ = some (.bool (bOf w' ⟨D.bl, i, none⟩)) ∧ w'.frozen? ⟨D.bl, i, none⟩ = false
theorem WrS.a {D : DkL} {n i : Nat} {cs : List Value} {w : World} (h : WrS D n i cs w) (ne1 : D.bn ≠ D.bo) (ne3 : D.bo ≠ D.bl) (ne5 : D.d ≠ D.bo) : WrS D n i cs (w.drew.setCells D.bo (i * 64) cs) := by
  obtain ⟨h0, h1, h2, h3, h4, h5, h6⟩ := h
  exact ⟨cell_setCells_ne ne5 h0, cell_setCells_ne ne5 h1, cell_setCells_ne ne5 h2, World.rangeAt_setCells_apart (by simpa using h3) _ _ _ (.inl ne1), World.there_setCells (by simpa using h4) _ _ _, bOf_of (cell_setCells_ne (w := w.drew) (Ne.symm ne3) h5), frozen_setCells h6⟩
theorem WrS.b {D : DkL} {n i : Nat} {cs : List Value} {w : World} (h : WrS D n i cs w) (ne2 : D.bn ≠ D.bl) (ne3 : D.bo ≠ D.bl) (ne6 : D.d ≠ D.bl) : WrS D n i cs (w.setCell ⟨D.bl, i, none⟩ (.bool true)) := by
  obtain ⟨h0, h1, h2, h3, h4, h5, h6⟩ := h
  have e1 := Below.heap_setCell w ⟨D.bl, i, none⟩ (.bool true) D.d ne6
  have e2 := Below.heap_setCell w ⟨D.bl, i, none⟩ (.bool true) D.bn ne2
  have e3 := Below.heap_setCell w ⟨D.bl, i, none⟩ (.bool true) D.bo ne3
  exact ⟨(World.cell?_of_block e1).trans h0, (World.cell?_of_block e1).trans h1, (World.cell?_of_block e1).trans h2, rangeAt_of h3 e2, there_of h4 e3, bOf_of (b := true) (by simp [go_sem, h5]), by simp [go_sem, h6]⟩
theorem heap_setCells (b : Nat) : ∀ (vs : List Value) (o : Nat) (w : World) (k : Nat), k ≠ b → (w.setCells b o vs).heap[k]? = w.heap[k]?
  | [], _, _, _, _ => rfl
  | v :: vs, o, w, k, hk => by
    show ((w.setCell ⟨b, o, none⟩ v).setCells b (o + 1) vs).heap[k]? = _
    rw [heap_setCells b vs (o + 1) _ k hk]
    exact Below.heap_setCell w ⟨b, o, none⟩ v k hk
theorem size_setCells (b : Nat) : ∀ (vs : List Value) (o : Nat) (w : World), (w.setCells b o vs).heap.size = w.heap.size
  | [], _, _ => rfl
  | v :: vs, o, w => by
    show ((w.setCell ⟨b, o, none⟩ v).setCells b (o + 1) vs).heap.size = _
    rw [size_setCells b vs (o + 1) _]
    simp [World.setCell]
theorem kp_setCells (b : Nat) : ∀ (vs : List Value) (o : Nat) (w : World), Kp [b] w (w.setCells b o vs)
  | [], _, w => Kp.refl _ _
  | v :: vs, o, w => by
    show Kp [b] w ((w.setCell ⟨b, o, none⟩ v).setCells b (o + 1) vs)
    exact ((Kp.refl [b] w).setCell (p := ⟨b, o, none⟩) (.inl (by simp)) v).trans (kp_setCells b vs (o + 1) _)
theorem DkI.save {w : World} {D : DkL} {n : Nat} {sec : Nat → Bs} (h : DkI w D n sec) {i : Nat} (cs : List Value) : DkI ((w.drew.setCells D.bo (i * 64) cs).setCell ⟨D.bl, i, none⟩ (.bool true)) D n sec ∧ Kp (dkOwn D) w ((w.drew.setCells D.bo (i * 64) cs).setCell ⟨D.bl, i, none⟩ (.bool true)) := by
  have hk : Kp (dkOwn D) w (w.drew.setCells D.bo (i * 64) cs) := (Kp.refl _ w).drew.trans ((kp_setCells D.bo cs (i * 64) w.drew).mono (by simp [dkOwn]))
  refine ⟨?_, hk.setCell (.inl (by simp [dkOwn])) _⟩
  have e : ∀ k, k ≠ D.bo → k ≠ D.bl → ((w.drew.setCells D.bo (i * 64) cs).setCell ⟨D.bl, i, none⟩ (.bool true)).heap[k]? = w.heap[k]? := fun k h1 h2 => by
    rw [Below.heap_setCell _ ⟨D.bl, i, none⟩ _ k h2, heap_setCells D.bo cs _ _ k h1]; rfl
  have e1 := e D.d h.ne5 h.ne6
  have e2 := e D.bn h.ne1 h.ne2
  have e3 : ((w.drew.setCells D.bo (i * 64) cs).setCell ⟨D.bl, i, none⟩ (.bool true)).heap[D.bo]? = (w.drew.setCells D.bo (i * 64) cs).heap[D.bo]? := Below.heap_setCell _ ⟨D.bl, i, none⟩ _ D.bo h.ne3
  have e4 : (w.drew.setCells D.bo (i * 64) cs).heap[D.bl]? = w.heap[D.bl]? := heap_setCells D.bo cs _ w.drew D.bl (Ne.symm h.ne3)
  obtain ⟨calls, hc⟩ := h.cells
  have hbl : ∀ j, j < n → ∃ b, (w.drew.setCells D.bo (i * 64) cs).cell? ⟨D.bl, j, none⟩ = some (.bool b) := fun j hj => by rw [World.cell?_of_block (a := ⟨D.bl, j, none⟩) (w := w) e4]; exact h.bl j hj
  have htl : (w.drew.setCells D.bo (i * 64) cs).there D.bl 0 n := there_of h.tl e4
  refine ⟨⟨calls, e1.trans hc⟩, fun j hj => rangeAt_of (h.now j hj) e2, h.len, there_of h.tn e2, there_of (World.there_setCells (w := w.drew) (by simpa using h.to) _ _ _) e3, ?_, ?_, h.n0, h.n1, h.ne1, h.ne2, h.ne3, h.ne4, h.ne5, h.ne6⟩
  · intro j hj
    have h2 := htl j hj
    simp only [Nat.zero_add] at h2 ⊢
    obtain ⟨b, hb⟩ := hbl j hj
    by_cases hij : j = i
    · subst hij; simp [go_sem, hb, h2.2]
    · have e5 : ((w.drew.setCells D.bo (i * 64) cs).setCell ⟨D.bl, i, none⟩ (.bool true)).cell? ⟨D.bl, j, none⟩ = (w.drew.setCells D.bo (i * 64) cs).cell? ⟨D.bl, j, none⟩ := World.cell?_setCell_other _ _ _ _ (by simp <;> omega)
      rw [e5]; exact ⟨h2.1, by simp [go_sem, h2.2]⟩
  · intro j hj
    obtain ⟨b, hb⟩ := hbl j hj
    by_cases hij : j = i
    · subst hij; exact ⟨true, by simp [go_sem, hb]⟩
    · exact ⟨b, by rw [World.cell?_setCell_other _ _ _ _ (by simp <;> omega)]; exact hb⟩
theorem DkI.setNow {w : World} {D : DkL} {n : Nat} {sec : Nat → Bs} (h : DkI w D n sec) {i : Nat} (hi : i < n) (b : Bs) (hb : b.length ≤ 64) : DkI (w.setCells D.bn (i * 64) (cB b)) D n (fun j => if j = i then setAt (sec i) 0 b else sec j) ∧ Kp (dkOwn D) w (w.setCells D.bn (i * 64) (cB b)) := by
  refine ⟨?_, (kp_setCells D.bn _ _ w).mono (by simp [dkOwn])⟩
  have e : ∀ k, k ≠ D.bn → (w.setCells D.bn (i * 64) (cB b)).heap[k]? = w.heap[k]? := heap_setCells D.bn _ _ w
  have e1 := e D.d h.ne4
  have e2 := e D.bo (Ne.symm h.ne1)
  have e3 := e D.bl (Ne.symm h.ne2)
  have hli := h.len i hi
  obtain ⟨calls, hc⟩ := h.cells
  refine ⟨⟨calls, e1.trans hc⟩, fun j hj => ?_, fun j hj => ?_, World.there_setCells h.tn _ _ _, there_of h.to e2, there_of h.tl e3, fun j hj => by rw [World.cell?_of_block (a := ⟨D.bl, j, none⟩) e3]; exact h.bl j hj, h.n0, h.n1, h.ne1, h.ne2, h.ne3, h.ne4, h.ne5, h.ne6⟩
  · by_cases hij : j = i
    · subst hij
      simp only [if_true]
      intro k v hk
      have hkl : k < 64 := by
        have := (List.getElem?_eq_some_iff.1 hk).1
        simpa [setAt_length (l := sec j) (i := 0) (b := b) (by omega), hli] using this
      by_cases hkb : k < b.length
      · have h1 := World.rangeAt_setCells_same w D.bn (j * 64) (cB b) (fun q hq => by
          have := h.tn (j * 64 + q) (by simp at hq; omega)
          simpa using this)
        refine h1 k v ?_
        rw [← hk]
        simp [cB, setAt, hkb]
        rw [List.getElem?_append_left (by simpa using hkb)]
        simp [hkb]
      · have e5 := World.cell?_setCells_out D.bn (cB b) (j * 64) w ⟨D.bn, j * 64 + k, none⟩ (fun _ _ => .inr (by simp; omega))
        rw [e5]
        refine h.now j hj k v ?_
        rw [← hk]
        simp [cB, setAt]
        rw [List.getElem?_append_right (by simp; omega)]
        simp
        congr 2
        omega
    · simp only [hij, if_false]
      exact World.rangeAt_setCells_apart (h.now j hj) _ _ _ (.inr (by
        have := h.len j hj
        simp only [cB_length]
        rcases Nat.lt_or_gt_of_ne hij with h1 | h1
        · left; omega
        · right; omega))
  · by_cases hij : j = i
    · subst hij
      simp only [if_true]
      rw [setAt_length (by omega)]; exact hli
    · simp only [hij, if_false]; exact h.len j hj
theorem DkI.count {w : World} {D : DkL} {n : Nat} {sec : Nat → Bs} (h : DkI w D n sec) (c : Int) : DkI (w.setCell ⟨D.d, 4, none⟩ (.int .i64 c)) D n sec ∧ Kp (dkOwn D) w (w.setCell ⟨D.d, 4, none⟩ (.int .i64 c)) := by
  refine ⟨?_, (Kp.refl _ w).setCell (.inl (by simp [dkOwn])) _⟩
  have e : ∀ k, k ≠ D.d → (w.setCell ⟨D.d, 4, none⟩ (.int .i64 c)).heap[k]? = w.heap[k]? := fun k hk => Below.heap_setCell w ⟨D.d, 4, none⟩ _ k hk
  have e2 := e D.bn (Ne.symm h.ne4)
  have e3 := e D.bo (Ne.symm h.ne5)
  have e4 := e D.bl (Ne.symm h.ne6)
  obtain ⟨calls, hc⟩ := h.cells
  exact ⟨⟨c, by have := hc.set_ 4 (.int .i64 c); simpa [dkCells] using this⟩, fun i hi => rangeAt_of (h.now i hi) e2, h.len, there_of h.tn e2, there_of h.to e3, there_of h.tl e4,
    fun i hi => by rw [World.cell?_of_block (a := ⟨D.bl, i, none⟩) e4]; exact h.bl i hi, h.n0, h.n1, h.ne1, h.ne2, h.ne3, h.ne4, h.ne5, h.ne6⟩
set_option maxHeartbeats 1000000 in
theorem disk_write {w : World} {D : DkL} {n : Nat} {sec : Nat → Bs} (h : DkI w D n sec) (i : Nat) (hi : i < n) (s : Bs) (hs : s.length ≤ 64) :
    Calls Tryz.prog 141 #[.pointer (some ⟨D.d, 0, none⟩), .int .i64 i, .string (S s)] w fun e w' => e = .returned (.int .i64 0) ∧ DkI w' D n (fun j => if j = i then pad64 s else sec j) ∧ Kp (dkOwn D) w w' := by
  have hw := hid (disk_at h i hi)
  have HC := hid (fun (W : World) (sec' : Nat → Bs) (hW : DkI W D n sec') => disk_counts hW)
  obtain ⟨calls, hc⟩ := h.cells
  have h0 : w.cell? ⟨D.d, 0, none⟩ = some (.slice (some ⟨D.bn, 0, none⟩) n n) := by rw [hc.cell]; rfl
  have h1 : w.cell? ⟨D.d, 1, none⟩ = some (.slice (some ⟨D.bo, 0, none⟩) n n) := by rw [hc.cell]; rfl
  have h2 : w.cell? ⟨D.d, 2, none⟩ = some (.slice (some ⟨D.bl, 0, none⟩) n n) := by rw [hc.cell]; rfl
  have hn := h.n1
  obtain ⟨bv, hb⟩ := h.bl i hi
  have hi0 : (0 : Int) ≤ (i : Int) := by omega
  have hi1 : (i : Int) < (n : Int) := by omega
  have H := hid h
  clear h hc
  cases bv
  · go_enter Tryz.func141, Tryz.ntmps141
    go_wp2_with (go_at_call 181; refine hw.out.mono ?_; rintro e w' ⟨rfl, rfl⟩)
    have hu := Tryz.underlying316
    have hr := H.out.now i hi
    have hl64 := H.out.len i hi
    have ht : w.there D.bo (i * 64) 64 := fun j hj => by have := H.out.to (i * 64 + j) (by omega); simpa using this
    have hbf : w.frozen? ⟨D.bl, i, none⟩ = false := by have := (H.out.tl i hi).2; simpa using this
    have ne1 := H.out.ne1
    have ne2 := H.out.ne2
    have ne3 := H.out.ne3
    have ne4 := H.out.ne4
    have ne5 := H.out.ne5
    have ne6 := H.out.ne6
    obtain ⟨cs, hcs⟩ : ∃ cs, cs = cB (sec i) := ⟨_, rfl⟩
    have hone := one_cB (sec i)
    have hcl : cs.length = 64 := by rw [hcs]; simpa using hl64
    have hsz : (Tryz.prog.info? 316).map (·.size) = some cs.length := by rw [size64, hcl]
    rw [← hcs] at hr hone
    have HCS := hid hcs
    clear hcs hl64
    have hb' := bOf_of hb
    clear hb
    have HS : Hid (WrS D n i cs w) := hid ⟨h0, h1, h2, hr, ht, hb', hbf⟩
    go_region_held3 (fun w' => w'.cell? ⟨D.d, 0, none⟩ = some (.slice (some ⟨D.bn, 0, none⟩) n n) ∧ w'.cell? ⟨D.d, 1, none⟩ = some (.slice (some ⟨D.bo, 0, none⟩) n n) ∧ w'.cell? ⟨D.d, 2, none⟩ = some (.slice (some ⟨D.bl, 0, none⟩) n n) ∧ w'.rangeAt D.bn (i * 64) cs ∧ w'.there D.bo (i * 64) 64 ∧ w'.cell? ⟨D.bl, i, none⟩ = some (.bool (bOf w' ⟨D.bl, i, none⟩)) ∧ w'.frozen? ⟨D.bl, i, none⟩ = false) (first | exact (show WrS D n i cs w.drew from HS.out) | exact (WrS.a HS.out ne1 ne3 ne5) | exact (WrS.b (WrS.a HS.out ne1 ne3 ne5) ne2 ne3 ne6)) (fail)
    obtain ⟨hI1, hk1⟩ := DkI.save H.out (i := i) cs
    generalize (w.drew.setCells D.bo (i * 64) cs).setCell ⟨D.bl, i, none⟩ (.bool true) = W1 at *
    have HI1 := hid hI1
    have HK1 := hid hk1
    obtain ⟨calls1, hc1⟩ := hI1.cells
    have g0 : W1.cell? ⟨D.d, 0, none⟩ = some (.slice (some ⟨D.bn, 0, none⟩) n n) := by rw [hc1.cell]; rfl
    clear hI1 hk1 hc1
    clear h0 h1 h2 hr ht hb' hbf HS
    go_wp2_with (with_reducible refine stopStore 316 rfl ?_)
    with_reducible refine goOn ?_
    refine wpList_store_mid rfl _ _ _ rfl D.bn (i * 64) (Array.replicate 64 (.int .u8 0)) rfl rfl ?_ size64 zeros64c ?_
    · intro j hj; have := HI1.out.tn (i * 64 + j) (by simp at hj; omega); simpa using this
    rw [zeros64]
    obtain ⟨hI2, hk2⟩ := DkI.setNow HI1.out hi (List.replicate 64 0) (by simp)
    generalize W1.setCells D.bn (i * 64) (cB (List.replicate 64 0)) = W2 at *
    have HI2 := hid hI2
    have HK2 := hid (HK1.out.trans hk2)
    obtain ⟨calls2, hc2⟩ := hI2.cells
    have g0' : W2.cell? ⟨D.d, 0, none⟩ = some (.slice (some ⟨D.bn, 0, none⟩) n n) := by rw [hc2.cell]; rfl
    clear hI2 hk2 hc2 g0
    go_wp2_with (with_reducible refine stopAt .copy rfl ?_)
    with_reducible refine goOn ?_
    refine wpL_copy_mid rfl _ _ _ rfl Tryz.underlying129 D.bn (i * 64) 64 64 s rfl rfl ?_ hs ?_
    · intro j hj; have := HI2.out.tn (i * 64 + j) (by omega); simpa using this
    obtain ⟨hI3, hk3⟩ := DkI.setNow HI2.out hi s hs
    generalize W2.setCells D.bn (i * 64) (cB s) = W3 at *
    have HI3 := hid hI3
    have HK3 := hid (HK2.out.trans hk3)
    clear hI3 hk3 g0'
    go_wp2_with (go_at_call 182; refine (HC.out _ _ HI3.out).mono ?_; rintro e W4 ⟨rfl, calls', rfl⟩)
    go_ret
    obtain ⟨hI4, hk4⟩ := DkI.count HI3.out calls'
    refine ⟨rfl, ?_, HK3.out.trans hk4⟩
    refine hI4.congr fun j _ => ?_
    by_cases hij : j = i
    · simp only [hij, if_true]; exact set_zero (H.out.len i hi)
    · simp only [hij, if_false]
  · have HI1 := H
    have HK1 := hid (Kp.refl (dkOwn D) w)
    clear h1
    go_enter Tryz.func141, Tryz.ntmps141
    go_wp2_with (first | (go_at_call 181; refine hw.out.mono ?_; rintro e w' ⟨rfl, rfl⟩) | (with_reducible refine stopStore 316 rfl ?_))
    clear h0 h2 hb
    with_reducible refine goOn ?_
    refine wpList_store_mid rfl _ _ _ rfl D.bn (i * 64) (Array.replicate 64 (.int .u8 0)) rfl rfl ?_ size64 zeros64c ?_
    · intro j hj; have := HI1.out.tn (i * 64 + j) (by simp at hj; omega); simpa using this
    rw [zeros64]
    obtain ⟨hI2, hk2⟩ := DkI.setNow HI1.out hi (List.replicate 64 0) (by simp)
    generalize w.setCells D.bn (i * 64) (cB (List.replicate 64 0)) = W2 at *
    have HI2 := hid hI2
    have HK2 := hid (HK1.out.trans hk2)
    obtain ⟨calls2, hc2⟩ := hI2.cells
    have g0' : W2.cell? ⟨D.d, 0, none⟩ = some (.slice (some ⟨D.bn, 0, none⟩) n n) := by rw [hc2.cell]; rfl
    clear hI2 hk2 hc2
    go_wp2_with (with_reducible refine stopAt .copy rfl ?_)
    with_reducible refine goOn ?_
    refine wpL_copy_mid rfl _ _ _ rfl Tryz.underlying129 D.bn (i * 64) 64 64 s rfl rfl ?_ hs ?_
    · intro j hj; have := HI2.out.tn (i * 64 + j) (by omega); simpa using this
    obtain ⟨hI3, hk3⟩ := DkI.setNow HI2.out hi s hs
    generalize W2.setCells D.bn (i * 64) (cB s) = W3 at *
    have HI3 := hid hI3
    have HK3 := hid (HK2.out.trans hk3)
    clear hI3 hk3 g0'
    go_wp2_with (go_at_call 182; refine (HC.out _ _ HI3.out).mono ?_; rintro e W4 ⟨rfl, calls', rfl⟩)
    go_ret
    obtain ⟨hI4, hk4⟩ := DkI.count HI3.out calls'
    refine ⟨rfl, ?_, HK3.out.trans hk4⟩
    refine hI4.congr fun j _ => ?_
    by_cases hij : j = i
    · simp only [hij, if_true]; exact set_zero (H.out.len i hi)
    · simp only [hij, if_false]
end Go.Proofs.YtnnghcooidjlhaaGreat
end
section
set_option linter.unusedSimpArgs false
set_option maxRecDepth 100000
namespace Go.Proofs.YtnnghcooidjlhaaGreat
open Go.RowKit Go.Lib
section
variable {id ep : Int} {kd : Nat} {pl : Bs}
theorem pageI_0 (h0 : 0 ≤ id) (hi : id ≤ 1000000) : decI (((pageI id ep kd pl).drop 0).take 8) = id := by
  have : ((pageI id ep kd pl).drop 0).take 8 = encI id := by simp [pageI, List.take_append_of_le_length]
  rw [this]; exact decI_encI (by omega) (by omega)
theorem pageI_8 (h1 : 0 ≤ ep) (h2 : ep ≤ 1099511627776) : decI (((pageI id ep kd pl).drop 8).take 8) = ep := by
  have : ((pageI id ep kd pl).drop 8).take 8 = encI ep := by
    simp [pageI, List.drop_append_of_le_length, List.drop_append, List.take_append_of_le_length]
  rw [this]; exact decI_encI (by omega) (by omega)
theorem pageI_16 : ((pageI id ep kd pl).drop 16).take 4 = be 4 kd := by
  have e : (encI id).drop 16 = [] := List.drop_of_length_le (by simp)
  simp [pageI, List.drop_append, List.take_append_of_le_length, e]
theorem pageI_20 : (pageI id ep kd pl).drop 20 = pad pl := by
  have e : (encI id).drop 20 = [] := List.drop_of_length_le (by simp)
  have e2 : (encI ep).drop 12 = [] := List.drop_of_length_le (by simp)
  simp [pageI, List.drop_append, e, e2]
theorem unbe_kd (h : kd ≤ 2147483647) : unbe (([0, 0, 0, 0] ++ be 4 kd)) = kd := by
  have : unbe ([0, 0, 0, 0] ++ be 4 kd) = unbe (be 4 kd) := by simp [unbe]
  rw [this, unbe_be]; omega
end
set_option maxHeartbeats 1000000 in
theorem page_get (id ep : Int) (kd : Nat) (pl : Bs) (w : World) (h0 : 0 ≤ id) (hi : id ≤ 1000000) (h1 : 0 ≤ ep) (h2 : ep ≤ 1099511627776) (h4 : kd ≤ 2147483647) (hp : pl.length ≤ 232) :
    Calls Tryz.prog 291 #[.string (S (pageB id ep kd pl))] w fun e w' => e = .returned (.tuple #[.agg #[.int .i64 id, .int .i64 ep, .int .i64 kd, .string (S (pad pl))], .int .i64 0]) ∧ Below w.heap.size w w' := by
  have hl := pageB_length id ep kd hp
  have hl2 := pageI_length id ep kd hp
  have HR := hid (fun W => page_right id ep kd (pad pl) W h0 h1 h2 (by omega) (by omega))
  have HC : Hid (∀ W, Calls Tryz.prog 293 #[.string (S (pageB id ep kd pl))] W fun e w' => e = .returned (.tuple #[.string (S (pageI id ep kd pl)), .int .i64 0]) ∧ Below W.heap.size W w') :=
    hid (fun W => crcCut_any (pageI id ep kd pl) W (by omega) (by omega))
  have H0 : Hid (∀ W, Calls Tryz.prog 155 #[.string (S (pageI id ep kd pl)), .int .i64 0] W fun e w' => e = .returned (.tuple #[.int .i64 id, .int .i64 8, .int .i64 0]) ∧ W = w') :=
    hid (fun W => by have := readI_any (pageI id ep kd pl) 0 W (by omega) (by omega); rw [pageI_0 h0 hi] at this; exact this)
  have H8 : Hid (∀ W, Calls Tryz.prog 155 #[.string (S (pageI id ep kd pl)), .int .i64 8] W fun e w' => e = .returned (.tuple #[.int .i64 ep, .int .i64 16, .int .i64 0]) ∧ W = w') :=
    hid (fun W => by have := readI_any (pageI id ep kd pl) 8 W (by omega) (by omega); rw [pageI_8 h1 h2] at this; exact this)
  have HU : Hid (∀ W, Calls Tryz.prog 190 #[.string (S (0 :: 0 :: 0 :: 0 :: be 4 kd)), .int .i64 0] W fun e w' => e = .returned (.tuple #[.int .u64 kd, .int .i64 8, .int .i64 0]) ∧ W = w') :=
    hid (fun W => by have := readU_any ([0, 0, 0, 0] ++ be 4 kd) 0 W (by simp) (by simp); rw [List.drop_zero, List.take_of_length_le (by simp), unbe_kd h4] at this; exact this)
  have e16 := @pageI_16 id ep kd pl
  have e20 := @pageI_20 id ep kd pl
  have e232 : (pad pl).take 232 = pad pl := List.take_of_length_le (by rw [pad_length hp]; omega)
  have hcat : (ByteArray.mk #[0, 0, 0, 0]) ++ S (be 4 kd) = S (0 :: 0 :: 0 :: 0 :: be 4 kd) := S_append [0, 0, 0, 0] (be 4 kd)
  go_enter Tryz.func291, Tryz.ntmps291
  go_wp2_with fail
  refine (HC.out _).mono ?_; rintro e V1 ⟨rfl, hb1⟩
  have hR1 := hid ((Blk.new w 396 #[.int .i64 0, .int .i64 0, .int .i64 0, .string ⟨#[]⟩]).below hb1 (by simp))
  have hs1 : w.heap.size < V1.heap.size := by have := hb1.size; simp at this; omega
  have hB1 := hid (((Below.refl w.heap.size w).alloc (Nat.le_refl _) _).trans (hb1.mono (by simp)))
  clear hb1
  go_wp2_with (first
    | (go_at_call 155; (with_reducible refine (H0.out _).mono ?_); rintro e w' ⟨rfl, rfl⟩)
    | (go_at_call 155; (with_reducible refine (H8.out _).mono ?_); rintro e w' ⟨rfl, rfl⟩)
    | (go_at_call 190; (with_reducible refine (HU.out _).mono ?_); rintro e w' ⟨rfl, rfl⟩))
  refine (HR.out _).mono ?_; rintro e V2 ⟨rfl, hb2⟩
  have hP2 := ((Blk.new V1 396 #[.int .i64 id, .int .i64 ep, .int .i64 kd, .string (S (pad pl))]).below hb2 (by simp))
  have hR2 := ((hR1.out.alloc (.cells #[.int .i64 id, .int .i64 ep, .int .i64 kd, .string (S (pad pl))] 396)).below hb2 (by simp; omega))
  have hs2 : V1.heap.size < V2.heap.size := by have := hb2.size; simp at this; omega
  have hB2 := hid (hB1.out.trans (((Below.refl V1.heap.size V1).alloc (Nat.le_refl _) _).trans (hb2.mono (by simp)) |>.mono (Nat.le_of_lt hs1)))
  have c0 : V2.cell? ⟨V1.heap.size, 0, none⟩ = some (.int .i64 id) := by rw [hP2.cell]; rfl
  have c1 : V2.cell? ⟨V1.heap.size, 1, none⟩ = some (.int .i64 ep) := by rw [hP2.cell]; rfl
  have c2 : V2.cell? ⟨V1.heap.size, 2, none⟩ = some (.int .i64 kd) := by rw [hP2.cell]; rfl
  have c3 : V2.cell? ⟨V1.heap.size, 3, none⟩ = some (.string (S (pad pl))) := by rw [hP2.cell]; rfl
  have r0 : V2.cell? ⟨w.heap.size, 0, none⟩ = some (.int .i64 0) := by rw [hR2.cell]; rfl
  have r1 : V2.cell? ⟨w.heap.size, 1, none⟩ = some (.int .i64 0) := by rw [hR2.cell]; rfl
  have r2 : V2.cell? ⟨w.heap.size, 2, none⟩ = some (.int .i64 0) := by rw [hR2.cell]; rfl
  have r3 : V2.cell? ⟨w.heap.size, 3, none⟩ = some (.string ⟨#[]⟩) := by rw [hR2.cell]; rfl
  have f0 := hR2.frozen 0
  have f1 := hR2.frozen 1
  have f2 := hR2.frozen 2
  have f3 := hR2.frozen 3
  have HR2 := hid hR2
  clear hP2 hR2 hb2
  go_wp2
  refine bodyPost_ret (v := .tuple #[.agg #[.int .i64 id, .int .i64 ep, .int .i64 kd, .string (S (pad pl))], .int .i64 0]) (by simp [results, Tryz.results291, go_sem, r0, r1, r2, r3]) rfl ⟨rfl, ?_⟩
  exact (((hB2.out.setCell (by simp) _).setCell (by simp) _).setCell (by simp) _).setCell (by simp) _
theorem page_many {w : World} {D : DkL} {n : Nat} {sec : Nat → Bs} (h : DkI w D n sec) (m : Nat) (hm : n = 2 + 4 * m) :
    Calls Tryz.prog 177 #[.pointer (some ⟨D.d, 0, none⟩)] w fun e w' => e = .returned (.int .i64 m) ∧ w = w' := by
  have hs := hid (disk_sectors h)
  have hn := h.n1
  clear h
  subst hm
  go_enter Tryz.func177, Tryz.ntmps177
  go_wp2_with (go_at_call 208; refine hs.out.mono ?_; rintro e w' ⟨rfl, rfl⟩)
  go_ret
  have e : (2 + 4 * (m : Int) - 2) / 4 = m := by omega
  exact ⟨by show Ending.returned (.int .i64 ((2 + 4 * (m : Int) - 2) / 4)) = _; rw [e], rfl⟩
def secC (id : Nat) : Nat → Array Value
  | 0 => #[.int .i64 0, .int .i64 0, .int .i64 0, .int .i64 0]
  | 1 => #[.int .i64 (2 + id * 4 : Int), .int .i64 0, .int .i64 0, .int .i64 0]
  | 2 => #[.int .i64 (2 + id * 4 : Int), .int .i64 (2 + id * 4 + 1 : Int), .int .i64 0, .int .i64 0]
  | 3 => #[.int .i64 (2 + id * 4 : Int), .int .i64 (2 + id * 4 + 1 : Int), .int .i64 (2 + id * 4 + 2 : Int), .int .i64 0]
  | _ => #[.int .i64 (2 + id * 4 : Int), .int .i64 (2 + id * 4 + 1 : Int), .int .i64 (2 + id * 4 + 2 : Int), .int .i64 (2 + id * 4 + 3 : Int)]
set_option maxHeartbeats 400000 in
theorem page_sectors (id : Nat) (w : World) (hi : id ≤ 1000000) :
    Calls Tryz.prog 282 #[.int .i64 id] w fun e w' => e = .returned (.agg (secC id 4)) ∧ Below w.heap.size w w' := by
  go_enter Tryz.func282, Tryz.ntmps282
  go_wp2
  go_loopw [5] (fun i wr => ∃ k : Nat, k ≤ 4 ∧ i = .int .i64 k ∧ wr = (w.alloc (.cells (secC id 0) 398)).alloc (.cells (secC id k) 398)) (fun i _ => 4 - (intOf i).toNat)
  case atStart => exact ⟨0, by omega, rfl, rfl⟩
  case round =>
    obtain ⟨k, hk, rfl, rfl⟩ := hrel
    rcases (show k = 0 ∨ k = 1 ∨ k = 2 ∨ k = 3 ∨ k = 4 by omega) with rfl | rfl | rfl | rfl | rfl
    · simp only [secC]
      go_wp2
      go_roundw
      case rel => exact ⟨1, by omega, rfl, by simp [secC]⟩
      case measure => simp [intOf]
    · simp only [secC]
      go_wp2
      go_roundw
      case rel => exact ⟨2, by omega, rfl, by simp [secC]⟩
      case measure => simp [intOf]
    · simp only [secC]
      go_wp2
      go_roundw
      case rel => exact ⟨3, by omega, rfl, by simp [secC]⟩
      case measure => simp [intOf]
    · simp only [secC]
      go_wp2
      go_roundw
      case rel => exact ⟨4, by omega, rfl, by simp [secC]⟩
      case measure => simp [intOf]
    · simp only [secC]
      go_wp2
      refine bodyPost_ret (v := .agg (secC id 4)) (by simp [results, Tryz.results282, go_sem, secC]) rfl ⟨rfl, ?_⟩
      exact ((Below.refl _ _).alloc (Nat.le_refl _) _).alloc (by simp) _
def secK (sec : Nat → Bs) (id : Nat) (b : Bs) (k : Nat) : Nat → Bs := fun j => if 2 + id * 4 ≤ j ∧ j < 2 + id * 4 + k then (b.drop (64 * (j - (2 + id * 4)))).take 64 else sec j
theorem pad64_of {s : Bs} (h : s.length = 64) : pad64 s = s := by simp [pad64, h]
theorem write_step {w : World} {D : DkL} {n : Nat} {sec : Nat → Bs} {id k : Nat} {b : Bs} (h : DkI w D n (secK sec id b k)) (hk : k < 4) (hb : b.length = 256) (hn : 2 + id * 4 + 4 ≤ n) (x : Int) (hx : x = 2 + (id : Int) * 4 + k) (s : Bs) (hs : s = (b.drop (64 * k)).take 64) :
    Calls Tryz.prog 141 #[.pointer (some ⟨D.d, 0, none⟩), .int .i64 x, .string (S s)] w fun e w' => e = .returned (.int .i64 0) ∧ DkI w' D n (secK sec id b (k + 1)) ∧ Kp (dkOwn D) w w' := by
  have hl : s.length = 64 := by rw [hs]; simp; omega
  have hi : x = ((2 + id * 4 + k : Nat) : Int) := by omega
  rw [hi]
  refine (disk_write h (2 + id * 4 + k) (by omega) s (by omega)).mono fun e w' ⟨h1, h2, h3⟩ => ⟨h1, h2.congr fun j hj => ?_, h3⟩
  unfold secK
  by_cases hjk : j = 2 + id * 4 + k
  · subst hjk
    have e : 2 + id * 4 + k - (2 + id * 4) = k := by omega
    rw [if_pos rfl, if_pos ⟨by omega, by omega⟩, pad64_of hl, hs, e]
  · rw [if_neg hjk]
    by_cases hin : 2 + id * 4 ≤ j ∧ j < 2 + id * 4 + k
    · rw [if_pos hin, if_pos ⟨hin.1, by omega⟩]
    · rw [if_neg hin, if_neg (by omega)]
theorem idx4_0 (a b c d : Value) (w : World) : (Instr.index 398 (.agg #[a, b, c, d]) (.int .i64 0)).run Tryz.prog w = .ok a w := by kernel_rfl
theorem idx4_1 (a b c d : Value) (w : World) : (Instr.index 398 (.agg #[a, b, c, d]) (.int .i64 1)).run Tryz.prog w = .ok b w := by kernel_rfl
theorem idx4_2 (a b c d : Value) (w : World) : (Instr.index 398 (.agg #[a, b, c, d]) (.int .i64 2)).run Tryz.prog w = .ok c w := by kernel_rfl
theorem idx4_3 (a b c d : Value) (w : World) : (Instr.index 398 (.agg #[a, b, c, d]) (.int .i64 3)).run Tryz.prog w = .ok d w := by kernel_rfl
set_option maxHeartbeats 1000000 in
theorem page_write {w : World} {D : DkL} {n : Nat} {sec : Nat → Bs} (h : DkI w D n sec) (m : Nat) (hm : n = 2 + 4 * m) (id : Nat) (hid : id < m) (ep : Int) (kd : Nat) (pl : Bs) (h1 : 0 ≤ ep) (h2 : ep ≤ 1099511627776) (h4 : kd ≤ 2147483647) (hp : pl.length ≤ 232) :
    Calls Tryz.prog 276 #[.pointer (some ⟨D.d, 0, none⟩), .agg #[.int .i64 id, .int .i64 ep, .int .i64 kd, .string (S pl)]] w fun e w' =>
      e = .returned (.int .i64 0) ∧ DkI w' D n (secK sec id (pageB id ep kd pl) 4) ∧ Kp (dkOwn D) w w' := by
  have hn := h.n1
  have HP := Go.Proofs.YtnnghcooidjlhaaGreat.hid (fun W => page_put id ep kd pl W (by omega) (by omega) h1 h2 h4 hp)
  have HS := Go.Proofs.YtnnghcooidjlhaaGreat.hid (fun W => page_sectors id W (by omega))
  have HM := Go.Proofs.YtnnghcooidjlhaaGreat.hid (fun W (hW : DkI W D n sec) => page_many hW m hm)
  have H := Go.Proofs.YtnnghcooidjlhaaGreat.hid h
  clear h
  have hid0 : (id : Int) < (m : Int) := by omega
  have hdec : decide (m ≤ id) = false := by simp; omega
  go_enter Tryz.func276, Tryz.ntmps276
  go_wp2_with fail
  refine (HP.out _).mono ?_; rintro e V1 ⟨rfl, hb1⟩
  have hC1 := ((Blk.new w 396 #[.int .i64 id, .int .i64 ep, .int .i64 kd, .string (S pl)]).below hb1 (by simp))
  have hs1 : w.heap.size < V1.heap.size := by have := hb1.size; simp at this; omega
  have hB1 := ((Below.refl w.heap.size w).alloc (Nat.le_refl _) (.cells #[.int .i64 id, .int .i64 ep, .int .i64 kd, .string (S pl)] 396)).trans (hb1.mono (by simp))
  have hI1 := H.out.below hB1
  have HB1 := Go.Proofs.YtnnghcooidjlhaaGreat.hid hB1
  have HI1 := Go.Proofs.YtnnghcooidjlhaaGreat.hid hI1
  have c0 : V1.cell? ⟨w.heap.size, 0, none⟩ = some (.int .i64 id) := by rw [hC1.cell]; rfl
  have HC1 := Go.Proofs.YtnnghcooidjlhaaGreat.hid hC1
  clear hb1 hB1 hI1 hC1
  go_wp2_with fail
  go_quiet ((go_at_call 177; exact quiet_left (HM.out _ (HI1.out.of_blocks (fun _ _ => rfl)))))
  go_wp2_with fail
  refine (HS.out _).mono ?_; rintro e V2 ⟨rfl, hb2⟩
  have hB2 := Go.Proofs.YtnnghcooidjlhaaGreat.hid ((below_drewN HB1.out nq).trans (hb2.mono (Nat.le_of_lt hs1)))
  have hI2 := Go.Proofs.YtnnghcooidjlhaaGreat.hid (DkI.below (w := V1.drewN nq) (HI1.out.of_blocks (fun _ _ => rfl)) hb2)
  clear hb2 c0
  have hlen := pageB_length (id : Int) ep kd hp
  have HL := Go.Proofs.YtnnghcooidjlhaaGreat.hid hlen
  simp only [secC]
  go_wp2
  go_loopw [30] (fun i wr => ∃ k : Nat, k ≤ 4 ∧ i = .int .i64 k ∧ DkI wr D n (secK sec id (pageB (id : Int) ep kd pl) k) ∧ Kp (dkOwn D) w wr) (fun i _ => 4 - (intOf i).toNat)
  case atStart => exact ⟨0, by omega, rfl, hI2.out.congr (fun j _ => by unfold secK; rw [if_neg (by omega)]), Kp.of_below hB2.out⟩
  case round =>
    obtain ⟨k, hk, rfl, hI, hK⟩ := hrel
    have HI := Go.Proofs.YtnnghcooidjlhaaGreat.hid hI
    have HK := Go.Proofs.YtnnghcooidjlhaaGreat.hid hK
    clear hI hK
    rcases (show k = 0 ∨ k = 1 ∨ k = 2 ∨ k = 3 ∨ k = 4 by omega) with rfl | rfl | rfl | rfl | rfl
    · have HW := Go.Proofs.YtnnghcooidjlhaaGreat.hid (fun s x hx hs => write_step HI.out (by omega) HL.out (by omega) x hx s hs)
      have hidx := fun W => idx4_0 (.int .i64 (2 + id * 4 : Int)) (.int .i64 (2 + id * 4 + 1 : Int)) (.int .i64 (2 + id * 4 + 2 : Int)) (.int .i64 (2 + id * 4 + 3 : Int)) W
      go_wp2_with fail
      refine (HW.out _ _ (by simp) (by simp)).mono ?_
      rintro e w1 ⟨rfl, hI1, hK1⟩
      go_wp2
      go_roundw
      case rel => first | exact ⟨1, by omega, rfl, hI1, HK.out.trans hK1⟩ | ((repeat apply Exists.intro); exact ⟨⟨1, by omega, rfl, hI1, HK.out.trans hK1⟩, rfl⟩)
      case measure => simp [intOf]
    · have HW := Go.Proofs.YtnnghcooidjlhaaGreat.hid (fun s x hx hs => write_step HI.out (by omega) HL.out (by omega) x hx s hs)
      have hidx := fun W => idx4_1 (.int .i64 (2 + id * 4 : Int)) (.int .i64 (2 + id * 4 + 1 : Int)) (.int .i64 (2 + id * 4 + 2 : Int)) (.int .i64 (2 + id * 4 + 3 : Int)) W
      go_wp2_with fail
      refine (HW.out _ _ (by simp) (by simp)).mono ?_
      rintro e w1 ⟨rfl, hI1, hK1⟩
      go_wp2
      go_roundw
      case rel => first | exact ⟨2, by omega, rfl, hI1, HK.out.trans hK1⟩ | ((repeat apply Exists.intro); exact ⟨⟨2, by omega, rfl, hI1, HK.out.trans hK1⟩, rfl⟩)
      case measure => simp [intOf]
    · have HW := Go.Proofs.YtnnghcooidjlhaaGreat.hid (fun s x hx hs => write_step HI.out (by omega) HL.out (by omega) x hx s hs)
      have hidx := fun W => idx4_2 (.int .i64 (2 + id * 4 : Int)) (.int .i64 (2 + id * 4 + 1 : Int)) (.int .i64 (2 + id * 4 + 2 : Int)) (.int .i64 (2 + id * 4 + 3 : Int)) W
      go_wp2_with fail
      refine (HW.out _ _ (by simp) (by simp)).mono ?_
      rintro e w1 ⟨rfl, hI1, hK1⟩
      go_wp2
      go_roundw
      case rel => first | exact ⟨3, by omega, rfl, hI1, HK.out.trans hK1⟩ | ((repeat apply Exists.intro); exact ⟨⟨3, by omega, rfl, hI1, HK.out.trans hK1⟩, rfl⟩)
      case measure => simp [intOf]
    · have HW := Go.Proofs.YtnnghcooidjlhaaGreat.hid (fun s x hx hs => write_step HI.out (by omega) HL.out (by omega) x hx s hs)
      have hidx := fun W => idx4_3 (.int .i64 (2 + id * 4 : Int)) (.int .i64 (2 + id * 4 + 1 : Int)) (.int .i64 (2 + id * 4 + 2 : Int)) (.int .i64 (2 + id * 4 + 3 : Int)) W
      go_wp2_with fail
      refine (HW.out _ _ (by simp) (by simp)).mono ?_
      rintro e w1 ⟨rfl, hI1, hK1⟩
      go_wp2
      go_roundw
      case rel => first | exact ⟨4, by omega, rfl, hI1, HK.out.trans hK1⟩ | ((repeat apply Exists.intro); exact ⟨⟨4, by omega, rfl, hI1, HK.out.trans hK1⟩, rfl⟩)
      case measure => simp [intOf]
    · go_wp2
      go_ret
      exact ⟨rfl, HI.out, HK.out⟩
end Go.Proofs.YtnnghcooidjlhaaGreat
end
section
set_option linter.unusedSimpArgs false
set_option maxRecDepth 100000
namespace Go.Proofs.YtnnghcooidjlhaaGreat
open Go.RowKit Go.Lib
def pgAt (sec : Nat → Bs) (id : Nat) (b : Bs) : Prop := ∀ k, k < 4 → sec (2 + id * 4 + k) = (b.drop (64 * k)).take 64
theorem pgAt_K (sec : Nat → Bs) (id : Nat) (b : Bs) : pgAt (secK sec id b 4) id b := fun k hk => by
  unfold secK
  rw [if_pos ⟨by omega, by omega⟩]
  have e : 2 + id * 4 + k - (2 + id * 4) = k := by omega
  rw [e]
theorem pgAt_other {sec : Nat → Bs} {id id' : Nat} {b b' : Bs} (h : pgAt sec id' b') (hne : id' ≠ id) : pgAt (secK sec id b 4) id' b' := fun k hk => by
  unfold secK
  rw [if_neg (by omega)]
  exact h k hk
theorem read_step {w : World} {D : DkL} {n : Nat} {sec : Nat → Bs} {id k : Nat} {b : Bs} (h : DkI w D n sec) (hp : pgAt sec id b) (hk : k < 4) (hn : 2 + id * 4 + 4 ≤ n) (x : Int) (hx : x = 2 + (id : Int) * 4 + k) :
    Calls Tryz.prog 290 #[.pointer (some ⟨D.d, 0, none⟩), .int .i64 x] w fun e w' => e = .returned (.tuple #[.string (S ((b.drop (64 * k)).take 64)), .int .i64 0]) ∧ w = w' := by
  have hi : x = ((2 + id * 4 + k : Nat) : Int) := by omega
  rw [hi, ← hp k hk]
  exact disk_read h (2 + id * 4 + k) (by omega)
theorem row_read {w w' : World} {B : Nat} {v : Value} {b : Bs} (h : w.ownsRow B 5 1 v b.length (cB b)) (hb : Below w.heap.size w w') : w'.ownsRow B 5 1 v b.length (cB b) := by
  refine ⟨h.1, ?_⟩
  rcases h.2 with h3 | ⟨g, cap, cur, e1, e2, e3, e4⟩
  · exact .inl h3
  · exact .inr ⟨g, cap, cur, e1, e2, (hb.block g (lt_of_block e3)).trans e3, e4⟩
theorem take64 (b : Bs) (k : Nat) (h : b.length = 256) (hk : k < 4) : b.take (64 * k) ++ (b.drop (64 * k)).take 64 = b.take (64 * (k + 1)) := by
  rw [show 64 * (k + 1) = 64 * k + 64 by omega, List.take_add]
set_option maxHeartbeats 1000000 in
theorem page_read {w : World} {D : DkL} {n : Nat} {sec : Nat → Bs} (h : DkI w D n sec) (m : Nat) (hm : n = 2 + 4 * m) (id : Nat) (hid' : id < m) (ep : Int) (kd : Nat) (pl : Bs) (h1 : 0 ≤ ep) (h2 : ep ≤ 1099511627776) (h4 : kd ≤ 2147483647) (hp : pl.length ≤ 232)
    (hpg : pgAt sec id (pageB id ep kd pl)) :
    Calls Tryz.prog 283 #[.pointer (some ⟨D.d, 0, none⟩), .int .i64 id] w fun e w' =>
      e = .returned (.tuple #[.agg #[.int .i64 id, .int .i64 ep, .int .i64 kd, .string (S (pad pl))], .int .i64 0]) ∧ Below w.heap.size w w' := by
  have hn := h.n1
  have HG := hid (fun W => page_get id ep kd pl W (by omega) (by omega) h1 h2 h4 hp)
  have HS := hid (fun W => page_sectors id W (by omega))
  have HM := hid (fun W (hW : DkI W D n sec) => page_many hW m hm)
  have H := hid h
  have HPG := hid hpg
  have hlen := pageB_length (id : Int) ep kd hp
  have HL := hid hlen
  clear h hpg hlen
  have hid0 : (id : Int) < (m : Int) := by omega
  have hdec : decide (m ≤ id) = false := by simp; omega
  go_enter Tryz.func283, Tryz.ntmps283
  have hR0 := hid (Blk.new w 396 #[.int .i64 0, .int .i64 0, .int .i64 0, .string ⟨#[]⟩])
  have hB0 := hid ((Below.refl w.heap.size w).alloc (Nat.le_refl _) (.cells #[.int .i64 0, .int .i64 0, .int .i64 0, .string ⟨#[]⟩] 396))
  have hI0 := hid (H.out.below hB0.out)
  go_wp2_with (first
    | (go_at_call 177; refine (HM.out _ hI0.out).mono ?_; rintro e w1 ⟨rfl, rfl⟩))
  refine (HS.out _).mono ?_; rintro e V2 ⟨rfl, hb2⟩
  have hR2 := hid (hR0.out.below hb2 (by simp))
  have hB2 := hid (hB0.out.trans (hb2.mono (by simp)))
  have hI2 := hid (hI0.out.below hb2)
  have hs2 : w.heap.size < V2.heap.size := by have := hb2.size; simp at this; omega
  clear hb2 hR0 hB0 hI0
  simp only [secC]
  go_wp2
  go_loopw [6, 29] (fun v i wr => ∃ k : Nat, k ≤ 4 ∧ i = .int .i64 k ∧ wr.ownsRow (w.heap.size + 1) 5 1 v ((pageB (id : Int) ep kd pl).take (64 * k)).length (cB ((pageB (id : Int) ep kd pl).take (64 * k))) ∧ Blk wr w.heap.size 396 #[.int .i64 0, .int .i64 0, .int .i64 0, .string ⟨#[]⟩] ∧ Below w.heap.size w wr) (fun _ i _ => 4 - (intOf i).toNat)
  case atStart => exact ⟨0, by omega, rfl, by simpa [cB] using World.ownsRow_nil _ _ _ _, hR2.out, hB2.out⟩
  case round =>
    obtain ⟨k, hk, rfl, hO, hR, hB⟩ := hrel
    obtain ⟨p, c, rfl⟩ := own_slice2 hO
    have HO := hid hO
    have HR := hid hR
    have HB := hid hB
    have hI := hid (H.out.below hB)
    have hlt := hR.lt
    clear hO hR hB
    obtain ⟨i0, hi, hz0, hz1, hz2⟩ := info_parts inf5
    rcases (show k = 0 ∨ k = 1 ∨ k = 2 ∨ k = 3 ∨ k = 4 by omega) with rfl | rfl | rfl | rfl | rfl
    · have HW := hid (fun x hx => read_step hI.out HPG.out (k := 0) (by omega) (by omega) x hx)
      have hidx := fun W => idx4_0 (.int .i64 (2 + id * 4 : Int)) (.int .i64 (2 + id * 4 + 1 : Int)) (.int .i64 (2 + id * 4 + 2 : Int)) (.int .i64 (2 + id * 4 + 3 : Int)) W
      have hl64 : (((pageB (id : Int) ep kd pl).drop (64 * 0)).take 64).length = 64 := by have := HL.out; rw [List.length_take, List.length_drop]; omega
      have hl0 : ((pageB (id : Int) ep kd pl).take (64 * 0)).length = 64 * 0 := by have := HL.out; rw [List.length_take]; omega
      have HT := hid (take64 (pageB (id : Int) ep kd pl) 0 HL.out (by omega))
      have HL0 := hid hl0
      have HL64 := hid hl64
      clear hl0 hl64
      generalize (pageB (id : Int) ep kd pl).take (64 * 0) = b0 at *
      generalize ((pageB (id : Int) ep kd pl).drop (64 * 0)).take 64 = b1 at *
      go_wp2_with fail
      refine (HW.out _ (by simp)).mono ?_
      rintro e w1 ⟨rfl, rfl⟩
      go_wp2_with (with_reducible refine stopAt .append rfl ?_)
      with_reducible refine goOn ?_
      refine wpList_append_own_string _ rfl _ _ 129 9 rfl (w.heap.size + 1) 5 i0 Tryz.underlying129 Tryz.underlying9 hi hz0 hz1 hz2 _ _ _ rfl HO.out (S b1) rfl (by rw [S_size, HL0.out, HL64.out]; unfold maxLen; omega) (by rw [S_size, HL0.out, HL64.out]; omega) (by omega) ?_
      intro v' w1 hown1 hgr _
      rw [S_size, strCells_S] at hown1
      have hR1 := HR.out.grown hgr (own_ne HO.out)
      have HGR := hid hgr
      have HO1 := hid hown1
      clear hgr hown1
      go_wp2
      go_roundw
      case rel =>
        have q1 := own_eq HO1.out (n' := ((pageB (id : Int) ep kd pl).take (64 * 1)).length) (xs' := cB ((pageB (id : Int) ep kd pl).take (64 * 1))) (by rw [← HT.out]; simp) (by rw [← HT.out]; simp)
        have q2 : Below w.heap.size w w1 := HB.out.grown HGR.out HB.out.size (fun g hg => by have := (HO.out.lt g hg).1; omega)
        first | exact ⟨1, by omega, rfl, q1, hR1, q2⟩ | ((repeat apply Exists.intro); exact ⟨⟨1, by omega, rfl, q1, hR1, q2⟩, rfl⟩)
      case measure => simp [intOf]
    · have HW := hid (fun x hx => read_step hI.out HPG.out (k := 1) (by omega) (by omega) x hx)
      have hidx := fun W => idx4_1 (.int .i64 (2 + id * 4 : Int)) (.int .i64 (2 + id * 4 + 1 : Int)) (.int .i64 (2 + id * 4 + 2 : Int)) (.int .i64 (2 + id * 4 + 3 : Int)) W
      have hl64 : (((pageB (id : Int) ep kd pl).drop (64 * 1)).take 64).length = 64 := by have := HL.out; rw [List.length_take, List.length_drop]; omega
      have hl0 : ((pageB (id : Int) ep kd pl).take (64 * 1)).length = 64 * 1 := by have := HL.out; rw [List.length_take]; omega
      have HT := hid (take64 (pageB (id : Int) ep kd pl) 1 HL.out (by omega))
      have HL0 := hid hl0
      have HL64 := hid hl64
      clear hl0 hl64
      generalize (pageB (id : Int) ep kd pl).take (64 * 1) = b0 at *
      generalize ((pageB (id : Int) ep kd pl).drop (64 * 1)).take 64 = b1 at *
      go_wp2_with fail
      refine (HW.out _ (by simp)).mono ?_
      rintro e w1 ⟨rfl, rfl⟩
      go_wp2_with (with_reducible refine stopAt .append rfl ?_)
      with_reducible refine goOn ?_
      refine wpList_append_own_string _ rfl _ _ 129 9 rfl (w.heap.size + 1) 5 i0 Tryz.underlying129 Tryz.underlying9 hi hz0 hz1 hz2 _ _ _ rfl HO.out (S b1) rfl (by rw [S_size, HL0.out, HL64.out]; unfold maxLen; omega) (by rw [S_size, HL0.out, HL64.out]; omega) (by omega) ?_
      intro v' w1 hown1 hgr _
      rw [S_size, strCells_S] at hown1
      have hR1 := HR.out.grown hgr (own_ne HO.out)
      have HGR := hid hgr
      have HO1 := hid hown1
      clear hgr hown1
      go_wp2
      go_roundw
      case rel =>
        have q1 := own_eq HO1.out (n' := ((pageB (id : Int) ep kd pl).take (64 * 2)).length) (xs' := cB ((pageB (id : Int) ep kd pl).take (64 * 2))) (by rw [← HT.out]; simp) (by rw [← HT.out]; simp)
        have q2 : Below w.heap.size w w1 := HB.out.grown HGR.out HB.out.size (fun g hg => by have := (HO.out.lt g hg).1; omega)
        first | exact ⟨2, by omega, rfl, q1, hR1, q2⟩ | ((repeat apply Exists.intro); exact ⟨⟨2, by omega, rfl, q1, hR1, q2⟩, rfl⟩)
      case measure => simp [intOf]
    · have HW := hid (fun x hx => read_step hI.out HPG.out (k := 2) (by omega) (by omega) x hx)
      have hidx := fun W => idx4_2 (.int .i64 (2 + id * 4 : Int)) (.int .i64 (2 + id * 4 + 1 : Int)) (.int .i64 (2 + id * 4 + 2 : Int)) (.int .i64 (2 + id * 4 + 3 : Int)) W
      have hl64 : (((pageB (id : Int) ep kd pl).drop (64 * 2)).take 64).length = 64 := by have := HL.out; rw [List.length_take, List.length_drop]; omega
      have hl0 : ((pageB (id : Int) ep kd pl).take (64 * 2)).length = 64 * 2 := by have := HL.out; rw [List.length_take]; omega
      have HT := hid (take64 (pageB (id : Int) ep kd pl) 2 HL.out (by omega))
      have HL0 := hid hl0
      have HL64 := hid hl64
      clear hl0 hl64
      generalize (pageB (id : Int) ep kd pl).take (64 * 2) = b0 at *
      generalize ((pageB (id : Int) ep kd pl).drop (64 * 2)).take 64 = b1 at *
      go_wp2_with fail
      refine (HW.out _ (by simp)).mono ?_
      rintro e w1 ⟨rfl, rfl⟩
      go_wp2_with (with_reducible refine stopAt .append rfl ?_)
      with_reducible refine goOn ?_
      refine wpList_append_own_string _ rfl _ _ 129 9 rfl (w.heap.size + 1) 5 i0 Tryz.underlying129 Tryz.underlying9 hi hz0 hz1 hz2 _ _ _ rfl HO.out (S b1) rfl (by rw [S_size, HL0.out, HL64.out]; unfold maxLen; omega) (by rw [S_size, HL0.out, HL64.out]; omega) (by omega) ?_
      intro v' w1 hown1 hgr _
      rw [S_size, strCells_S] at hown1
      have hR1 := HR.out.grown hgr (own_ne HO.out)
      have HGR := hid hgr
      have HO1 := hid hown1
      clear hgr hown1
      go_wp2
      go_roundw
      case rel =>
        have q1 := own_eq HO1.out (n' := ((pageB (id : Int) ep kd pl).take (64 * 3)).length) (xs' := cB ((pageB (id : Int) ep kd pl).take (64 * 3))) (by rw [← HT.out]; simp) (by rw [← HT.out]; simp)
        have q2 : Below w.heap.size w w1 := HB.out.grown HGR.out HB.out.size (fun g hg => by have := (HO.out.lt g hg).1; omega)
        first | exact ⟨3, by omega, rfl, q1, hR1, q2⟩ | ((repeat apply Exists.intro); exact ⟨⟨3, by omega, rfl, q1, hR1, q2⟩, rfl⟩)
      case measure => simp [intOf]
    · have HW := hid (fun x hx => read_step hI.out HPG.out (k := 3) (by omega) (by omega) x hx)
      have hidx := fun W => idx4_3 (.int .i64 (2 + id * 4 : Int)) (.int .i64 (2 + id * 4 + 1 : Int)) (.int .i64 (2 + id * 4 + 2 : Int)) (.int .i64 (2 + id * 4 + 3 : Int)) W
      have hl64 : (((pageB (id : Int) ep kd pl).drop (64 * 3)).take 64).length = 64 := by have := HL.out; rw [List.length_take, List.length_drop]; omega
      have hl0 : ((pageB (id : Int) ep kd pl).take (64 * 3)).length = 64 * 3 := by have := HL.out; rw [List.length_take]; omega
      have HT := hid (take64 (pageB (id : Int) ep kd pl) 3 HL.out (by omega))
      have HL0 := hid hl0
      have HL64 := hid hl64
      clear hl0 hl64
      generalize (pageB (id : Int) ep kd pl).take (64 * 3) = b0 at *
      generalize ((pageB (id : Int) ep kd pl).drop (64 * 3)).take 64 = b1 at *
      go_wp2_with fail
      refine (HW.out _ (by simp)).mono ?_
      rintro e w1 ⟨rfl, rfl⟩
      go_wp2_with (with_reducible refine stopAt .append rfl ?_)
      with_reducible refine goOn ?_
      refine wpList_append_own_string _ rfl _ _ 129 9 rfl (w.heap.size + 1) 5 i0 Tryz.underlying129 Tryz.underlying9 hi hz0 hz1 hz2 _ _ _ rfl HO.out (S b1) rfl (by rw [S_size, HL0.out, HL64.out]; unfold maxLen; omega) (by rw [S_size, HL0.out, HL64.out]; omega) (by omega) ?_
      intro v' w1 hown1 hgr _
      rw [S_size, strCells_S] at hown1
      have hR1 := HR.out.grown hgr (own_ne HO.out)
      have HGR := hid hgr
      have HO1 := hid hown1
      clear hgr hown1
      go_wp2
      go_roundw
      case rel =>
        have q1 := own_eq HO1.out (n' := ((pageB (id : Int) ep kd pl).take (64 * 4)).length) (xs' := cB ((pageB (id : Int) ep kd pl).take (64 * 4))) (by rw [← HT.out]; simp) (by rw [← HT.out]; simp)
        have q2 : Below w.heap.size w w1 := HB.out.grown HGR.out HB.out.size (fun g hg => by have := (HO.out.lt g hg).1; omega)
        first | exact ⟨4, by omega, rfl, q1, hR1, q2⟩ | ((repeat apply Exists.intro); exact ⟨⟨4, by omega, rfl, q1, hR1, q2⟩, rfl⟩)
      case measure => simp [intOf]
    · have hcv := own_string HO.out
      have e256 : (pageB (id : Int) ep kd pl).take (64 * 4) = pageB (id : Int) ep kd pl := List.take_of_length_le (by have := HL.out; omega)
      rw [e256] at hcv ⊢
      clear e256
      go_wp2_with fail
      refine (HG.out _).mono ?_; rintro e V3 ⟨rfl, hb3⟩
      have hR3 := HR.out.below hb3 hlt
      have hB3 := hid (HB.out.trans (hb3.mono (by omega)))
      have hs3 : w.heap.size < V3.heap.size := by have := hb3.size; omega
      have r0 : V3.cell? ⟨w.heap.size, 0, none⟩ = some (.int .i64 0) := by rw [hR3.cell]; rfl
      have r1 : V3.cell? ⟨w.heap.size, 1, none⟩ = some (.int .i64 0) := by rw [hR3.cell]; rfl
      have r2 : V3.cell? ⟨w.heap.size, 2, none⟩ = some (.int .i64 0) := by rw [hR3.cell]; rfl
      have r3 : V3.cell? ⟨w.heap.size, 3, none⟩ = some (.string ⟨#[]⟩) := by rw [hR3.cell]; rfl
      have f0 := hR3.frozen 0
      have f1 := hR3.frozen 1
      have f2 := hR3.frozen 2
      have f3 := hR3.frozen 3
      clear hb3 hR3 hcv
      go_wp2
      refine bodyPost_ret (v := .tuple #[.agg #[.int .i64 id, .int .i64 ep, .int .i64 kd, .string (S (pad pl))], .int .i64 0]) (by simp [results, Tryz.results283, go_sem, r0, r1, r2, r3, hs3]) rfl ⟨rfl, ?_⟩
      refine Below.alloc ?_ ?_ _
      · iterate 4 (refine Below.setCell ?_ (Nat.le_refl w.heap.size) _)
        exact hB3.out
      · simp; omega
end Go.Proofs.YtnnghcooidjlhaaGreat
end
