/- Parts of the proof: Ra Rb Rc. -/
import Derived.Laws.MakeOwn
import Derived.Lib.Hide
import Derived.Lib.SliceRun
import Derived.RegionTactic
import Derived.Deep.RegionHeld3
import Derived.Test.YtnnghcooidjlhaaGreatD01
import Derived.Test.YtnnghcooidjlhaaGreatD02
import Derived.Test.YtnnghcooidjlhaaGreatD04
import Derived.Test.YtnnghcooidjlhaaGreatD05
import Derived.Test.YtnnghcooidjlhaaGreatD07
import Derived.Test.YtnnghcooidjlhaaGreatD28
set_option linter.all false
set_option maxRecDepth 100000
namespace Go.Proofs.YtnnghcooidjlhaaGreat
section
open Go.RowKit Go.Lib
theorem madeCells_get (z : Array Value) (n j : Nat) (hj : j < n) : (madeCells z n)[j]? = some (z[j % z.size]!) := by
 unfold madeCells
 rw [Array.getElem?_map, Array.getElem?_eq_getElem (by simpa using hj)]
 simp
def zB : Array Value := Array.replicate 64 (.int .u8 0)
theorem zB_get (j : Nat) : zB[j % zB.size]! = .int .u8 0 := by
 have h : j % zB.size < zB.size := Nat.mod_lt _ (by decide)
 rw [getElem!_pos zB _ h]
 simp [zB]
theorem infBytes : (Tryz.prog.info? 316).map (fun i => (i.zero, i.size, i.bytes)) = some (some (.agg zB), 64, 64) := by kernel_rfl
theorem infBoolE : (Tryz.prog.info? 4).map (fun i => (i.zero, i.size, i.bytes)) = some (some (.bool false), 1, 1) := by kernel_rfl
theorem zB_cells : (Value.agg zB).cells = zB := by kernel_rfl
theorem mkBytes (n : Nat) (hn : n ≤ 4096) (w : World) : (Instr.makeSlice 250 (.int .i64 (n : Int)) (.int .i64 (n : Int))).run Tryz.prog w = .ok (.slice (some ⟨w.heap.size, 0, none⟩) n n) (w.alloc (.cells (madeCells zB (n * 64)) 316)) := by
 obtain ⟨i, hi, hzz⟩ := Option.map_eq_some_iff.1 infBytes
 simp only [Prod.mk.injEq] at hzz
 obtain ⟨hz, hs, hb⟩ := hzz
 have hr := run_make (P := Tryz.prog) w 250 316 i _ Tryz.underlying250 hi hz .i64 .i64 n n (by omega) (Int.le_refl _) (by rw [hb]; omega) (by omega)
 rw [hs, zB_cells, Int.toNat_natCast] at hr
 exact hr
theorem mkBools (n : Nat) (hn : n ≤ 4096) (w : World) : (Instr.makeSlice 251 (.int .i64 (n : Int)) (.int .i64 (n : Int))).run Tryz.prog w = .ok (.slice (some ⟨w.heap.size, 0, none⟩) n n) (w.alloc (.cells (madeCells #[.bool false] n) 4)) := by
 obtain ⟨i, hi, hzz⟩ := Option.map_eq_some_iff.1 infBoolE
 simp only [Prod.mk.injEq] at hzz
 obtain ⟨hz, hs, hb⟩ := hzz
 have hr := run_make (P := Tryz.prog) w 251 4 i _ Tryz.underlying251 hi hz .i64 .i64 n n (by omega) (Int.le_refl _) (by rw [hb]; omega) (by omega)
 rw [hs, Int.toNat_natCast, Nat.mul_one] at hr
 exact hr
theorem DkI.mk_ {w : World} {D : DkL} {n : Nat} (hd : Blk w D.d 253 (dkCells D n 0)) (h1 : Blk w D.bn 316 (madeCells zB (n * 64))) (h2 : Blk w D.bo 316 (madeCells zB (n * 64))) (h3 : Blk w D.bl 4 (madeCells #[.bool false] n)) (n0 : 0 < n) (n1 : n ≤ 4096) (hne : D.bn ≠ D.bo) :
  DkI w D n (fun _ => List.replicate 64 0) := by
 have g1 : ∀ {b} (hb : Blk w b 316 (madeCells zB (n * 64))) j, j < n * 64 → w.cell? ⟨b, j, none⟩ = some (.int .u8 0) := fun hb j hj => by
  rw [hb.cell, madeCells_get _ _ _ hj, zB_get]
 have g3 : ∀ j, j < n → w.cell? ⟨D.bl, j, none⟩ = some (.bool false) := fun j hj => by
  rw [h3.cell, madeCells_get _ _ _ hj]
  have : j % (#[Value.bool false] : Array Value).size = 0 := Nat.mod_one j
  rw [this]
  rfl
 refine ⟨⟨0, hd⟩, fun i hi j v hj => ?_, fun i hi => by simp, fun j hj => ⟨?_, h1.frozen _⟩, fun j hj => ⟨?_, h2.frozen _⟩, fun j hj => ⟨?_, h3.frozen _⟩, fun i hi => ⟨false, g3 i hi⟩, n0, n1, hne, h1.ne_ h3 (by decide), h2.ne_ h3 (by decide), hd.ne_ h1 (by decide), hd.ne_ h2 (by decide), hd.ne_ h3 (by decide)⟩
 ·have hj64 : j < 64 := by
   have := (List.getElem?_eq_some_iff.1 hj).1
   simpa [cB] using this
  have hv : v = .int .u8 0 := by
   rw [cB, List.getElem?_map] at hj
   rw [List.getElem?_replicate, if_pos hj64] at hj
   simp at hj
   exact hj.symm
  rw [hv]
  exact g1 h1 _ (by omega)
 ·rw [Nat.zero_add, g1 h1 j hj]; rfl
 ·rw [Nat.zero_add, g1 h2 j hj]; rfl
 ·rw [Nat.zero_add, g3 j hj]; rfl
section
variable (w : World) (a b c d : Array Value) (ta tb tc td : TypeId)
theorem four0 : Blk ((((w.alloc (.cells a ta)).alloc (.cells b tb)).alloc (.cells c tc)).alloc (.cells d td)).drew w.heap.size ta a := ((((Blk.new w ta a).alloc _).alloc _).alloc _).drew
theorem four1 : Blk ((((w.alloc (.cells a ta)).alloc (.cells b tb)).alloc (.cells c tc)).alloc (.cells d td)).drew (w.heap.size + 1) tb b := by
 have := (((Blk.new (w.alloc (.cells a ta)) tb b).alloc (.cells c tc)).alloc (.cells d td)).drew
 simpa using this
theorem four2 : Blk ((((w.alloc (.cells a ta)).alloc (.cells b tb)).alloc (.cells c tc)).alloc (.cells d td)).drew (w.heap.size + 1 + 1) tc c := by
 have := ((Blk.new ((w.alloc (.cells a ta)).alloc (.cells b tb)) tc c).alloc (.cells d td)).drew
 simpa using this
theorem four3 : Blk ((((w.alloc (.cells a ta)).alloc (.cells b tb)).alloc (.cells c tc)).alloc (.cells d td)).drew (w.heap.size + 1 + 1 + 1) td d := by
 have := (Blk.new (((w.alloc (.cells a ta)).alloc (.cells b tb)).alloc (.cells c tc)) td d).drew
 simpa using this
theorem four_below : Below w.heap.size w ((((w.alloc (.cells a ta)).alloc (.cells b tb)).alloc (.cells c tc)).alloc (.cells d td)).drew :=
 below_drewN (((((Below.refl _ w).alloc (Nat.le_refl _) _).alloc (by simp) _).alloc (by simp; omega) _).alloc (by simp; omega) _) 1
end
set_option maxHeartbeats 4000000 in
theorem disk_new (n : Nat) (n0 : 0 < n) (n1 : n ≤ 4096) (w : World) :
  Calls Tryz.prog 89 #[.int .i64 n] w fun e w' => ∃ D sec, e = .returned (.tuple #[.pointer (some ⟨D.d, 0, none⟩), .int .i64 0]) ∧ DkI w' D n sec ∧ Below w.heap.size w w' ∧ ∀ b ∈ dkOwn D, w.heap.size ≤ b := by
 have m1 := fun (W : World) => mkBytes n n1 W
 have m2 := fun (W : World) => mkBools n n1 W
 have h1 : ¬ ((n : Int) < 1) := by omega
 have h2 : ¬ (4096 < (n : Int)) := by omega
 have HN := hid (⟨n0, n1⟩ : _ ∧ _)
 have n01 : w.heap.size ≠ w.heap.size + 1 := by omega
 have n02 : w.heap.size ≠ w.heap.size + 1 + 1 := by omega
 have n12 : w.heap.size + 1 ≠ w.heap.size + 1 + 1 := by omega
 clear n0 n1
 go_enter Tryz.func89, Tryz.ntmps89
 go_wp2
 go_region
 all_goals
  go_wp2
  go_ret2
  first
   | exact ⟨⟨w.heap.size + 1 + 1 + 1, w.heap.size, w.heap.size + 1, w.heap.size + 1 + 1⟩, _, rfl, DkI.mk_ (four3 ..) (four0 ..) (four1 ..) (four2 ..) HN.out.1 HN.out.2 (by first | exact n01 | exact n02 | exact n12 | exact n01.symm | exact n02.symm | exact n12.symm), four_below .., fun b hb => by simp [dkOwn] at hb; omega⟩
   | exact ⟨⟨w.heap.size + 1 + 1 + 1, w.heap.size, w.heap.size + 1 + 1, w.heap.size + 1⟩, _, rfl, DkI.mk_ (four3 ..) (four0 ..) (four2 ..) (four1 ..) HN.out.1 HN.out.2 (by first | exact n01 | exact n02 | exact n12 | exact n01.symm | exact n02.symm | exact n12.symm), four_below .., fun b hb => by simp [dkOwn] at hb; omega⟩
   | exact ⟨⟨w.heap.size + 1 + 1 + 1, w.heap.size + 1, w.heap.size, w.heap.size + 1 + 1⟩, _, rfl, DkI.mk_ (four3 ..) (four1 ..) (four0 ..) (four2 ..) HN.out.1 HN.out.2 (by first | exact n01 | exact n02 | exact n12 | exact n01.symm | exact n02.symm | exact n12.symm), four_below .., fun b hb => by simp [dkOwn] at hb; omega⟩
   | exact ⟨⟨w.heap.size + 1 + 1 + 1, w.heap.size + 1, w.heap.size + 1 + 1, w.heap.size⟩, _, rfl, DkI.mk_ (four3 ..) (four1 ..) (four2 ..) (four0 ..) HN.out.1 HN.out.2 (by first | exact n01 | exact n02 | exact n12 | exact n01.symm | exact n02.symm | exact n12.symm), four_below .., fun b hb => by simp [dkOwn] at hb; omega⟩
   | exact ⟨⟨w.heap.size + 1 + 1 + 1, w.heap.size + 1 + 1, w.heap.size, w.heap.size + 1⟩, _, rfl, DkI.mk_ (four3 ..) (four2 ..) (four0 ..) (four1 ..) HN.out.1 HN.out.2 (by first | exact n01 | exact n02 | exact n12 | exact n01.symm | exact n02.symm | exact n12.symm), four_below .., fun b hb => by simp [dkOwn] at hb; omega⟩
   | exact ⟨⟨w.heap.size + 1 + 1 + 1, w.heap.size + 1 + 1, w.heap.size + 1, w.heap.size⟩, _, rfl, DkI.mk_ (four3 ..) (four2 ..) (four1 ..) (four0 ..) HN.out.1 HN.out.2 (by first | exact n01 | exact n02 | exact n12 | exact n01.symm | exact n02.symm | exact n12.symm), four_below .., fun b hb => by simp [dkOwn] at hb; omega⟩
theorem DkI.clear_ {w : World} {D : DkL} {n : Nat} {sec : Nat → Bs} (h : DkI w D n sec) : DkI (w.setCells D.bl 0 (List.replicate n (.bool false))) D n sec := by
 have e : ∀ b, b ≠ D.bl → (w.setCells D.bl 0 (List.replicate n (.bool false))).heap[b]? = w.heap[b]? := fun b hb => heap_setCells D.bl _ 0 w b hb
 have hin : ∀ j, j < n → (w.setCells D.bl 0 (List.replicate n (.bool false))).cell? ⟨D.bl, 0 + j, none⟩ = some (.bool false) := fun j hj => by
  rw [World.cell?_setCells_in D.bl (List.replicate n (.bool false)) 0 w (fun k hk => (h.tl k (by simpa using hk)).1) j (by simpa using hj)]
  simp
 obtain ⟨calls, hc⟩ := h.cells
 refine ⟨⟨calls, (e _ h.ne6).trans hc⟩, fun i hi => rangeAt_of (h.now i hi) (e _ h.ne2), h.len, there_of h.tn (e _ h.ne2), there_of h.to (e _ h.ne3), fun j hj => ⟨?_, ?_⟩, fun i hi => ⟨false, ?_⟩, h.n0, h.n1, h.ne1, h.ne2, h.ne3, h.ne4, h.ne5, h.ne6⟩
 ·rw [hin j hj]; rfl
 ·rw [World.frozen?_setCells]; exact (h.tl j hj).2
 ·have := hin i hi
  rwa [Nat.zero_add] at this
theorem DkI.calls_ {w : World} {D : DkL} {n : Nat} {sec : Nat → Bs} (h : DkI w D n sec) (k : Int) : DkI (w.setCell ⟨D.d, 4, none⟩ (.int .i64 k)) D n sec := by
 have e : ∀ b, b ≠ D.d → (w.setCell ⟨D.d, 4, none⟩ (.int .i64 k)).heap[b]? = w.heap[b]? := fun b hb => Below.heap_setCell w ⟨D.d, 4, none⟩ _ b hb
 obtain ⟨calls, hc⟩ := h.cells
 exact ⟨⟨k, by simpa [dkCells] using hc.set_ 4 (.int .i64 k)⟩, fun i hi => rangeAt_of (h.now i hi) (e _ h.ne4.symm), h.len, there_of h.tn (e _ h.ne4.symm), there_of h.to (e _ h.ne5.symm), there_of h.tl (e _ h.ne6.symm),
  fun i hi => by rw [World.cell?_of_block (a := ⟨D.bl, i, none⟩) (e _ h.ne6.symm)]; exact h.bl i hi, h.n0, h.n1, h.ne1, h.ne2, h.ne3, h.ne4, h.ne5, h.ne6⟩
theorem zeroBool (w : World) : (zeroValue 4).run Tryz.prog w = .ok (.bool false) w := by kernel_rfl
set_option maxHeartbeats 4000000 in
theorem disk_sync {w : World} {D : DkL} {n : Nat} {sec : Nat → Bs} (h : DkI w D n sec) :
  Calls Tryz.prog 142 #[.pointer (some ⟨D.d, 0, none⟩)] w fun e w' => e = .returned (.int .i64 0) ∧ DkI w' D n sec ∧ Kp (dkOwn D) w w' := by
 have HW := hid (disk_works h)
 have HC := hid (disk_counts h)
 have HX := hid h
 clear h
 go_enter Tryz.func142, Tryz.ntmps142
 go_wp2_with fail
 (with_reducible refine HW.out.mono ?_)
 rintro e w1 ⟨rfl, rfl⟩
 go_wp2_with fail
 (with_reducible refine HC.out.mono ?_)
 rintro e w1 ⟨rfl, calls', rfl⟩
 have h1 := HX.out.calls_ calls'
 have hk1 : Kp (dkOwn D) w (w.setCell ⟨D.d, 4, none⟩ (.int .i64 calls')) := (Kp.refl _ w).setCell (.inl (by simp [dkOwn])) _
 obtain ⟨W1, hW1⟩ : ∃ W1, W1 = w.setCell ⟨D.d, 4, none⟩ (.int .i64 calls') := ⟨_, rfl⟩
 rw [← hW1] at h1 hk1 ⊢
 clear hW1
 obtain ⟨calls, hc⟩ := h1.cells
 have h2 : W1.cell? ⟨D.d, 2, none⟩ = some (.slice (some ⟨D.bl, 0, none⟩) n n) := hc.cell 2
 have hcl : ∀ ty, (Builtin.clear_ #[251] ty #[.slice (some ⟨D.bl, 0, none⟩) n n]).run Tryz.prog W1 = .ok (.tuple #[]) (W1.setCells D.bl 0 (List.replicate n (.bool false))) := fun ty =>
  run_clear_slice W1 251 4 ty (.bool false) Tryz.underlying251 zeroBool rfl rfl D.bl 0 n n h1.n0 (fun j hj => (h1.tl j hj).1) (fun j hj => (h1.tl j hj).2)
 have HF := hid (⟨h1.clear_, hk1.trans ((kp_setCells D.bl (List.replicate n (.bool false)) 0 W1).mono (fun x hx => by simp at hx; subst hx; exact .inl (by simp [dkOwn])))⟩ : _ ∧ _)
 clear hc h1 hk1
 go_wp2
 go_ret
 exact ⟨rfl, HF.out⟩
end
section
open Go.RowKit Go.Lib
theorem row_ofR {w w' : World} {B s n : Nat} {T : TypeId} {v : Value} {xs : List Value} (h : w.ownsRow B T s v n xs) (e : ∀ b, v.ownBlock = some b → w'.heap[b]? = w.heap[b]?) : w'.ownsRow B T s v n xs := by
 refine ⟨h.1, ?_⟩
 rcases h.2 with h3 | ⟨g, cap, cur, e1, e2, e3, e4⟩
 ·exact .inl h3
 ·exact .inr ⟨g, cap, cur, e1, e2, (e g (by rw [e1]; rfl)).trans e3, e4⟩
theorem own_slice2R {w : World} {B : Nat} {T : TypeId} {s n : Nat} {v : Value} {xs : List Value} (h : w.ownsRow B T s v n xs) : ∃ p c, v = .slice p n c := by
 rcases h.2 with ⟨h, h0⟩ | ⟨g, cap, cur, h, _⟩
 ·exact ⟨none, 0, by rw [h, h0]⟩
 ·exact ⟨_, _, h⟩
theorem need0_any (w : World) : Calls Tryz.prog 209 #[.int .i64 0] w fun e w' => e = .returned (.int .i64 0) ∧ w = w' := by
 go_enter Tryz.func209, Tryz.ntmps209
 go_wp2
 go_ret
 exact ⟨rfl, rfl⟩
set_option maxHeartbeats 4000000 in
theorem right1_any (w : World) : Calls Tryz.prog 178 #[.agg #[.int .i64 1, .int .i64 0, .slice none 0 0]] w fun e w' => e = .returned (.bool true) ∧ Below w.heap.size w w' := by
 have HN := hid (fun (W1 : World) => BelC.call_same (W1 := W1) need0_any)
 obtain ⟨W1, hW1⟩ : ∃ W1, W1 = w.alloc (.cells #[.int .i64 1, .int .i64 0, .slice none 0 0] 262) := ⟨_, rfl⟩
 have hb1 : Below w.heap.size w W1 := by rw [hW1]; exact (Below.refl _ w).alloc (Nat.le_refl _) _
 have hB1 : Blk W1 w.heap.size 262 #[.int .i64 1, .int .i64 0, .slice none 0 0] := by rw [hW1]; exact Blk.new w _ _
 have HCL : Hid (∀ W, BelC W1 W → W.cell? ⟨w.heap.size, 0, none⟩ = some (.int .i64 1) ∧ W.cell? ⟨w.heap.size, 1, none⟩ = some (.int .i64 0) ∧ W.cell? ⟨w.heap.size, 2, none⟩ = some (.slice none 0 0)) := hid fun W hW => by
  have h1 := hW.blk hB1
  exact ⟨h1.cell 0, h1.cell 1, h1.cell 2⟩
 have HF : Hid (∀ W, BelC W1 W → Below w.heap.size w W) := hid fun W hW => hb1.trans (hW.out.mono hb1.size)
 have H1 := hid (HN.out W1)
 clear hb1 hB1 HN
 go_enter Tryz.func178, Tryz.ntmps178
 go_wp2
 rw [← hW1]
 clear hW1
 refine qC_region (by kernel_rfl) (by kernel_rfl) (BelC W1) (BelC.drew W1) ?_
 repeat (first | (refine qC_none rfl (fun K hK => ?_); apply Exists.intro; refine ⟨fun w0 hw0 => ?_, ?_⟩; (focus (obtain ⟨q0, q1, q2⟩ := HCL.out w0 hw0; go_simp; first | exact rfl | exact ⟨rfl, rfl⟩ | (exact H1.out w0 hw0))); go_simp; refine hK _ ?_; clear hK K) | (refine qC_yes _ _ _ rfl rfl (by rfl) (fun K hK => ?_); apply Exists.intro; refine ⟨fun w0 hw0 => ?_, ?_⟩; (focus (obtain ⟨q0, q1, q2⟩ := HCL.out w0 hw0; go_simp; first | exact rfl | exact ⟨rfl, rfl⟩ | (exact H1.out w0 hw0))); go_simp; refine hK _ ?_; clear hK K) | (refine qC_no _ _ _ rfl rfl (by rfl) (fun K hK => ?_); go_simp; refine hK _ ?_; clear hK K) | (refine qC_undef _ _ _ rfl rfl (by rfl) (fun K hK => ?_); go_simp; refine hK _ ?_; clear hK K))
 refine qC_nil ?_
 intro w5 hw5
 obtain ⟨q0, q1, q2⟩ := HCL.out w5 hw5
 have H5 := hid (HF.out w5 hw5)
 have hlt := block_lt_of_cell q0
 clear hw5
 go_wp2
 go_loopg [3, 4, 35] 0 (fun gg s3 s4 s35 wr => s35 = .int .i64 0 ∧ wr = w5)
 case atStart => exact ⟨rfl, rfl⟩
 case round =>
  obtain ⟨rfl, rfl⟩ := hrel
  go_wp2
  go_ret
  exact ⟨rfl, H5.out⟩
theorem two0_any (B : Nat) (v : Value) (b : Bs) (w : World) (h : w.ownsRow B 5 1 v b.length (cB b)) (hb : b.length ≤ 1000) (hB : B ≤ w.heap.size) :
  Calls Tryz.prog 179 #[v, .int .i64 0] w fun e w' => ∃ v', e = .returned v' ∧ w'.ownsRow B 5 1 v' (b ++ [0, 0]).length (cB (b ++ [0, 0])) ∧ Below B w w' := by
 go_enter Tryz.func179, Tryz.ntmps179
 obtain ⟨i0, hi, hz0, hz1, hz2⟩ := info_parts inf5
 have HH := hid h
 clear h
 go_wp2_with (with_reducible refine stopAt .append rfl ?_)
 with_reducible refine goOn ?_
 refine wpList_append_own_at _ rfl _ _ 129 rfl B 5 i0 (.int .u8 0) 1 1 Tryz.underlying129 hi hz0 hz1 hz2 rfl (by decide) _ _ _ rfl (HH.out.alloc _) ⟨w.heap.size, 0, none⟩ 2 2 [.int .u8 0, .int .u8 0] rfl rfl ?c1 ?c2 ?c3 ?c4 ?c5 ?_
 case c1 =>
  intro j u hj
  have hb := Blk.new w 5 #[.int .u8 0, .int .u8 0]
  rw [Addr.add_mid, Nat.zero_add, hb.cell]
  simpa using hj
 case c2 => intro u hu; simp at hu; subst hu; rfl
 case c3 => unfold maxLen; omega
 case c4 => omega
 case c5 => simp; omega
 intro v' w1 hown' hgr _ hat
 have HF : Hid (w1.ownsRow B 5 1 v' (b ++ [0, 0]).length (cB (b ++ [0, 0])) ∧ Below B w w1) := hid ⟨own_eq hown' (by simp) (by simp [cB]), (((Below.refl B w).alloc hB _).grown hgr (by simp; omega) (fun g hg => (HH.out.lt g hg).1))⟩
 clear hown' hgr hat
 go_wp2
 go_ret
 exact ⟨v', rfl, HF.out⟩
theorem run_index5_0 (w : World) : (Instr.index 312 (.agg #[.int .i64 0, .int .i64 0, .int .i64 0, .int .i64 0, .int .i64 0]) (.int .i64 0)).run Tryz.prog w = .ok (.int .i64 0) w := by kernel_rfl
theorem run_index5_1 (w : World) : (Instr.index 312 (.agg #[.int .i64 0, .int .i64 0, .int .i64 0, .int .i64 0, .int .i64 0]) (.int .i64 1)).run Tryz.prog w = .ok (.int .i64 0) w := by kernel_rfl
theorem run_index5_2 (w : World) : (Instr.index 312 (.agg #[.int .i64 0, .int .i64 0, .int .i64 0, .int .i64 0, .int .i64 0]) (.int .i64 2)).run Tryz.prog w = .ok (.int .i64 0) w := by kernel_rfl
theorem run_index5_3 (w : World) : (Instr.index 312 (.agg #[.int .i64 0, .int .i64 0, .int .i64 0, .int .i64 0, .int .i64 0]) (.int .i64 3)).run Tryz.prog w = .ok (.int .i64 0) w := by kernel_rfl
theorem run_index5_4 (w : World) : (Instr.index 312 (.agg #[.int .i64 0, .int .i64 0, .int .i64 0, .int .i64 0, .int .i64 0]) (.int .i64 4)).run Tryz.prog w = .ok (.int .i64 0) w := by kernel_rfl
theorem run_index5 (j : Nat) (hj : j < 5) (w : World) : (Instr.index 312 (.agg #[.int .i64 0, .int .i64 0, .int .i64 0, .int .i64 0, .int .i64 0]) (.int .i64 (j : Int))).run Tryz.prog w = .ok (.int .i64 0) w := by
 have h : j = 0 ∨ j = 1 ∨ j = 2 ∨ j = 3 ∨ j = 4 := by omega
 rcases h with rfl | rfl | rfl | rfl | rfl
 ·exact run_index5_0 w
 ·exact run_index5_1 w
 ·exact run_index5_2 w
 ·exact run_index5_3 w
 ·exact run_index5_4 w
set_option maxHeartbeats 8000000 in
theorem rootput_any (w : World) : Calls Tryz.prog 140 #[.agg #[.int .i64 1, .int .i64 0, .slice none 0 0]] w fun e w' => ∃ b : Bs, e = .returned (.tuple #[.string (S b), .int .i64 0]) ∧ b.length = 64 ∧ Below w.heap.size w w' := by
 have HR := hid (fun W => right1_any W)
 have H2 := hid (fun v b W h1 h2 h3 => two0_any (w.heap.size + 1) v b W h1 h2 h3)
 go_enter Tryz.func140, Tryz.ntmps140
 go_wp2_with fail
 (with_reducible refine (HR.out _).mono ?_)
 rintro e W1 ⟨rfl, hb1⟩
 have hB1 := (Blk.new w 262 #[.int .i64 1, .int .i64 0, .slice none 0 0]).below hb1 (Blk.new _ _ _).lt
 have hb01 : Below w.heap.size w W1 := ((Below.refl _ w).alloc (Nat.le_refl _) (.cells #[.int .i64 1, .int .i64 0, .slice none 0 0] 262)).trans (hb1.mono (by simp))
 have HK : Hid (∀ W, Below (w.heap.size + 1) W1 W → W.cell? ⟨w.heap.size, 0, none⟩ = some (.int .i64 1) ∧ W.cell? ⟨w.heap.size, 1, none⟩ = some (.int .i64 0) ∧ W.cell? ⟨w.heap.size, 2, none⟩ = some (.slice none 0 0)) := hid fun W hW => by
  have h := hB1.below hW (by omega)
  exact ⟨h.cell 0, h.cell 1, h.cell 2⟩
 have H1 := hid (⟨hB1, hb01⟩ : _ ∧ _)
 have hs1 : w.heap.size + 1 ≤ W1.heap.size := by have := hB1.lt; omega
 have HS := hid (HK.out W1 (Below.refl _ _))
 have hn : ∀ W : World, W.ownsRow (w.heap.size + 1) 5 1 (.slice none 0 0) ([] : Bs).length (cB []) := fun W => ⟨rfl, .inl ⟨rfl, rfl⟩⟩
 have HN := hid hn
 clear hb1 hB1 hb01 hn
 go_wp2
 go_region_held3 (fun W => W.cell? ⟨w.heap.size, 0, none⟩ = some (.int .i64 1) ∧ W.cell? ⟨w.heap.size, 1, none⟩ = some (.int .i64 0) ∧ W.cell? ⟨w.heap.size, 2, none⟩ = some (.slice none 0 0)) (first | exact HK.out _ hbC | exact HK.out _ hbA | exact HS.out)
  (first
   | (go_at_call 179; refine (H2.out _ [0, 0] _ hoA (by simp) hsA).mono ?_; rintro e W3 ⟨vB, rfl, hoB, hbB⟩; have hbC : Below (w.heap.size + 1) W1 W3 := hbA.trans hbB; have hsB : w.heap.size + 1 ≤ W3.heap.size := Nat.le_trans hs1 hbC.size)
   | (go_at_call 179; refine (H2.out (.slice none 0 0) [] _ (HN.out _) (by simp) (by exact hs1)).mono ?_; rintro e W2 ⟨vA, rfl, hoA, hbA'⟩; have hbA : Below (w.heap.size + 1) W1 W2 := ⟨hbA'.os, hbA'.tape, hbA'.output, hbA'.size, hbA'.block⟩; have hsA : w.heap.size + 1 ≤ W2.heap.size := Nat.le_trans hs1 hbA.size))
 all_goals
  obtain ⟨q0, q1, q2⟩ := HK.out W3 hbC
  have hlr := block_lt_of_cell q0
  have H3 := hid (⟨hoB, hbC⟩ : _ ∧ _)
  have hcp : ∀ (ad : Option Addr) (W : World) ty, (Builtin.copy_ #[27, 27] ty #[.slice ad 5 5, .slice none 0 0]).run Tryz.prog W = .ok (.int .i64 0) W := fun ad W ty => run_copy_none W 27 27 ty 3 ad none 5 5 0 0 Tryz.underlying27 (by kernel_rfl) rfl
  clear hoB hbC hbA hbA' hbB hoA
  go_wp2
  go_region
  all_goals
   go_wp2
   have HI0 : Hid (((W3.alloc (.cells #[.int .i64 0, .int .i64 0, .int .i64 0, .int .i64 0, .int .i64 0] 312)).drew).ownsRow (w.heap.size + 1) 5 1 vB ([0, 0, 0, 0] : Bs).length (cB [0, 0, 0, 0]) ∧ Below (w.heap.size + 1) W1 ((W3.alloc (.cells #[.int .i64 0, .int .i64 0, .int .i64 0, .int .i64 0, .int .i64 0] 312)).drew)) := hid ⟨row_ofR (H3.out.1.alloc _) (fun _ _ => rfl), below_drewN (H3.out.2.alloc hsB _) 1⟩
   go_loopg [4, 7, 24] 5 (fun gg s4 s7 s24 wr => ∃ (j : Nat) (v : Value) (b : Bs), j ≤ 5 ∧ 5 - j ≤ gg ∧ s24 = .int .i64 j ∧ s4 = v ∧ Hid (wr.ownsRow (w.heap.size + 1) 5 1 v b.length (cB b) ∧ b.length = 4 + 2 * j ∧ Below (w.heap.size + 1) W1 wr))
   case atStart => exact ⟨0, vB, [0, 0, 0, 0], by omega, by omega, rfl, rfl, hid ⟨HI0.out.1, rfl, HI0.out.2⟩⟩
   case round =>
    obtain ⟨j, v, b, hj, hgg, rfl, rfl, HI⟩ := hrel
    by_cases hje : j < 5
    ·have hix := run_index5 j hje
     have hji : (j : Int) < 5 := by omega
     have HT := hid (H2.out _ b wr HI.out.1 (by have := HI.out.2.1; omega) (Nat.le_trans hs1 HI.out.2.2.size))
     go_wp2_with fail
     (with_reducible refine HT.out.mono ?_)
     rintro e W5 ⟨v5, rfl, ho5, hb5⟩
     have H5 : Hid (W5.ownsRow (w.heap.size + 1) 5 1 v5 (b ++ [0, 0]).length (cB (b ++ [0, 0])) ∧ (b ++ [0, 0]).length = 4 + 2 * (j + 1) ∧ Below (w.heap.size + 1) W1 W5) := hid ⟨ho5, by have := HI.out.2.1; simp; omega, HI.out.2.2.trans hb5⟩
     clear ho5 hb5
     go_wp2
     go_roundg (5 - (j + 1))
     case measure => omega
     case rel => exact ⟨j + 1, v5, _, by omega, by omega, by go_num, rfl, H5⟩
    ·have hj5 : j = 5 := by omega
     subst hj5
     obtain ⟨i0, hi0, hz0, hz1, hz2⟩ := info_parts inf5
     go_wp2
     go_loopg [4] 44 (fun gg s4 wr => ∃ (v : Value) (b : Bs), b.length ≤ 44 ∧ 44 - b.length ≤ gg ∧ s4 = v ∧ Hid (wr.ownsRow (w.heap.size + 1) 5 1 v b.length (cB b) ∧ Below (w.heap.size + 1) W1 wr))
     case atStart => exact ⟨_, b, by have := HI.out.2.1; omega, by omega, rfl, hid ⟨HI.out.1, HI.out.2.2⟩⟩
     case round =>
      obtain ⟨v, b, hbl, hgg, rfl, HJ⟩ := hrel
      obtain ⟨n, hn⟩ : ∃ n, n = b.length := ⟨_, rfl⟩
      have HN2 := hid hn
      have ho := HJ.out.1
      rw [← hn] at ho hbl hgg
      obtain ⟨pa, pc, rfl⟩ := own_slice2R ho
      have HO := hid ho
      clear hn ho
      by_cases hlt : n < 44
      ·have hlti : (n : Int) < 44 := by omega
       go_wp2_with (with_reducible refine stopAt .append rfl ?_)
       with_reducible refine goOn ?_
       refine wpList_append_own_at _ rfl _ _ 129 rfl (w.heap.size + 1) 5 i0 (.int .u8 0) 1 1 Tryz.underlying129 hi0 hz0 hz1 hz2 rfl (by decide) _ _ _ rfl (HO.out.alloc _) ⟨wr.heap.size, 0, none⟩ 1 1 [.int .u8 0] rfl rfl ?c1 ?c2 ?c3 ?c4 ?c5 ?_
       case c1 => exact news1 _ _ _ rfl
       case c2 => exact one1 rfl
       case c3 => unfold maxLen; omega
       case c4 => omega
       case c5 => have := HJ.out.2.size; simp; omega
       intro v' w5 hown' hgr _ _
       have HF : Hid (w5.ownsRow (w.heap.size + 1) 5 1 v' (b ++ [0]).length (cB (b ++ [0])) ∧ Below (w.heap.size + 1) W1 w5) := hid ⟨own_eq hown' (by simp [HN2.out]) (by simp [cB]), ((HJ.out.2.alloc (Nat.le_trans hs1 HJ.out.2.size) _).grown hgr (by have := HJ.out.2.size; simp; omega) (fun g hg => (HO.out.lt g hg).1))⟩
       clear hown' hgr
       go_wp2
       go_roundg (44 - (n + 1))
       case measure => omega
       case rel => exact ⟨v', b ++ [0], by have := HN2.out; simp; omega, by have := HN2.out; simp; omega, rfl, HF⟩
      ·have hn4 : n = 44 := by omega
       have hlti : ¬ (n : Int) < 44 := by omega
       have hcv := fun (W : World) (h : W.ownsRow (w.heap.size + 1) 5 1 (.slice pa n pc) b.length (cB b)) => own_string h
       have hcv2 := hcv wr (by rw [← HN2.out]; exact HO.out)
       have HCR := hid (fun W => crcLay_any b W (by have := HN2.out; omega) (by have := HN2.out; omega))
       have hlc : (crcLay b).length = 48 := by have := HN2.out; simp; omega
       have HN4 := hid hn4
       clear hcv hn4
       go_wp2_with fail
       (with_reducible refine (HCR.out _).mono ?_)
       rintro e W6 ⟨rfl, hb6⟩
       have hb16 : Below (w.heap.size + 1) W1 W6 := HJ.out.2.trans (hb6.mono (Nat.le_trans hs1 HJ.out.2.size))
       have HCL : Hid (∀ W, BelC W6 W → W.cell? ⟨w.heap.size, 0, none⟩ = some (.int .i64 1)) := hid fun W hW => (HK.out W (hb16.trans (hW.out.mono (Nat.le_trans hs1 hb16.size)))).1
       have HI1 := hid (BelC.call (W1 := W6) (fun W => packI_any 1 W (by omega) (by omega)))
       have HFB : Hid (∀ W, BelC W6 W → Below w.heap.size w W) := hid fun W hW => H1.out.2.trans ((hb16.mono (Nat.le_succ _)).trans (hW.out.mono (Nat.le_trans H1.out.2.size hb16.size)))
       have hl8 : (encI 1).length = 8 := encI_length 1
       obtain ⟨cb, hcb⟩ : ∃ cb, cb = crcLay b := ⟨_, rfl⟩
       rw [← hcb] at hlc ⊢
       clear hcb hb6 hb16 hcv2
       go_wp2
       refine qC_region (by kernel_rfl) (by kernel_rfl) (BelC W6) (BelC.drew W6) ?_
       repeat (first | (refine qC_none rfl (fun K hK => ?_); apply Exists.intro; refine ⟨fun w0 hw0 => ?_, ?_⟩; (focus (have q0 := HCL.out w0 hw0; go_simp; first | exact rfl | exact ⟨rfl, rfl⟩ | (exact HI1.out w0 hw0))); go_simp; refine hK _ ?_; clear hK K) | (refine qC_yes _ _ _ rfl rfl (by rfl) (fun K hK => ?_); apply Exists.intro; refine ⟨fun w0 hw0 => ?_, ?_⟩; (focus (have q0 := HCL.out w0 hw0; go_simp; first | exact rfl | exact ⟨rfl, rfl⟩ | (exact HI1.out w0 hw0))); go_simp; refine hK _ ?_; clear hK K) | (refine qC_no _ _ _ rfl rfl (by rfl) (fun K hK => ?_); go_simp; refine hK _ ?_; clear hK K) | (refine qC_undef _ _ _ rfl rfl (by rfl) (fun K hK => ?_); go_simp; refine hK _ ?_; clear hK K))
       refine qC_nil ?_
       intro w7 hw7
       have H7 := hid (HFB.out w7 hw7)
       have HLC := hid hlc
       clear hw7
       go_wp2
       go_ret2
       exact ⟨_, rfl, by have := HLC.out; simp; omega, H7.out⟩
end
section
open Go.RowKit Go.Lib
theorem madeCells_one (z : Value) (n : Nat) : madeCells #[z] n = (List.replicate n z).toArray := by
 apply Array.ext
 ·rw [size_madeCells]; simp
 ·intro i h1 h2
  rw [size_madeCells] at h1
  have := madeCells_get #[z] n i h1
  rw [Array.getElem?_eq_getElem (by rw [size_madeCells]; exact h1)] at this
  injection this with this
  rw [this]
  have e : i % (#[z] : Array Value).size = 0 := Nat.mod_one i
  rw [e]
  simp
theorem infInt1 : (Tryz.prog.info? 3).map (fun i => (i.zero, i.size, i.bytes)) = some (some (.int .i64 0), 1, 8) := by kernel_rfl
set_option maxHeartbeats 2000000 in
theorem freemap_new (n : Nat) (n0 : 0 < n) (n1 : n ≤ 1024) (w : World) :
  Calls Tryz.prog 139 #[.int .i64 n] w fun e w' => ∃ m ml, e = .returned (.tuple #[.pointer (some ⟨m, 0, none⟩), .int .i64 0]) ∧ MpI w' m ml (List.replicate n 0) ∧ Below w.heap.size w w' ∧ w.heap.size ≤ m ∧ w.heap.size ≤ ml := by
 have hmk := fun (W : World) => run_make_row' (P := Tryz.prog) 27 3 (.int .i64 0) 8 Tryz.underlying27 infInt1 rfl .i64 .i64 n (by omega) (by omega) W
 have h1 : ¬ ((n : Int) < 0) := by omega
 have h2 : ¬ (1024 < (n : Int)) := by omega
 have HN := hid (⟨n0, n1⟩ : _ ∧ _)
 clear n0 n1
 go_enter Tryz.func139, Tryz.ntmps139
 go_wp2
 go_ret2
 refine ⟨w.heap.size + 1, rfl, w.heap.size, ⟨?_, ?_, by simpa using HN.out.1, by simpa using HN.out.2⟩, ((Below.refl _ w).alloc (Nat.le_refl _) _).alloc (by simp) _, by omega, Nat.le_refl _⟩
 ·have := Blk.new (w.alloc (.cells (madeCells #[.int .i64 0] n) 3)) 309 #[.slice (some ⟨w.heap.size, 0, none⟩) n n]
  simpa using this
 ·have e : madeCells #[.int .i64 0] n = (cI (List.replicate n 0)).toArray := by rw [madeCells_one, cI, List.map_replicate]
  have := (Blk.new w 3 (madeCells #[.int .i64 0] n)).alloc (.cells #[.slice (some ⟨w.heap.size, 0, none⟩) n n] 309)
  have e2 : Blk ((w.alloc (.cells (madeCells #[.int .i64 0] n) 3)).alloc (.cells #[.slice (some ⟨w.heap.size, 0, none⟩) n n] 309)) w.heap.size 3 (cI (List.replicate n 0)).toArray := e ▸ this
  exact e2
set_option maxHeartbeats 2000000 in
theorem sh_pages {w : World} {D : DkL} {sec : Nat → Bs} (h : DkI w D 1202 sec) : Calls Tryz.prog 138 #[.pointer (some ⟨D.d, 0, none⟩)] w fun e w' => e = .returned (.int .i64 300) ∧ w = w' := by
 have HM := hid (page_many h 300 rfl)
 clear h
 go_enter Tryz.func138, Tryz.ntmps138
 go_wp2_with fail
 (with_reducible refine HM.out.mono ?_)
 rintro e w1 ⟨rfl, rfl⟩
 go_wp2
 go_ret
 exact ⟨rfl, rfl⟩
set_option maxHeartbeats 8000000 in
theorem sh_format {w : World} {D : DkL} {sec : Nat → Bs} (h : DkI w D 1202 sec) :
  Calls Tryz.prog 90 #[.pointer (some ⟨D.d, 0, none⟩)] w fun e w' => ∃ L G, e = .returned (.tuple #[.pointer (some ⟨L.s, 0, none⟩), .int .i64 0]) ∧ ShI w' L G [] ∧ Kp (dkOwn D) w w' ∧ ∀ b ∈ shOwn L G, b ∈ dkOwn D ∨ w.heap.size ≤ b := by
 have HP := hid (fun W (hW : Below w.heap.size w W) => sh_pages (h.below hW))
 have HFM := hid (fun W => freemap_new 300 (by omega) (by omega) W)
 rw [show ((300 : Nat) : Int) = 300 from rfl] at HFM
 have HRP := hid (fun W => rootput_any W)
 have HX := hid h
 have hdl := hid h.lts
 clear h
 go_enter Tryz.func90, Tryz.ntmps90
 go_wp2_with fail
 (with_reducible refine (HP.out _ (Below.refl _ _)).mono ?_)
 rintro e w1 ⟨rfl, rfl⟩
 have HP2 := hid (HP.out _ ((Below.refl _ w).alloc (Nat.le_refl _) (.cells #[.pointer (some ⟨D.d, 0, none⟩), .pointer none, .slice none 0 0, .slice none 0 0, .slice none 0 0, .int .i64 1, .int .i64 0, .bool false] 257)))
 go_wp2_with fail
 (with_reducible refine HP2.out.mono ?_)
 rintro e w1 ⟨rfl, rfl⟩
 go_wp2_with fail
 (with_reducible refine (HFM.out _).mono ?_)
 rintro e w2 ⟨m, ml, rfl, hM, hb2', hm, hml⟩
 have hb2 : Below w.heap.size w w2 := ((Below.refl _ w).alloc (Nat.le_refl _) (.cells #[.pointer (some ⟨D.d, 0, none⟩), .pointer none, .slice none 0 0, .slice none 0 0, .slice none 0 0, .int .i64 1, .int .i64 0, .bool false] 257)).trans (hb2'.mono (by simp))
 have hS2 := (Blk.new w 257 #[.pointer (some ⟨D.d, 0, none⟩), .pointer none, .slice none 0 0, .slice none 0 0, .slice none 0 0, .int .i64 1, .int .i64 0, .bool false]).below hb2' (Blk.new _ _ _).lt
 have hm' : w.heap.size + 1 ≤ m := by simpa using hm
 have hml' : w.heap.size + 1 ≤ ml := by simpa using hml
 have s1 : w2.cell? ⟨w.heap.size, 1, none⟩ = some (.pointer none) := hS2.cell 1
 have sf1 := hS2.frozen 1
 have slt := hS2.lt
 obtain ⟨w3, hw3⟩ : ∃ w3, w3 = w2.setCell ⟨w.heap.size, 1, none⟩ (.pointer (some ⟨m, 0, none⟩)) := ⟨_, rfl⟩
 have hb3 : Below w.heap.size w w3 := by rw [hw3]; exact hb2.setCell (Nat.le_refl _) _
 have hS3 : Blk w3 w.heap.size 257 #[.pointer (some ⟨D.d, 0, none⟩), .pointer (some ⟨m, 0, none⟩), .slice none 0 0, .slice none 0 0, .slice none 0 0, .int .i64 1, .int .i64 0, .bool false] := by rw [hw3]; simpa using hS2.set_ 1 (.pointer (some ⟨m, 0, none⟩))
 have hM3 : MpI w3 m ml (List.replicate 300 0) := by
  rw [hw3]
  exact hM.of_blocks (Below.heap_setCell _ _ _ _ (by show m ≠ w.heap.size; omega)) (Below.heap_setCell _ _ _ _ (by show ml ≠ w.heap.size; omega))
 have HRP3 := hid (HRP.out w3)
 rw [hw3] at HRP3
 have HW3 := hid hw3
 have H3 := hid (⟨hb3, hS3, hM3, hm', hml'⟩ : _ ∧ _ ∧ _ ∧ _ ∧ _)
 clear hM hb2' hm hml hb2 hS2 hm' hml' hw3 hb3 hS3 hM3 HP2
 go_wp2_with fail
 (with_reducible refine HRP3.out.mono ?_)
 rintro e w4 ⟨b, rfl, hbl, hb4⟩
 rw [← HW3.out] at hb4
 obtain ⟨hb3, hS3, hM3, hm', hml'⟩ := H3.out
 have hb04 := hb3.trans (hb4.mono hb3.size)
 have hS4 := hS3.below hb4 hS3.lt
 have hM4 : MpI w4 m ml (List.replicate 300 0) := hM3.of_blocks (hb4.block m hM3.c.lt) (hb4.block ml hM3.l.lt)
 obtain ⟨W5, hW5⟩ : ∃ W5, W5 = w4.alloc (.cells #[.string (S b), .string ⟨#[]⟩] 9) := ⟨_, rfl⟩
 have hb45 : Below w4.heap.size w4 W5 := by rw [hW5]; exact (Below.refl _ w4).alloc (Nat.le_refl _) _
 have hT5 : Blk W5 w4.heap.size 9 #[.string (S b), .string ⟨#[]⟩] := by rw [hW5]; exact Blk.new w4 _ _
 have hD5 : DkI W5 D 1202 sec := HX.out.below (hb04.trans (hb45.mono hb04.size))
 have HBL := hid hbl
 have HI0 : Hid (∃ sec', DkI W5 D 1202 sec' ∧ Kp (dkOwn D) W5 W5) := hid ⟨sec, hD5, Kp.refl _ _⟩
 have H5 := hid (⟨hb04.trans (hb45.mono hb04.size), hS4.below hb45 hS4.lt, (hM4.of_blocks (hb45.block m hM4.c.lt) (hb45.block ml hM4.l.lt) : MpI W5 m ml (List.replicate 300 0)), hT5, hb04.size, hm', hml', hS4.lt, hM4.c.lt, hM4.l.lt⟩ : _ ∧ _ ∧ _ ∧ _ ∧ _ ∧ _ ∧ _ ∧ _ ∧ _ ∧ _)
 have HW5 := hid hW5
 clear hb3 hS3 hM3 hm' hml' hb04 hS4 hM4 hb45 hT5 hD5 hbl hb4 s1 sf1 slt HRP3 hW5
 go_wp2
 rw [← HW5.out]
 go_loopg [7, 8, 9, 38] 2 (fun gg s7 s8 s9 s38 wr => ∃ (j : Nat), j ≤ 2 ∧ 2 - j ≤ gg ∧ s38 = .int .i64 j ∧ Hid (∃ sec', DkI wr D 1202 sec' ∧ Kp (dkOwn D) W5 wr))
 case atStart => exact ⟨0, by omega, by omega, rfl, HI0⟩
 case round =>
  obtain ⟨j, hj, hgg, rfl, HI⟩ := hrel
  by_cases hje : j < 2
  ·obtain ⟨sec', hD, hk⟩ := HI.out
   obtain ⟨_, _, _, hT5, hsz, _⟩ := H5.out
   have hnd : w4.heap.size ∉ dkOwn D := fun hm => by
    have h1 := HX.out.lts
    simp only [dkOwn, List.mem_cons, List.not_mem_nil, or_false] at hm
    omega
   have hTr := hT5.kp hk hnd
   obtain ⟨tx, htx, htl⟩ : ∃ tx : Bs, wr.cell? ⟨w4.heap.size, j, none⟩ = some (.string (S tx)) ∧ tx.length ≤ 64 := by
    have h2 : j = 0 ∨ j = 1 := by omega
    rcases h2 with rfl | rfl
    ·exact ⟨b, hTr.cell 0, by have := HBL.out; omega⟩
    ·exact ⟨[], hTr.cell 1, by simp⟩
   have HWR := hid (disk_write hD j (by omega) tx htl)
   have HKK := hid hk
   have hji : (j : Int) < 2 := by omega
   clear hD hk hT5 hsz hnd hTr htl
   go_wp2_with fail
   (with_reducible refine HWR.out.mono ?_)
   rintro e w6 ⟨rfl, hD6, hk6⟩
   have H6 : Hid (∃ sec', DkI w6 D 1202 sec' ∧ Kp (dkOwn D) W5 w6) := hid ⟨_, hD6, HKK.out.trans hk6⟩
   clear hD6 hk6
   go_wp2
   go_roundg (2 - (j + 1))
   case measure => omega
   case rel => exact ⟨j + 1, by omega, by omega, by go_num, H6⟩
  ·obtain ⟨sec', hD, hk⟩ := HI.out
   have HSY := hid (disk_sync hD)
   have HKK := hid hk
   have hji : ¬ (j : Int) < 2 := by omega
   clear hD hk
   go_wp2_with fail
   (with_reducible refine HSY.out.mono ?_)
   rintro e w6 ⟨rfl, hD6, hk6⟩
   have hk56 := HKK.out.trans hk6
   obtain ⟨hb05, hS5, hM5, hT5, hsz, hm', hml', hslt, hmlt, hmllt⟩ := H5.out
   have hdlt := HX.out.lts
   have hn1 : w.heap.size ∉ dkOwn D := fun hm => by
    simp only [dkOwn, List.mem_cons, List.not_mem_nil, or_false] at hm; omega
   have hn2 : m ∉ dkOwn D := fun hm => by
    simp only [dkOwn, List.mem_cons, List.not_mem_nil, or_false] at hm; omega
   have hn3 : ml ∉ dkOwn D := fun hm => by
    simp only [dkOwn, List.mem_cons, List.not_mem_nil, or_false] at hm; omega
   have hS6 := hS5.kp hk56 hn1
   have hM6 : MpI w6 m ml (List.replicate 300 0) := hM5.of_blocks (hk56.block m hM5.c.lt hn2) (hk56.block ml hM5.l.lt hn3)
   have hfin : ∃ L G, (⟨w.heap.size, 0, none⟩ : Addr) = ⟨L.s, 0, none⟩ ∧ ShI w6 L G [] ∧ Kp (dkOwn D) w w6 ∧ ∀ b ∈ shOwn L G, b ∈ dkOwn D ∨ w.heap.size ≤ b := by
    refine ⟨⟨D, m, ml, w.heap.size⟩, ⟨_, List.replicate 300 0, [], .slice none 0 0⟩, rfl, ⟨hS6, hD6, hM6, by simp, ⟨rfl, .inl ⟨rfl, rfl⟩⟩, rfl, by simp, by simp, by simp, by simp, fun p k hp => .inl ?_, ?_, ?_⟩, (Kp.of_below hb05).trans hk56, fun b hb => ?_⟩
    ·simp only [List.getElem?_replicate] at hp
     split at hp
     ·injection hp with hp; exact hp.symm
     ·cases hp
    ·simp [somes]
    ·have hmne := hM6.ne
     have := hD6.ne1; have := hD6.ne2; have := hD6.ne3; have := hD6.ne4; have := hD6.ne5; have := hD6.ne6
     simp only [dkOwn, List.mem_cons, List.not_mem_nil, or_false, not_or] at hn1 hn2 hn3
     simp [shOwn, dkOwn, Value.ownBlock]
     refine ⟨⟨?_, ?_, ?_, ?_, ?_, ?_⟩, ⟨?_, ?_, ?_, ?_, ?_⟩, ⟨?_, ?_, ?_, ?_⟩, ⟨?_, ?_, ?_⟩, ⟨?_, ?_⟩, ?_⟩ <;> first | assumption | omega
    ·simp only [shOwn, List.mem_append, List.mem_cons, List.not_mem_nil, or_false] at hb
     rcases hb with (hb | rfl | rfl | rfl) | hb
     ·exact .inl hb
     ·exact .inr (by omega)
     ·exact .inr (by omega)
     ·exact .inr (Nat.le_refl _)
     ·simp [Value.ownBlock] at hb
   have HFIN := hid hfin
   clear hD6 hk6 hk56 hb05 hS5 hM5 hT5 hsz hm' hml' hslt hmlt hmllt hdlt hn1 hn2 hn3 hS6 hM6 hfin
   go_wp2
   go_ret2
   obtain ⟨L, G, e1, h1, h2, h3⟩ := HFIN.out
   exact ⟨L, G, by rw [← e1]; rfl, h1, h2, h3⟩
end
end Go.Proofs.YtnnghcooidjlhaaGreat
