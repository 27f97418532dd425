/- Parts of the proof: Ph Pi Fm. -/
import Derived.Test.YtnnghcooidjlhaaGreatD02
import Derived.Test.YtnnghcooidjlhaaGreatD04
set_option linter.all false
set_option maxRecDepth 100000
namespace Go.Proofs.YtnnghcooidjlhaaGreat
section
open Go.RowKit Go.Lib
section
variable {id ep : Int} {kd : Nat} {pl : Bs}
theorem pageI_0 (h0 : 0 ≤ id) (hi : id ≤ 1000000) : decI (((pageI id ep kd pl).drop 0).take 8) = id := by
 have : ((pageI id ep kd pl).drop 0).take 8 = encI id := by simp [pageI, List.take_append_of_le_length]
 rw [this]; exact decI_encI (by omega) (by omega)
theorem pageI_8 (h1 : 0 ≤ ep) (h2 : ep ≤ 1099511627776) : decI (((pageI id ep kd pl).drop 8).take 8) = ep := by
 have : ((pageI id ep kd pl).drop 8).take 8 = encI ep := by
  simp [pageI, List.drop_append_of_le_length, List.drop_append, List.take_append_of_le_length]
 rw [this]; exact decI_encI (by omega) (by omega)
theorem pageI_16 : ((pageI id ep kd pl).drop 16).take 4 = be 4 kd := by
 have e : (encI id).drop 16 = [] := List.drop_of_length_le (by simp)
 simp [pageI, List.drop_append, List.take_append_of_le_length, e]
theorem pageI_20 : (pageI id ep kd pl).drop 20 = pad pl := by
 have e : (encI id).drop 20 = [] := List.drop_of_length_le (by simp)
 have e2 : (encI ep).drop 12 = [] := List.drop_of_length_le (by simp)
 simp [pageI, List.drop_append, e, e2]
theorem unbe_kd (h : kd ≤ 2147483647) : unbe (([0, 0, 0, 0] ++ be 4 kd)) = kd := by
 have : unbe ([0, 0, 0, 0] ++ be 4 kd) = unbe (be 4 kd) := by simp [unbe]
 rw [this, unbe_be]; omega
end
set_option maxHeartbeats 1000000 in
theorem page_get (id ep : Int) (kd : Nat) (pl : Bs) (w : World) (h0 : 0 ≤ id) (hi : id ≤ 1000000) (h1 : 0 ≤ ep) (h2 : ep ≤ 1099511627776) (h4 : kd ≤ 2147483647) (hp : pl.length ≤ 232) :
  Calls Tryz.prog 291 #[.string (S (pageB id ep kd pl))] w fun e w' => e = .returned (.tuple #[.agg #[.int .i64 id, .int .i64 ep, .int .i64 kd, .string (S (pad pl))], .int .i64 0]) ∧ Below w.heap.size w w' := by
 have hl := pageB_length id ep kd hp
 have hl2 := pageI_length id ep kd hp
 have HR := hid (fun W => page_right id ep kd (pad pl) W h0 h1 h2 (by omega) (by omega))
 have HC : Hid (∀ W, Calls Tryz.prog 293 #[.string (S (pageB id ep kd pl))] W fun e w' => e = .returned (.tuple #[.string (S (pageI id ep kd pl)), .int .i64 0]) ∧ Below W.heap.size W w') :=
  hid (fun W => crcCut_any (pageI id ep kd pl) W (by omega) (by omega))
 have H0 : Hid (∀ W, Calls Tryz.prog 155 #[.string (S (pageI id ep kd pl)), .int .i64 0] W fun e w' => e = .returned (.tuple #[.int .i64 id, .int .i64 8, .int .i64 0]) ∧ W = w') :=
  hid (fun W => by have := readI_any (pageI id ep kd pl) 0 W (by omega) (by omega); rw [pageI_0 h0 hi] at this; exact this)
 have H8 : Hid (∀ W, Calls Tryz.prog 155 #[.string (S (pageI id ep kd pl)), .int .i64 8] W fun e w' => e = .returned (.tuple #[.int .i64 ep, .int .i64 16, .int .i64 0]) ∧ W = w') :=
  hid (fun W => by have := readI_any (pageI id ep kd pl) 8 W (by omega) (by omega); rw [pageI_8 h1 h2] at this; exact this)
 have HU : Hid (∀ W, Calls Tryz.prog 190 #[.string (S (0 :: 0 :: 0 :: 0 :: be 4 kd)), .int .i64 0] W fun e w' => e = .returned (.tuple #[.int .u64 kd, .int .i64 8, .int .i64 0]) ∧ W = w') :=
  hid (fun W => by have := readU_any ([0, 0, 0, 0] ++ be 4 kd) 0 W (by simp) (by simp); rw [List.drop_zero, List.take_of_length_le (by simp), unbe_kd h4] at this; exact this)
 have e16 := @pageI_16 id ep kd pl
 have e20 := @pageI_20 id ep kd pl
 have e232 : (pad pl).take 232 = pad pl := List.take_of_length_le (by rw [pad_length hp]; omega)
 have hcat : (ByteArray.mk #[0, 0, 0, 0]) ++ S (be 4 kd) = S (0 :: 0 :: 0 :: 0 :: be 4 kd) := S_append [0, 0, 0, 0] (be 4 kd)
 go_enter Tryz.func291, Tryz.ntmps291
 go_wp2_with fail
 refine (HC.out _).mono ?_; rintro e V1 ⟨rfl, hb1⟩
 have hR1 := hid ((Blk.new w 396 #[.int .i64 0, .int .i64 0, .int .i64 0, .string ⟨#[]⟩]).below hb1 (by simp))
 have hs1 : w.heap.size < V1.heap.size := by have := hb1.size; simp at this; omega
 have hB1 := hid (((Below.refl w.heap.size w).alloc (Nat.le_refl _) _).trans (hb1.mono (by simp)))
 clear hb1
 go_wp2_with (first
  | (go_at_call 155; (with_reducible refine (H0.out _).mono ?_); rintro e w' ⟨rfl, rfl⟩)
  | (go_at_call 155; (with_reducible refine (H8.out _).mono ?_); rintro e w' ⟨rfl, rfl⟩)
  | (go_at_call 190; (with_reducible refine (HU.out _).mono ?_); rintro e w' ⟨rfl, rfl⟩))
 refine (HR.out _).mono ?_; rintro e V2 ⟨rfl, hb2⟩
 have hP2 := ((Blk.new V1 396 #[.int .i64 id, .int .i64 ep, .int .i64 kd, .string (S (pad pl))]).below hb2 (by simp))
 have hR2 := ((hR1.out.alloc (.cells #[.int .i64 id, .int .i64 ep, .int .i64 kd, .string (S (pad pl))] 396)).below hb2 (by simp; omega))
 have hs2 : V1.heap.size < V2.heap.size := by have := hb2.size; simp at this; omega
 have hB2 := hid (hB1.out.trans (((Below.refl V1.heap.size V1).alloc (Nat.le_refl _) _).trans (hb2.mono (by simp)) |>.mono (Nat.le_of_lt hs1)))
 have c0 : V2.cell? ⟨V1.heap.size, 0, none⟩ = some (.int .i64 id) := by rw [hP2.cell]; rfl
 have c1 : V2.cell? ⟨V1.heap.size, 1, none⟩ = some (.int .i64 ep) := by rw [hP2.cell]; rfl
 have c2 : V2.cell? ⟨V1.heap.size, 2, none⟩ = some (.int .i64 kd) := by rw [hP2.cell]; rfl
 have c3 : V2.cell? ⟨V1.heap.size, 3, none⟩ = some (.string (S (pad pl))) := by rw [hP2.cell]; rfl
 have r0 : V2.cell? ⟨w.heap.size, 0, none⟩ = some (.int .i64 0) := by rw [hR2.cell]; rfl
 have r1 : V2.cell? ⟨w.heap.size, 1, none⟩ = some (.int .i64 0) := by rw [hR2.cell]; rfl
 have r2 : V2.cell? ⟨w.heap.size, 2, none⟩ = some (.int .i64 0) := by rw [hR2.cell]; rfl
 have r3 : V2.cell? ⟨w.heap.size, 3, none⟩ = some (.string ⟨#[]⟩) := by rw [hR2.cell]; rfl
 have f0 := hR2.frozen 0
 have f1 := hR2.frozen 1
 have f2 := hR2.frozen 2
 have f3 := hR2.frozen 3
 have HR2 := hid hR2
 clear hP2 hR2 hb2
 go_wp2
 refine bodyPost_ret (v := .tuple #[.agg #[.int .i64 id, .int .i64 ep, .int .i64 kd, .string (S (pad pl))], .int .i64 0]) (by simp [results, Tryz.results291, go_sem, r0, r1, r2, r3]) rfl ⟨rfl, ?_⟩
 exact (((hB2.out.setCell (by simp) _).setCell (by simp) _).setCell (by simp) _).setCell (by simp) _
theorem page_many {w : World} {D : DkL} {n : Nat} {sec : Nat → Bs} (h : DkI w D n sec) (m : Nat) (hm : n = 2 + 4 * m) :
  Calls Tryz.prog 177 #[.pointer (some ⟨D.d, 0, none⟩)] w fun e w' => e = .returned (.int .i64 m) ∧ w = w' := by
 have hs := hid (disk_sectors h)
 have hn := h.n1
 clear h
 subst hm
 go_enter Tryz.func177, Tryz.ntmps177
 go_wp2_with (go_at_call 208; refine hs.out.mono ?_; rintro e w' ⟨rfl, rfl⟩)
 go_ret
 have e : (2 + 4 * (m : Int) - 2) / 4 = m := by omega
 exact ⟨by show Ending.returned (.int .i64 ((2 + 4 * (m : Int) - 2) / 4)) = _; rw [e], rfl⟩
def secC (id : Nat) : Nat → Array Value
 | 0 => #[.int .i64 0, .int .i64 0, .int .i64 0, .int .i64 0]
 | 1 => #[.int .i64 (2 + id * 4 : Int), .int .i64 0, .int .i64 0, .int .i64 0]
 | 2 => #[.int .i64 (2 + id * 4 : Int), .int .i64 (2 + id * 4 + 1 : Int), .int .i64 0, .int .i64 0]
 | 3 => #[.int .i64 (2 + id * 4 : Int), .int .i64 (2 + id * 4 + 1 : Int), .int .i64 (2 + id * 4 + 2 : Int), .int .i64 0]
 | _ => #[.int .i64 (2 + id * 4 : Int), .int .i64 (2 + id * 4 + 1 : Int), .int .i64 (2 + id * 4 + 2 : Int), .int .i64 (2 + id * 4 + 3 : Int)]
set_option maxHeartbeats 400000 in
theorem page_sectors (id : Nat) (w : World) (hi : id ≤ 1000000) :
  Calls Tryz.prog 282 #[.int .i64 id] w fun e w' => e = .returned (.agg (secC id 4)) ∧ Below w.heap.size w w' := by
 go_enter Tryz.func282, Tryz.ntmps282
 go_wp2
 go_loopw [5] (fun i wr => ∃ k : Nat, k ≤ 4 ∧ i = .int .i64 k ∧ wr = (w.alloc (.cells (secC id 0) 398)).alloc (.cells (secC id k) 398)) (fun i _ => 4 - (intOf i).toNat)
 case atStart => exact ⟨0, by omega, rfl, rfl⟩
 case round =>
  obtain ⟨k, hk, rfl, rfl⟩ := hrel
  rcases (show k = 0 ∨ k = 1 ∨ k = 2 ∨ k = 3 ∨ k = 4 by omega) with rfl | rfl | rfl | rfl | rfl
  ·simp only [secC]
   go_wp2
   go_roundw
   case rel => exact ⟨1, by omega, rfl, by simp [secC]⟩
   case measure => simp [intOf]
  ·simp only [secC]
   go_wp2
   go_roundw
   case rel => exact ⟨2, by omega, rfl, by simp [secC]⟩
   case measure => simp [intOf]
  ·simp only [secC]
   go_wp2
   go_roundw
   case rel => exact ⟨3, by omega, rfl, by simp [secC]⟩
   case measure => simp [intOf]
  ·simp only [secC]
   go_wp2
   go_roundw
   case rel => exact ⟨4, by omega, rfl, by simp [secC]⟩
   case measure => simp [intOf]
  ·simp only [secC]
   go_wp2
   refine bodyPost_ret (v := .agg (secC id 4)) (by simp [results, Tryz.results282, go_sem, secC]) rfl ⟨rfl, ?_⟩
   exact ((Below.refl _ _).alloc (Nat.le_refl _) _).alloc (by simp) _
def secK (sec : Nat → Bs) (id : Nat) (b : Bs) (k : Nat) : Nat → Bs := fun j => if 2 + id * 4 ≤ j ∧ j < 2 + id * 4 + k then (b.drop (64 * (j - (2 + id * 4)))).take 64 else sec j
theorem pad64_of {s : Bs} (h : s.length = 64) : pad64 s = s := by simp [pad64, h]
theorem write_step {w : World} {D : DkL} {n : Nat} {sec : Nat → Bs} {id k : Nat} {b : Bs} (h : DkI w D n (secK sec id b k)) (hk : k < 4) (hb : b.length = 256) (hn : 2 + id * 4 + 4 ≤ n) (x : Int) (hx : x = 2 + (id : Int) * 4 + k) (s : Bs) (hs : s = (b.drop (64 * k)).take 64) :
  Calls Tryz.prog 141 #[.pointer (some ⟨D.d, 0, none⟩), .int .i64 x, .string (S s)] w fun e w' => e = .returned (.int .i64 0) ∧ DkI w' D n (secK sec id b (k + 1)) ∧ Kp (dkOwn D) w w' := by
 have hl : s.length = 64 := by rw [hs]; simp; omega
 have hi : x = ((2 + id * 4 + k : Nat) : Int) := by omega
 rw [hi]
 refine (disk_write h (2 + id * 4 + k) (by omega) s (by omega)).mono fun e w' ⟨h1, h2, h3⟩ => ⟨h1, h2.congr fun j hj => ?_, h3⟩
 unfold secK
 by_cases hjk : j = 2 + id * 4 + k
 ·subst hjk
  have e : 2 + id * 4 + k - (2 + id * 4) = k := by omega
  rw [if_pos rfl, if_pos ⟨by omega, by omega⟩, pad64_of hl, hs, e]
 ·rw [if_neg hjk]
  by_cases hin : 2 + id * 4 ≤ j ∧ j < 2 + id * 4 + k
  ·rw [if_pos hin, if_pos ⟨hin.1, by omega⟩]
  ·rw [if_neg hin, if_neg (by omega)]
theorem idx4_0 (a b c d : Value) (w : World) : (Instr.index 398 (.agg #[a, b, c, d]) (.int .i64 0)).run Tryz.prog w = .ok a w := by kernel_rfl
theorem idx4_1 (a b c d : Value) (w : World) : (Instr.index 398 (.agg #[a, b, c, d]) (.int .i64 1)).run Tryz.prog w = .ok b w := by kernel_rfl
theorem idx4_2 (a b c d : Value) (w : World) : (Instr.index 398 (.agg #[a, b, c, d]) (.int .i64 2)).run Tryz.prog w = .ok c w := by kernel_rfl
theorem idx4_3 (a b c d : Value) (w : World) : (Instr.index 398 (.agg #[a, b, c, d]) (.int .i64 3)).run Tryz.prog w = .ok d w := by kernel_rfl
set_option maxHeartbeats 1000000 in
theorem page_write {w : World} {D : DkL} {n : Nat} {sec : Nat → Bs} (h : DkI w D n sec) (m : Nat) (hm : n = 2 + 4 * m) (id : Nat) (hid : id < m) (ep : Int) (kd : Nat) (pl : Bs) (h1 : 0 ≤ ep) (h2 : ep ≤ 1099511627776) (h4 : kd ≤ 2147483647) (hp : pl.length ≤ 232) :
  Calls Tryz.prog 276 #[.pointer (some ⟨D.d, 0, none⟩), .agg #[.int .i64 id, .int .i64 ep, .int .i64 kd, .string (S pl)]] w fun e w' =>
   e = .returned (.int .i64 0) ∧ DkI w' D n (secK sec id (pageB id ep kd pl) 4) ∧ Kp (dkOwn D) w w' := by
 have hn := h.n1
 have HP := Go.Proofs.YtnnghcooidjlhaaGreat.hid (fun W => page_put id ep kd pl W (by omega) (by omega) h1 h2 h4 hp)
 have HS := Go.Proofs.YtnnghcooidjlhaaGreat.hid (fun W => page_sectors id W (by omega))
 have HM := Go.Proofs.YtnnghcooidjlhaaGreat.hid (fun W (hW : DkI W D n sec) => page_many hW m hm)
 have H := Go.Proofs.YtnnghcooidjlhaaGreat.hid h
 clear h
 have hid0 : (id : Int) < (m : Int) := by omega
 have hdec : decide (m ≤ id) = false := by simp; omega
 go_enter Tryz.func276, Tryz.ntmps276
 go_wp2_with fail
 refine (HP.out _).mono ?_; rintro e V1 ⟨rfl, hb1⟩
 have hC1 := ((Blk.new w 396 #[.int .i64 id, .int .i64 ep, .int .i64 kd, .string (S pl)]).below hb1 (by simp))
 have hs1 : w.heap.size < V1.heap.size := by have := hb1.size; simp at this; omega
 have hB1 := ((Below.refl w.heap.size w).alloc (Nat.le_refl _) (.cells #[.int .i64 id, .int .i64 ep, .int .i64 kd, .string (S pl)] 396)).trans (hb1.mono (by simp))
 have hI1 := H.out.below hB1
 have HB1 := Go.Proofs.YtnnghcooidjlhaaGreat.hid hB1
 have HI1 := Go.Proofs.YtnnghcooidjlhaaGreat.hid hI1
 have c0 : V1.cell? ⟨w.heap.size, 0, none⟩ = some (.int .i64 id) := by rw [hC1.cell]; rfl
 have HC1 := Go.Proofs.YtnnghcooidjlhaaGreat.hid hC1
 clear hb1 hB1 hI1 hC1
 go_wp2_with fail
 go_quiet ((go_at_call 177; exact quiet_left (HM.out _ (HI1.out.of_blocks (fun _ _ => rfl)))))
 go_wp2_with fail
 refine (HS.out _).mono ?_; rintro e V2 ⟨rfl, hb2⟩
 have hB2 := Go.Proofs.YtnnghcooidjlhaaGreat.hid ((below_drewN HB1.out nq).trans (hb2.mono (Nat.le_of_lt hs1)))
 have hI2 := Go.Proofs.YtnnghcooidjlhaaGreat.hid (DkI.below (w := V1.drewN nq) (HI1.out.of_blocks (fun _ _ => rfl)) hb2)
 clear hb2 c0
 have hlen := pageB_length (id : Int) ep kd hp
 have HL := Go.Proofs.YtnnghcooidjlhaaGreat.hid hlen
 simp only [secC]
 go_wp2
 go_loopw [30] (fun i wr => ∃ k : Nat, k ≤ 4 ∧ i = .int .i64 k ∧ DkI wr D n (secK sec id (pageB (id : Int) ep kd pl) k) ∧ Kp (dkOwn D) w wr) (fun i _ => 4 - (intOf i).toNat)
 case atStart => exact ⟨0, by omega, rfl, hI2.out.congr (fun j _ => by unfold secK; rw [if_neg (by omega)]), Kp.of_below hB2.out⟩
 case round =>
  obtain ⟨k, hk, rfl, hI, hK⟩ := hrel
  have HI := Go.Proofs.YtnnghcooidjlhaaGreat.hid hI
  have HK := Go.Proofs.YtnnghcooidjlhaaGreat.hid hK
  clear hI hK
  rcases (show k = 0 ∨ k = 1 ∨ k = 2 ∨ k = 3 ∨ k = 4 by omega) with rfl | rfl | rfl | rfl | rfl
  ·have HW := Go.Proofs.YtnnghcooidjlhaaGreat.hid (fun s x hx hs => write_step HI.out (by omega) HL.out (by omega) x hx s hs)
   have hidx := fun W => idx4_0 (.int .i64 (2 + id * 4 : Int)) (.int .i64 (2 + id * 4 + 1 : Int)) (.int .i64 (2 + id * 4 + 2 : Int)) (.int .i64 (2 + id * 4 + 3 : Int)) W
   go_wp2_with fail
   refine (HW.out _ _ (by simp) (by simp)).mono ?_
   rintro e w1 ⟨rfl, hI1, hK1⟩
   go_wp2
   go_roundw
   case rel => first | exact ⟨1, by omega, rfl, hI1, HK.out.trans hK1⟩ | ((repeat apply Exists.intro); exact ⟨⟨1, by omega, rfl, hI1, HK.out.trans hK1⟩, rfl⟩)
   case measure => simp [intOf]
  ·have HW := Go.Proofs.YtnnghcooidjlhaaGreat.hid (fun s x hx hs => write_step HI.out (by omega) HL.out (by omega) x hx s hs)
   have hidx := fun W => idx4_1 (.int .i64 (2 + id * 4 : Int)) (.int .i64 (2 + id * 4 + 1 : Int)) (.int .i64 (2 + id * 4 + 2 : Int)) (.int .i64 (2 + id * 4 + 3 : Int)) W
   go_wp2_with fail
   refine (HW.out _ _ (by simp) (by simp)).mono ?_
   rintro e w1 ⟨rfl, hI1, hK1⟩
   go_wp2
   go_roundw
   case rel => first | exact ⟨2, by omega, rfl, hI1, HK.out.trans hK1⟩ | ((repeat apply Exists.intro); exact ⟨⟨2, by omega, rfl, hI1, HK.out.trans hK1⟩, rfl⟩)
   case measure => simp [intOf]
  ·have HW := Go.Proofs.YtnnghcooidjlhaaGreat.hid (fun s x hx hs => write_step HI.out (by omega) HL.out (by omega) x hx s hs)
   have hidx := fun W => idx4_2 (.int .i64 (2 + id * 4 : Int)) (.int .i64 (2 + id * 4 + 1 : Int)) (.int .i64 (2 + id * 4 + 2 : Int)) (.int .i64 (2 + id * 4 + 3 : Int)) W
   go_wp2_with fail
   refine (HW.out _ _ (by simp) (by simp)).mono ?_
   rintro e w1 ⟨rfl, hI1, hK1⟩
   go_wp2
   go_roundw
   case rel => first | exact ⟨3, by omega, rfl, hI1, HK.out.trans hK1⟩ | ((repeat apply Exists.intro); exact ⟨⟨3, by omega, rfl, hI1, HK.out.trans hK1⟩, rfl⟩)
   case measure => simp [intOf]
  ·have HW := Go.Proofs.YtnnghcooidjlhaaGreat.hid (fun s x hx hs => write_step HI.out (by omega) HL.out (by omega) x hx s hs)
   have hidx := fun W => idx4_3 (.int .i64 (2 + id * 4 : Int)) (.int .i64 (2 + id * 4 + 1 : Int)) (.int .i64 (2 + id * 4 + 2 : Int)) (.int .i64 (2 + id * 4 + 3 : Int)) W
   go_wp2_with fail
   refine (HW.out _ _ (by simp) (by simp)).mono ?_
   rintro e w1 ⟨rfl, hI1, hK1⟩
   go_wp2
   go_roundw
   case rel => first | exact ⟨4, by omega, rfl, hI1, HK.out.trans hK1⟩ | ((repeat apply Exists.intro); exact ⟨⟨4, by omega, rfl, hI1, HK.out.trans hK1⟩, rfl⟩)
   case measure => simp [intOf]
  ·go_wp2
   go_ret
   exact ⟨rfl, HI.out, HK.out⟩
end
section
open Go.RowKit Go.Lib
def pgAt (sec : Nat → Bs) (id : Nat) (b : Bs) : Prop := ∀ k, k < 4 → sec (2 + id * 4 + k) = (b.drop (64 * k)).take 64
theorem pgAt_K (sec : Nat → Bs) (id : Nat) (b : Bs) : pgAt (secK sec id b 4) id b := fun k hk => by
 unfold secK
 rw [if_pos ⟨by omega, by omega⟩]
 have e : 2 + id * 4 + k - (2 + id * 4) = k := by omega
 rw [e]
theorem pgAt_other {sec : Nat → Bs} {id id' : Nat} {b b' : Bs} (h : pgAt sec id' b') (hne : id' ≠ id) : pgAt (secK sec id b 4) id' b' := fun k hk => by
 unfold secK
 rw [if_neg (by omega)]
 exact h k hk
theorem read_step {w : World} {D : DkL} {n : Nat} {sec : Nat → Bs} {id k : Nat} {b : Bs} (h : DkI w D n sec) (hp : pgAt sec id b) (hk : k < 4) (hn : 2 + id * 4 + 4 ≤ n) (x : Int) (hx : x = 2 + (id : Int) * 4 + k) :
  Calls Tryz.prog 290 #[.pointer (some ⟨D.d, 0, none⟩), .int .i64 x] w fun e w' => e = .returned (.tuple #[.string (S ((b.drop (64 * k)).take 64)), .int .i64 0]) ∧ w = w' := by
 have hi : x = ((2 + id * 4 + k : Nat) : Int) := by omega
 rw [hi, ← hp k hk]
 exact disk_read h (2 + id * 4 + k) (by omega)
theorem take64 (b : Bs) (k : Nat) (h : b.length = 256) (hk : k < 4) : b.take (64 * k) ++ (b.drop (64 * k)).take 64 = b.take (64 * (k + 1)) := by
 rw [show 64 * (k + 1) = 64 * k + 64 by omega, List.take_add]
set_option maxHeartbeats 1000000 in
theorem page_read {w : World} {D : DkL} {n : Nat} {sec : Nat → Bs} (h : DkI w D n sec) (m : Nat) (hm : n = 2 + 4 * m) (id : Nat) (hid' : id < m) (ep : Int) (kd : Nat) (pl : Bs) (h1 : 0 ≤ ep) (h2 : ep ≤ 1099511627776) (h4 : kd ≤ 2147483647) (hp : pl.length ≤ 232)
  (hpg : pgAt sec id (pageB id ep kd pl)) :
  Calls Tryz.prog 283 #[.pointer (some ⟨D.d, 0, none⟩), .int .i64 id] w fun e w' =>
   e = .returned (.tuple #[.agg #[.int .i64 id, .int .i64 ep, .int .i64 kd, .string (S (pad pl))], .int .i64 0]) ∧ Below w.heap.size w w' := by
 have hn := h.n1
 have HG := hid (fun W => page_get id ep kd pl W (by omega) (by omega) h1 h2 h4 hp)
 have HS := hid (fun W => page_sectors id W (by omega))
 have HM := hid (fun W (hW : DkI W D n sec) => page_many hW m hm)
 have H := hid h
 have HPG := hid hpg
 have hlen := pageB_length (id : Int) ep kd hp
 have HL := hid hlen
 clear h hpg hlen
 have hid0 : (id : Int) < (m : Int) := by omega
 have hdec : decide (m ≤ id) = false := by simp; omega
 go_enter Tryz.func283, Tryz.ntmps283
 have hR0 := hid (Blk.new w 396 #[.int .i64 0, .int .i64 0, .int .i64 0, .string ⟨#[]⟩])
 have hB0 := hid ((Below.refl w.heap.size w).alloc (Nat.le_refl _) (.cells #[.int .i64 0, .int .i64 0, .int .i64 0, .string ⟨#[]⟩] 396))
 have hI0 := hid (H.out.below hB0.out)
 go_wp2_with (first
  | (go_at_call 177; refine (HM.out _ hI0.out).mono ?_; rintro e w1 ⟨rfl, rfl⟩))
 refine (HS.out _).mono ?_; rintro e V2 ⟨rfl, hb2⟩
 have hR2 := hid (hR0.out.below hb2 (by simp))
 have hB2 := hid (hB0.out.trans (hb2.mono (by simp)))
 have hI2 := hid (hI0.out.below hb2)
 have hs2 : w.heap.size < V2.heap.size := by have := hb2.size; simp at this; omega
 clear hb2 hR0 hB0 hI0
 simp only [secC]
 go_wp2
 go_loopw [6, 29] (fun v i wr => ∃ k : Nat, k ≤ 4 ∧ i = .int .i64 k ∧ wr.ownsRow (w.heap.size + 1) 5 1 v ((pageB (id : Int) ep kd pl).take (64 * k)).length (cB ((pageB (id : Int) ep kd pl).take (64 * k))) ∧ Blk wr w.heap.size 396 #[.int .i64 0, .int .i64 0, .int .i64 0, .string ⟨#[]⟩] ∧ Below w.heap.size w wr) (fun _ i _ => 4 - (intOf i).toNat)
 case atStart => exact ⟨0, by omega, rfl, by simpa [cB] using World.ownsRow_nil _ _ _ _, hR2.out, hB2.out⟩
 case round =>
  obtain ⟨k, hk, rfl, hO, hR, hB⟩ := hrel
  obtain ⟨p, c, rfl⟩ := own_slice2 hO
  have HO := hid hO
  have HR := hid hR
  have HB := hid hB
  have hI := hid (H.out.below hB)
  have hlt := hR.lt
  clear hO hR hB
  obtain ⟨i0, hi, hz0, hz1, hz2⟩ := info_parts inf5
  rcases (show k = 0 ∨ k = 1 ∨ k = 2 ∨ k = 3 ∨ k = 4 by omega) with rfl | rfl | rfl | rfl | rfl
  ·have HW := hid (fun x hx => read_step hI.out HPG.out (k := 0) (by omega) (by omega) x hx)
   have hidx := fun W => idx4_0 (.int .i64 (2 + id * 4 : Int)) (.int .i64 (2 + id * 4 + 1 : Int)) (.int .i64 (2 + id * 4 + 2 : Int)) (.int .i64 (2 + id * 4 + 3 : Int)) W
   have hl64 : (((pageB (id : Int) ep kd pl).drop (64 * 0)).take 64).length = 64 := by have := HL.out; rw [List.length_take, List.length_drop]; omega
   have hl0 : ((pageB (id : Int) ep kd pl).take (64 * 0)).length = 64 * 0 := by have := HL.out; rw [List.length_take]; omega
   have HT := hid (take64 (pageB (id : Int) ep kd pl) 0 HL.out (by omega))
   have HL0 := hid hl0
   have HL64 := hid hl64
   clear hl0 hl64
   generalize (pageB (id : Int) ep kd pl).take (64 * 0) = b0 at *
   generalize ((pageB (id : Int) ep kd pl).drop (64 * 0)).take 64 = b1 at *
   go_wp2_with fail
   refine (HW.out _ (by simp)).mono ?_
   rintro e w1 ⟨rfl, rfl⟩
   go_wp2_with (with_reducible refine stopAt .append rfl ?_)
   with_reducible refine goOn ?_
   refine wpList_append_own_string _ rfl _ _ 129 9 rfl (w.heap.size + 1) 5 i0 Tryz.underlying129 Tryz.underlying9 hi hz0 hz1 hz2 _ _ _ rfl HO.out (S b1) rfl (by rw [S_size, HL0.out, HL64.out]; unfold maxLen; omega) (by rw [S_size, HL0.out, HL64.out]; omega) (by omega) ?_
   intro v' w1 hown1 hgr _
   rw [S_size, strCells_S] at hown1
   have hR1 := HR.out.grown hgr (own_ne HO.out)
   have HGR := hid hgr
   have HO1 := hid hown1
   clear hgr hown1
   go_wp2
   go_roundw
   case rel =>
    have q1 := own_eq HO1.out (n' := ((pageB (id : Int) ep kd pl).take (64 * 1)).length) (xs' := cB ((pageB (id : Int) ep kd pl).take (64 * 1))) (by rw [← HT.out]; simp) (by rw [← HT.out]; simp)
    have q2 : Below w.heap.size w w1 := HB.out.grown HGR.out HB.out.size (fun g hg => by have := (HO.out.lt g hg).1; omega)
    first | exact ⟨1, by omega, rfl, q1, hR1, q2⟩ | ((repeat apply Exists.intro); exact ⟨⟨1, by omega, rfl, q1, hR1, q2⟩, rfl⟩)
   case measure => simp [intOf]
  ·have HW := hid (fun x hx => read_step hI.out HPG.out (k := 1) (by omega) (by omega) x hx)
   have hidx := fun W => idx4_1 (.int .i64 (2 + id * 4 : Int)) (.int .i64 (2 + id * 4 + 1 : Int)) (.int .i64 (2 + id * 4 + 2 : Int)) (.int .i64 (2 + id * 4 + 3 : Int)) W
   have hl64 : (((pageB (id : Int) ep kd pl).drop (64 * 1)).take 64).length = 64 := by have := HL.out; rw [List.length_take, List.length_drop]; omega
   have hl0 : ((pageB (id : Int) ep kd pl).take (64 * 1)).length = 64 * 1 := by have := HL.out; rw [List.length_take]; omega
   have HT := hid (take64 (pageB (id : Int) ep kd pl) 1 HL.out (by omega))
   have HL0 := hid hl0
   have HL64 := hid hl64
   clear hl0 hl64
   generalize (pageB (id : Int) ep kd pl).take (64 * 1) = b0 at *
   generalize ((pageB (id : Int) ep kd pl).drop (64 * 1)).take 64 = b1 at *
   go_wp2_with fail
   refine (HW.out _ (by simp)).mono ?_
   rintro e w1 ⟨rfl, rfl⟩
   go_wp2_with (with_reducible refine stopAt .append rfl ?_)
   with_reducible refine goOn ?_
   refine wpList_append_own_string _ rfl _ _ 129 9 rfl (w.heap.size + 1) 5 i0 Tryz.underlying129 Tryz.underlying9 hi hz0 hz1 hz2 _ _ _ rfl HO.out (S b1) rfl (by rw [S_size, HL0.out, HL64.out]; unfold maxLen; omega) (by rw [S_size, HL0.out, HL64.out]; omega) (by omega) ?_
   intro v' w1 hown1 hgr _
   rw [S_size, strCells_S] at hown1
   have hR1 := HR.out.grown hgr (own_ne HO.out)
   have HGR := hid hgr
   have HO1 := hid hown1
   clear hgr hown1
   go_wp2
   go_roundw
   case rel =>
    have q1 := own_eq HO1.out (n' := ((pageB (id : Int) ep kd pl).take (64 * 2)).length) (xs' := cB ((pageB (id : Int) ep kd pl).take (64 * 2))) (by rw [← HT.out]; simp) (by rw [← HT.out]; simp)
    have q2 : Below w.heap.size w w1 := HB.out.grown HGR.out HB.out.size (fun g hg => by have := (HO.out.lt g hg).1; omega)
    first | exact ⟨2, by omega, rfl, q1, hR1, q2⟩ | ((repeat apply Exists.intro); exact ⟨⟨2, by omega, rfl, q1, hR1, q2⟩, rfl⟩)
   case measure => simp [intOf]
  ·have HW := hid (fun x hx => read_step hI.out HPG.out (k := 2) (by omega) (by omega) x hx)
   have hidx := fun W => idx4_2 (.int .i64 (2 + id * 4 : Int)) (.int .i64 (2 + id * 4 + 1 : Int)) (.int .i64 (2 + id * 4 + 2 : Int)) (.int .i64 (2 + id * 4 + 3 : Int)) W
   have hl64 : (((pageB (id : Int) ep kd pl).drop (64 * 2)).take 64).length = 64 := by have := HL.out; rw [List.length_take, List.length_drop]; omega
   have hl0 : ((pageB (id : Int) ep kd pl).take (64 * 2)).length = 64 * 2 := by have := HL.out; rw [List.length_take]; omega
   have HT := hid (take64 (pageB (id : Int) ep kd pl) 2 HL.out (by omega))
   have HL0 := hid hl0
   have HL64 := hid hl64
   clear hl0 hl64
   generalize (pageB (id : Int) ep kd pl).take (64 * 2) = b0 at *
   generalize ((pageB (id : Int) ep kd pl).drop (64 * 2)).take 64 = b1 at *
   go_wp2_with fail
   refine (HW.out _ (by simp)).mono ?_
   rintro e w1 ⟨rfl, rfl⟩
   go_wp2_with (with_reducible refine stopAt .append rfl ?_)
   with_reducible refine goOn ?_
   refine wpList_append_own_string _ rfl _ _ 129 9 rfl (w.heap.size + 1) 5 i0 Tryz.underlying129 Tryz.underlying9 hi hz0 hz1 hz2 _ _ _ rfl HO.out (S b1) rfl (by rw [S_size, HL0.out, HL64.out]; unfold maxLen; omega) (by rw [S_size, HL0.out, HL64.out]; omega) (by omega) ?_
   intro v' w1 hown1 hgr _
   rw [S_size, strCells_S] at hown1
   have hR1 := HR.out.grown hgr (own_ne HO.out)
   have HGR := hid hgr
   have HO1 := hid hown1
   clear hgr hown1
   go_wp2
   go_roundw
   case rel =>
    have q1 := own_eq HO1.out (n' := ((pageB (id : Int) ep kd pl).take (64 * 3)).length) (xs' := cB ((pageB (id : Int) ep kd pl).take (64 * 3))) (by rw [← HT.out]; simp) (by rw [← HT.out]; simp)
    have q2 : Below w.heap.size w w1 := HB.out.grown HGR.out HB.out.size (fun g hg => by have := (HO.out.lt g hg).1; omega)
    first | exact ⟨3, by omega, rfl, q1, hR1, q2⟩ | ((repeat apply Exists.intro); exact ⟨⟨3, by omega, rfl, q1, hR1, q2⟩, rfl⟩)
   case measure => simp [intOf]
  ·have HW := hid (fun x hx => read_step hI.out HPG.out (k := 3) (by omega) (by omega) x hx)
   have hidx := fun W => idx4_3 (.int .i64 (2 + id * 4 : Int)) (.int .i64 (2 + id * 4 + 1 : Int)) (.int .i64 (2 + id * 4 + 2 : Int)) (.int .i64 (2 + id * 4 + 3 : Int)) W
   have hl64 : (((pageB (id : Int) ep kd pl).drop (64 * 3)).take 64).length = 64 := by have := HL.out; rw [List.length_take, List.length_drop]; omega
   have hl0 : ((pageB (id : Int) ep kd pl).take (64 * 3)).length = 64 * 3 := by have := HL.out; rw [List.length_take]; omega
   have HT := hid (take64 (pageB (id : Int) ep kd pl) 3 HL.out (by omega))
   have HL0 := hid hl0
   have HL64 := hid hl64
   clear hl0 hl64
   generalize (pageB (id : Int) ep kd pl).take (64 * 3) = b0 at *
   generalize ((pageB (id : Int) ep kd pl).drop (64 * 3)).take 64 = b1 at *
   go_wp2_with fail
   refine (HW.out _ (by simp)).mono ?_
   rintro e w1 ⟨rfl, rfl⟩
   go_wp2_with (with_reducible refine stopAt .append rfl ?_)
   with_reducible refine goOn ?_
   refine wpList_append_own_string _ rfl _ _ 129 9 rfl (w.heap.size + 1) 5 i0 Tryz.underlying129 Tryz.underlying9 hi hz0 hz1 hz2 _ _ _ rfl HO.out (S b1) rfl (by rw [S_size, HL0.out, HL64.out]; unfold maxLen; omega) (by rw [S_size, HL0.out, HL64.out]; omega) (by omega) ?_
   intro v' w1 hown1 hgr _
   rw [S_size, strCells_S] at hown1
   have hR1 := HR.out.grown hgr (own_ne HO.out)
   have HGR := hid hgr
   have HO1 := hid hown1
   clear hgr hown1
   go_wp2
   go_roundw
   case rel =>
    have q1 := own_eq HO1.out (n' := ((pageB (id : Int) ep kd pl).take (64 * 4)).length) (xs' := cB ((pageB (id : Int) ep kd pl).take (64 * 4))) (by rw [← HT.out]; simp) (by rw [← HT.out]; simp)
    have q2 : Below w.heap.size w w1 := HB.out.grown HGR.out HB.out.size (fun g hg => by have := (HO.out.lt g hg).1; omega)
    first | exact ⟨4, by omega, rfl, q1, hR1, q2⟩ | ((repeat apply Exists.intro); exact ⟨⟨4, by omega, rfl, q1, hR1, q2⟩, rfl⟩)
   case measure => simp [intOf]
  ·have hcv := own_string HO.out
   have e256 : (pageB (id : Int) ep kd pl).take (64 * 4) = pageB (id : Int) ep kd pl := List.take_of_length_le (by have := HL.out; omega)
   rw [e256] at hcv ⊢
   clear e256
   go_wp2_with fail
   refine (HG.out _).mono ?_; rintro e V3 ⟨rfl, hb3⟩
   have hR3 := HR.out.below hb3 hlt
   have hB3 := hid (HB.out.trans (hb3.mono (by omega)))
   have hs3 : w.heap.size < V3.heap.size := by have := hb3.size; omega
   have r0 : V3.cell? ⟨w.heap.size, 0, none⟩ = some (.int .i64 0) := by rw [hR3.cell]; rfl
   have r1 : V3.cell? ⟨w.heap.size, 1, none⟩ = some (.int .i64 0) := by rw [hR3.cell]; rfl
   have r2 : V3.cell? ⟨w.heap.size, 2, none⟩ = some (.int .i64 0) := by rw [hR3.cell]; rfl
   have r3 : V3.cell? ⟨w.heap.size, 3, none⟩ = some (.string ⟨#[]⟩) := by rw [hR3.cell]; rfl
   have f0 := hR3.frozen 0
   have f1 := hR3.frozen 1
   have f2 := hR3.frozen 2
   have f3 := hR3.frozen 3
   clear hb3 hR3 hcv
   go_wp2
   refine bodyPost_ret (v := .tuple #[.agg #[.int .i64 id, .int .i64 ep, .int .i64 kd, .string (S (pad pl))], .int .i64 0]) (by simp [results, Tryz.results283, go_sem, r0, r1, r2, r3, hs3]) rfl ⟨rfl, ?_⟩
   refine Below.alloc ?_ ?_ _
   ·iterate 4 (refine Below.setCell ?_ (Nat.le_refl w.heap.size) _)
    exact hB3.out
   ·simp; omega
end
section
open Go.RowKit Go.Lib
def cI (l : List Int) : List Value := l.map fun n => Value.int .i64 n
@[simp] theorem cI_length (l : List Int) : (cI l).length = l.length := by simp [cI]
theorem cI_get (l : List Int) (i : Nat) (h : i < l.length) : (cI l)[i]? = some (.int .i64 (l.getD i 0)) := by
 simp [cI, h, List.getD]
def SlI (w : World) (v : Value) (l : List Int) : Prop := (v = .slice none 0 0 ∧ l = []) ∨ ∃ b o c, v = .slice (some ⟨b, o, none⟩) l.length c ∧ b < w.heap.size ∧ w.rangeAt b o (cI l)
theorem index_any (w : World) (v : Value) (l : List Int) (x : Int) (h : SlI w v l) (hl : l.length ≤ 1000000) :
  Calls Tryz.prog 236 #[v, .int .i64 x] w fun e w' => w = w' ∧ ((e = .returned (.int .i64 (-1)) ∧ x ∉ l) ∨ ∃ k : Nat, e = .returned (.int .i64 k) ∧ l[k]? = some x ∧ x ∉ l.take k) := by
 rcases h with ⟨rfl, rfl⟩ | ⟨b, o, c, rfl, hb, hr⟩
 ·go_enter Tryz.func236, Tryz.ntmps236
  go_wp2
  refine wp_loop_rounds 1 ?_
  rw [rounds_succ]
  go_wp2
  go_ret
  exact ⟨rfl, .inl ⟨rfl, by simp⟩⟩
 ·go_enter Tryz.func236, Tryz.ntmps236
  go_wp2
  go_loop [8] (fun i => ∃ k : Nat, k ≤ l.length ∧ i = .int .i64 k ∧ x ∉ l.take k) (fun i => l.length - (intOf i).toNat)
  case atStart => exact ⟨0, Nat.zero_le _, rfl, by simp⟩
  case round =>
   obtain ⟨k, hk, rfl, hno⟩ := hrel
   have HNO := hid hno
   clear hno
   by_cases hlt : k < l.length
   ·have hc := hr k _ (cI_get l k hlt)
    have hg : l[k]? = some (l.getD k 0) := by simp [List.getD, hlt]
    have HG := hid hg
    have ht : l.take (k + 1) = l.take k ++ [l.getD k 0] := by rw [List.take_succ_eq_append_getElem hlt]; simp [List.getD, hlt]
    have HT := hid ht
    clear hg ht
    generalize l.getD k 0 = y at *
    by_cases hxy : x = y
    ·subst hxy
     go_wp2
     go_ret
     exact ⟨rfl, .inr ⟨k, rfl, HG.out, HNO.out⟩⟩
    ·have hne : (x == y) = false := by simpa using hxy
     go_wp2
     go_round
     case rel => exact ⟨k + 1, by omega, by go_num, by rw [HT.out]; simp [HNO.out, hxy]⟩
     case measure => simp [intOf]; omega
   ·have hke : k = l.length := by omega
    go_wp2
    go_ret
    exact ⟨rfl, .inl ⟨rfl, by have := HNO.out; rwa [hke, List.take_length] at this⟩⟩
structure MpI (w : World) (m ml : Nat) (K : List Int) : Prop where
 c : Blk w m 309 #[.slice (some ⟨ml, 0, none⟩) K.length K.length]
 l : Blk w ml 3 (cI K).toArray
 n0 : 0 < K.length
 n1 : K.length ≤ 1024
theorem MpI.ne {w : World} {m ml : Nat} {K : List Int} (h : MpI w m ml K) : m ≠ ml := h.c.ne_ h.l (by decide)
theorem MpI.of_blocks {w w' : World} {m ml : Nat} {K : List Int} (h : MpI w m ml K) (e1 : w'.heap[m]? = w.heap[m]?) (e2 : w'.heap[ml]? = w.heap[ml]?) : MpI w' m ml K :=
 ⟨e1.trans h.c, e2.trans h.l, h.n0, h.n1⟩
theorem MpI.sl {w : World} {m ml : Nat} {K : List Int} (h : MpI w m ml K) : SlI w (.slice (some ⟨ml, 0, none⟩) K.length K.length) K :=
 .inr ⟨ml, 0, _, rfl, h.l.lt, fun j v hj => by rw [h.l.cell]; simpa using hj⟩
theorem map_first {w : World} {m ml : Nat} {K : List Int} (h : MpI w m ml K) (x : Int) :
  Calls Tryz.prog 275 #[.pointer (some ⟨m, 0, none⟩), .int .i64 x] w fun e w' => w = w' ∧ ((e = .returned (.int .i64 (-1)) ∧ x ∉ K) ∨ ∃ k : Nat, e = .returned (.int .i64 k) ∧ K[k]? = some x ∧ x ∉ K.take k) := by
 have HI := hid (index_any w _ K x h.sl (by have := h.n1; omega))
 have h0 : w.cell? ⟨m, 0, none⟩ = some (.slice (some ⟨ml, 0, none⟩) K.length K.length) := by rw [h.c.cell]; rfl
 clear h
 go_enter Tryz.func275, Tryz.ntmps275
 go_wp2_with fail
 refine HI.out.mono ?_
 rintro e w' ⟨rfl, ⟨rfl, hx⟩ | ⟨k, rfl, hk, hx⟩⟩
 ·have HX := hid hx
  clear hx
  go_wp2
  go_ret
  exact ⟨rfl, .inl ⟨rfl, HX.out⟩⟩
 ·have HX := hid hx
  have HK := hid hk
  clear hx hk
  go_wp2
  go_ret
  exact ⟨rfl, .inr ⟨k, rfl, HK.out, HX.out⟩⟩
theorem cI_set (K : List Int) (p : Nat) (x : Int) : (cI K).toArray.setIfInBounds p (.int .i64 x) = (cI (K.set p x)).toArray := by
 simp [cI, List.map_set]
theorem MpI.set_ {w : World} {m ml : Nat} {K : List Int} (h : MpI w m ml K) (p : Nat) (x : Int) : MpI (w.setCell ⟨ml, p, none⟩ (.int .i64 x)) m ml (K.set p x) :=
 ⟨by have := h.c.far (p := ⟨ml, p, none⟩) h.ne (.int .i64 x); simpa using this, by have := h.l.set_ p (.int .i64 x); rwa [cI_set] at this, by simpa using h.n0, by simpa using h.n1⟩
theorem map_take {w : World} {m ml : Nat} {K : List Int} (h : MpI w m ml K) (hx : (0 : Int) ∈ K) :
  Calls Tryz.prog 264 #[.pointer (some ⟨m, 0, none⟩)] w fun e w' => ∃ p : Nat, K[p]? = some 0 ∧ e = .returned (.tuple #[.int .i64 p, .int .i64 0]) ∧ MpI w' m ml (K.set p 2) ∧ w' = w.setCell ⟨ml, p, none⟩ (.int .i64 2) := by
 have HF := hid (map_first h 0)
 have h0 : w.cell? ⟨m, 0, none⟩ = some (.slice (some ⟨ml, 0, none⟩) K.length K.length) := by rw [h.c.cell]; rfl
 have H := hid h
 have HX := hid hx
 have hn := h.n1
 clear h hx
 go_enter Tryz.func264, Tryz.ntmps264
 go_wp2_with fail
 refine HF.out.mono ?_
 rintro e w' ⟨rfl, ⟨rfl, hx⟩ | ⟨k, rfl, hk, hx⟩⟩
 ·exact absurd HX.out hx
 ·have hkl := (List.getElem?_eq_some_iff.1 hk).1
  have hc : w.cell? ⟨ml, k, none⟩ = some (.int .i64 0) := by rw [H.out.l.cell]; simp [cI, hk]
  have hf := H.out.l.frozen k
  have HK := hid hk
  clear hk hx
  go_wp2
  go_ret2
  exact ⟨k, HK.out, rfl, H.out.set_ k 2, rfl⟩
theorem map_at {w : World} {m ml : Nat} {K : List Int} (h : MpI w m ml K) (p : Nat) (hp : p < K.length) :
  Calls Tryz.prog 277 #[.pointer (some ⟨m, 0, none⟩), .int .i64 p] w fun e w' => e = .returned (.int .i64 0) ∧ w = w' := by
 have h0 : w.cell? ⟨m, 0, none⟩ = some (.slice (some ⟨ml, 0, none⟩) K.length K.length) := by rw [h.c.cell]; rfl
 have hn := h.n1
 clear h
 go_enter Tryz.func277, Tryz.ntmps277
 go_wp2
 go_ret
 exact ⟨rfl, rfl⟩
theorem map_leave {w : World} {m ml : Nat} {K : List Int} (h : MpI w m ml K) (p : Nat) (hp : K[p]? = some 2) :
  Calls Tryz.prog 266 #[.pointer (some ⟨m, 0, none⟩), .int .i64 p] w fun e w' => e = .returned (.int .i64 0) ∧ MpI w' m ml (K.set p 0) ∧ w' = w.setCell ⟨ml, p, none⟩ (.int .i64 0) := by
 have hpl := (List.getElem?_eq_some_iff.1 hp).1
 have HA := hid (map_at h p hpl)
 have h0 : w.cell? ⟨m, 0, none⟩ = some (.slice (some ⟨ml, 0, none⟩) K.length K.length) := by rw [h.c.cell]; rfl
 have hc : w.cell? ⟨ml, p, none⟩ = some (.int .i64 2) := by rw [h.l.cell]; simp [cI, hp]
 have hf := h.l.frozen p
 have hn := h.n1
 have H := hid h
 clear h hp
 go_enter Tryz.func266, Tryz.ntmps266
 go_wp2_with (go_at_call 277; refine HA.out.mono ?_; rintro e w' ⟨rfl, rfl⟩)
 go_ret
 exact ⟨rfl, H.out.set_ p 0, rfl⟩
theorem map_fresh {w : World} {m ml : Nat} {K : List Int} (h : MpI w m ml K) (p : Nat) (hp : K[p]? = some 2) :
  Calls Tryz.prog 292 #[.pointer (some ⟨m, 0, none⟩), .int .i64 p] w fun e w' => e = .returned (.bool true) ∧ w = w' := by
 have hpl := (List.getElem?_eq_some_iff.1 hp).1
 have HA := hid (map_at h p hpl)
 have h0 : w.cell? ⟨m, 0, none⟩ = some (.slice (some ⟨ml, 0, none⟩) K.length K.length) := by rw [h.c.cell]; rfl
 have hc : w.cell? ⟨ml, p, none⟩ = some (.int .i64 2) := by rw [h.l.cell]; simp [cI, hp]
 have hn := h.n1
 clear h hp
 go_enter Tryz.func292, Tryz.ntmps292
 go_wp2_with (go_at_call 277; refine HA.out.mono ?_; rintro e w' ⟨rfl, rfl⟩)
 go_ret
 exact ⟨rfl, rfl⟩
end
end Go.Proofs.YtnnghcooidjlhaaGreat
