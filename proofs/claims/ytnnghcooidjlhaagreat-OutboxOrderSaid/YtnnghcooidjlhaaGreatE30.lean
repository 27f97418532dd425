/- Parts of the proof: Rb Rc Rd. -/
import Derived.Deep.RegionHeld3
import Derived.Deep.RegionLaw
import Derived.Test.YtnnghcooidjlhaaGreatD01
import Derived.Test.YtnnghcooidjlhaaGreatD04
import Derived.Test.YtnnghcooidjlhaaGreatD05
import Derived.Test.YtnnghcooidjlhaaGreatD07
import Derived.Test.YtnnghcooidjlhaaGreatD08
import Derived.Test.YtnnghcooidjlhaaGreatD23
import Derived.Test.YtnnghcooidjlhaaGreatE29
set_option linter.all false
set_option maxRecDepth 100000
namespace Go.Proofs.YtnnghcooidjlhaaGreat
section
open Go.RowKit Go.Lib
theorem row_ofR {w w' : World} {B s n : Nat} {T : TypeId} {v : Value} {xs : List Value} (h : w.ownsRow B T s v n xs) (e : ∀ b, v.ownBlock = some b → w'.heap[b]? = w.heap[b]?) : w'.ownsRow B T s v n xs := by
 refine ⟨h.1, ?_⟩
 rcases h.2 with h3 | ⟨g, cap, cur, e1, e2, e3, e4⟩
 ·exact .inl h3
 ·exact .inr ⟨g, cap, cur, e1, e2, (e g (by rw [e1]; rfl)).trans e3, e4⟩
theorem own_slice2R {w : World} {B : Nat} {T : TypeId} {s n : Nat} {v : Value} {xs : List Value} (h : w.ownsRow B T s v n xs) : ∃ p c, v = .slice p n c := by
 rcases h.2 with ⟨h, h0⟩ | ⟨g, cap, cur, h, _⟩
 ·exact ⟨none, 0, by rw [h, h0]⟩
 ·exact ⟨_, _, h⟩
theorem need0_any (w : World) : Calls Tryz.prog 209 #[.int .i64 0] w fun e w' => e = .returned (.int .i64 0) ∧ w = w' := by
 go_enter Tryz.func209, Tryz.ntmps209
 go_wp2
 go_ret
 exact ⟨rfl, rfl⟩
set_option maxHeartbeats 4000000 in
theorem right1_any (w : World) : Calls Tryz.prog 178 #[.agg #[.int .i64 1, .int .i64 0, .slice none 0 0]] w fun e w' => e = .returned (.bool true) ∧ Below w.heap.size w w' := by
 have HN := hid (fun (W1 : World) => BelC.call_same (W1 := W1) need0_any)
 obtain ⟨W1, hW1⟩ : ∃ W1, W1 = w.alloc (.cells #[.int .i64 1, .int .i64 0, .slice none 0 0] 262) := ⟨_, rfl⟩
 have hb1 : Below w.heap.size w W1 := by rw [hW1]; exact (Below.refl _ w).alloc (Nat.le_refl _) _
 have hB1 : Blk W1 w.heap.size 262 #[.int .i64 1, .int .i64 0, .slice none 0 0] := by rw [hW1]; exact Blk.new w _ _
 have HCL : Hid (∀ W, BelC W1 W → W.cell? ⟨w.heap.size, 0, none⟩ = some (.int .i64 1) ∧ W.cell? ⟨w.heap.size, 1, none⟩ = some (.int .i64 0) ∧ W.cell? ⟨w.heap.size, 2, none⟩ = some (.slice none 0 0)) := hid fun W hW => by
  have h1 := hW.blk hB1
  exact ⟨h1.cell 0, h1.cell 1, h1.cell 2⟩
 have HF : Hid (∀ W, BelC W1 W → Below w.heap.size w W) := hid fun W hW => hb1.trans (hW.out.mono hb1.size)
 have H1 := hid (HN.out W1)
 clear hb1 hB1 HN
 go_enter Tryz.func178, Tryz.ntmps178
 go_wp2
 rw [← hW1]
 clear hW1
 refine qC_region (by kernel_rfl) (by kernel_rfl) (BelC W1) (BelC.drew W1) ?_
 repeat (first | (refine qC_none rfl (fun K hK => ?_); apply Exists.intro; refine ⟨fun w0 hw0 => ?_, ?_⟩; (focus (obtain ⟨q0, q1, q2⟩ := HCL.out w0 hw0; go_simp; first | exact rfl | exact ⟨rfl, rfl⟩ | (exact H1.out w0 hw0))); go_simp; refine hK _ ?_; clear hK K) | (refine qC_yes _ _ _ rfl rfl (by rfl) (fun K hK => ?_); apply Exists.intro; refine ⟨fun w0 hw0 => ?_, ?_⟩; (focus (obtain ⟨q0, q1, q2⟩ := HCL.out w0 hw0; go_simp; first | exact rfl | exact ⟨rfl, rfl⟩ | (exact H1.out w0 hw0))); go_simp; refine hK _ ?_; clear hK K) | (refine qC_no _ _ _ rfl rfl (by rfl) (fun K hK => ?_); go_simp; refine hK _ ?_; clear hK K) | (refine qC_undef _ _ _ rfl rfl (by rfl) (fun K hK => ?_); go_simp; refine hK _ ?_; clear hK K))
 refine qC_nil ?_
 intro w5 hw5
 obtain ⟨q0, q1, q2⟩ := HCL.out w5 hw5
 have H5 := hid (HF.out w5 hw5)
 have hlt := block_lt_of_cell q0
 clear hw5
 go_wp2
 go_loopg [3, 4, 35] 0 (fun gg s3 s4 s35 wr => s35 = .int .i64 0 ∧ wr = w5)
 case atStart => exact ⟨rfl, rfl⟩
 case round =>
  obtain ⟨rfl, rfl⟩ := hrel
  go_wp2
  go_ret
  exact ⟨rfl, H5.out⟩
theorem two0_any (B : Nat) (v : Value) (b : Bs) (w : World) (h : w.ownsRow B 5 1 v b.length (cB b)) (hb : b.length ≤ 1000) (hB : B ≤ w.heap.size) :
  Calls Tryz.prog 179 #[v, .int .i64 0] w fun e w' => ∃ v', e = .returned v' ∧ w'.ownsRow B 5 1 v' (b ++ [0, 0]).length (cB (b ++ [0, 0])) ∧ Below B w w' := by
 go_enter Tryz.func179, Tryz.ntmps179
 obtain ⟨i0, hi, hz0, hz1, hz2⟩ := info_parts inf5
 have HH := hid h
 clear h
 go_wp2_with (with_reducible refine stopAt .append rfl ?_)
 with_reducible refine goOn ?_
 refine wpList_append_own_at _ rfl _ _ 129 rfl B 5 i0 (.int .u8 0) 1 1 Tryz.underlying129 hi hz0 hz1 hz2 rfl (by decide) _ _ _ rfl (HH.out.alloc _) ⟨w.heap.size, 0, none⟩ 2 2 [.int .u8 0, .int .u8 0] rfl rfl ?c1 ?c2 ?c3 ?c4 ?c5 ?_
 case c1 =>
  intro j u hj
  have hb := Blk.new w 5 #[.int .u8 0, .int .u8 0]
  rw [Addr.add_mid, Nat.zero_add, hb.cell]
  simpa using hj
 case c2 => intro u hu; simp at hu; subst hu; rfl
 case c3 => unfold maxLen; omega
 case c4 => omega
 case c5 => simp; omega
 intro v' w1 hown' hgr _ hat
 have HF : Hid (w1.ownsRow B 5 1 v' (b ++ [0, 0]).length (cB (b ++ [0, 0])) ∧ Below B w w1) := hid ⟨own_eq hown' (by simp) (by simp [cB]), (((Below.refl B w).alloc hB _).grown hgr (by simp; omega) (fun g hg => (HH.out.lt g hg).1))⟩
 clear hown' hgr hat
 go_wp2
 go_ret
 exact ⟨v', rfl, HF.out⟩
theorem run_index5_0 (w : World) : (Instr.index 312 (.agg #[.int .i64 0, .int .i64 0, .int .i64 0, .int .i64 0, .int .i64 0]) (.int .i64 0)).run Tryz.prog w = .ok (.int .i64 0) w := by kernel_rfl
theorem run_index5_1 (w : World) : (Instr.index 312 (.agg #[.int .i64 0, .int .i64 0, .int .i64 0, .int .i64 0, .int .i64 0]) (.int .i64 1)).run Tryz.prog w = .ok (.int .i64 0) w := by kernel_rfl
theorem run_index5_2 (w : World) : (Instr.index 312 (.agg #[.int .i64 0, .int .i64 0, .int .i64 0, .int .i64 0, .int .i64 0]) (.int .i64 2)).run Tryz.prog w = .ok (.int .i64 0) w := by kernel_rfl
theorem run_index5_3 (w : World) : (Instr.index 312 (.agg #[.int .i64 0, .int .i64 0, .int .i64 0, .int .i64 0, .int .i64 0]) (.int .i64 3)).run Tryz.prog w = .ok (.int .i64 0) w := by kernel_rfl
theorem run_index5_4 (w : World) : (Instr.index 312 (.agg #[.int .i64 0, .int .i64 0, .int .i64 0, .int .i64 0, .int .i64 0]) (.int .i64 4)).run Tryz.prog w = .ok (.int .i64 0) w := by kernel_rfl
theorem run_index5 (j : Nat) (hj : j < 5) (w : World) : (Instr.index 312 (.agg #[.int .i64 0, .int .i64 0, .int .i64 0, .int .i64 0, .int .i64 0]) (.int .i64 (j : Int))).run Tryz.prog w = .ok (.int .i64 0) w := by
 have h : j = 0 ∨ j = 1 ∨ j = 2 ∨ j = 3 ∨ j = 4 := by omega
 rcases h with rfl | rfl | rfl | rfl | rfl
 ·exact run_index5_0 w
 ·exact run_index5_1 w
 ·exact run_index5_2 w
 ·exact run_index5_3 w
 ·exact run_index5_4 w
set_option maxHeartbeats 8000000 in
theorem rootput_any (w : World) : Calls Tryz.prog 140 #[.agg #[.int .i64 1, .int .i64 0, .slice none 0 0]] w fun e w' => ∃ b : Bs, e = .returned (.tuple #[.string (S b), .int .i64 0]) ∧ b.length = 64 ∧ Below w.heap.size w w' := by
 have HR := hid (fun W => right1_any W)
 have H2 := hid (fun v b W h1 h2 h3 => two0_any (w.heap.size + 1) v b W h1 h2 h3)
 go_enter Tryz.func140, Tryz.ntmps140
 go_wp2_with fail
 (with_reducible refine (HR.out _).mono ?_)
 rintro e W1 ⟨rfl, hb1⟩
 have hB1 := (Blk.new w 262 #[.int .i64 1, .int .i64 0, .slice none 0 0]).below hb1 (Blk.new _ _ _).lt
 have hb01 : Below w.heap.size w W1 := ((Below.refl _ w).alloc (Nat.le_refl _) (.cells #[.int .i64 1, .int .i64 0, .slice none 0 0] 262)).trans (hb1.mono (by simp))
 have HK : Hid (∀ W, Below (w.heap.size + 1) W1 W → W.cell? ⟨w.heap.size, 0, none⟩ = some (.int .i64 1) ∧ W.cell? ⟨w.heap.size, 1, none⟩ = some (.int .i64 0) ∧ W.cell? ⟨w.heap.size, 2, none⟩ = some (.slice none 0 0)) := hid fun W hW => by
  have h := hB1.below hW (by omega)
  exact ⟨h.cell 0, h.cell 1, h.cell 2⟩
 have H1 := hid (⟨hB1, hb01⟩ : _ ∧ _)
 have hs1 : w.heap.size + 1 ≤ W1.heap.size := by have := hB1.lt; omega
 have HS := hid (HK.out W1 (Below.refl _ _))
 have hn : ∀ W : World, W.ownsRow (w.heap.size + 1) 5 1 (.slice none 0 0) ([] : Bs).length (cB []) := fun W => ⟨rfl, .inl ⟨rfl, rfl⟩⟩
 have HN := hid hn
 clear hb1 hB1 hb01 hn
 go_wp2
 go_region_held3 (fun W => W.cell? ⟨w.heap.size, 0, none⟩ = some (.int .i64 1) ∧ W.cell? ⟨w.heap.size, 1, none⟩ = some (.int .i64 0) ∧ W.cell? ⟨w.heap.size, 2, none⟩ = some (.slice none 0 0)) (first | exact HK.out _ hbC | exact HK.out _ hbA | exact HS.out)
  (first
   | (go_at_call 179; refine (H2.out _ [0, 0] _ hoA (by simp) hsA).mono ?_; rintro e W3 ⟨vB, rfl, hoB, hbB⟩; have hbC : Below (w.heap.size + 1) W1 W3 := hbA.trans hbB; have hsB : w.heap.size + 1 ≤ W3.heap.size := Nat.le_trans hs1 hbC.size)
   | (go_at_call 179; refine (H2.out (.slice none 0 0) [] _ (HN.out _) (by simp) (by exact hs1)).mono ?_; rintro e W2 ⟨vA, rfl, hoA, hbA'⟩; have hbA : Below (w.heap.size + 1) W1 W2 := ⟨hbA'.os, hbA'.tape, hbA'.output, hbA'.size, hbA'.block⟩; have hsA : w.heap.size + 1 ≤ W2.heap.size := Nat.le_trans hs1 hbA.size))
 all_goals
  obtain ⟨q0, q1, q2⟩ := HK.out W3 hbC
  have hlr := block_lt_of_cell q0
  have H3 := hid (⟨hoB, hbC⟩ : _ ∧ _)
  have hcp : ∀ (ad : Option Addr) (W : World) ty, (Builtin.copy_ #[27, 27] ty #[.slice ad 5 5, .slice none 0 0]).run Tryz.prog W = .ok (.int .i64 0) W := fun ad W ty => run_copy_none W 27 27 ty 3 ad none 5 5 0 0 Tryz.underlying27 (by kernel_rfl) rfl
  clear hoB hbC hbA hbA' hbB hoA
  go_wp2
  go_region
  all_goals
   go_wp2
   have HI0 : Hid (((W3.alloc (.cells #[.int .i64 0, .int .i64 0, .int .i64 0, .int .i64 0, .int .i64 0] 312)).drew).ownsRow (w.heap.size + 1) 5 1 vB ([0, 0, 0, 0] : Bs).length (cB [0, 0, 0, 0]) ∧ Below (w.heap.size + 1) W1 ((W3.alloc (.cells #[.int .i64 0, .int .i64 0, .int .i64 0, .int .i64 0, .int .i64 0] 312)).drew)) := hid ⟨row_ofR (H3.out.1.alloc _) (fun _ _ => rfl), below_drewN (H3.out.2.alloc hsB _) 1⟩
   go_loopg [4, 7, 24] 5 (fun gg s4 s7 s24 wr => ∃ (j : Nat) (v : Value) (b : Bs), j ≤ 5 ∧ 5 - j ≤ gg ∧ s24 = .int .i64 j ∧ s4 = v ∧ Hid (wr.ownsRow (w.heap.size + 1) 5 1 v b.length (cB b) ∧ b.length = 4 + 2 * j ∧ Below (w.heap.size + 1) W1 wr))
   case atStart => exact ⟨0, vB, [0, 0, 0, 0], by omega, by omega, rfl, rfl, hid ⟨HI0.out.1, rfl, HI0.out.2⟩⟩
   case round =>
    obtain ⟨j, v, b, hj, hgg, rfl, rfl, HI⟩ := hrel
    by_cases hje : j < 5
    ·have hix := run_index5 j hje
     have hji : (j : Int) < 5 := by omega
     have HT := hid (H2.out _ b wr HI.out.1 (by have := HI.out.2.1; omega) (Nat.le_trans hs1 HI.out.2.2.size))
     go_wp2_with fail
     (with_reducible refine HT.out.mono ?_)
     rintro e W5 ⟨v5, rfl, ho5, hb5⟩
     have H5 : Hid (W5.ownsRow (w.heap.size + 1) 5 1 v5 (b ++ [0, 0]).length (cB (b ++ [0, 0])) ∧ (b ++ [0, 0]).length = 4 + 2 * (j + 1) ∧ Below (w.heap.size + 1) W1 W5) := hid ⟨ho5, by have := HI.out.2.1; simp; omega, HI.out.2.2.trans hb5⟩
     clear ho5 hb5
     go_wp2
     go_roundg (5 - (j + 1))
     case measure => omega
     case rel => exact ⟨j + 1, v5, _, by omega, by omega, by go_num, rfl, H5⟩
    ·have hj5 : j = 5 := by omega
     subst hj5
     obtain ⟨i0, hi0, hz0, hz1, hz2⟩ := info_parts inf5
     go_wp2
     go_loopg [4] 44 (fun gg s4 wr => ∃ (v : Value) (b : Bs), b.length ≤ 44 ∧ 44 - b.length ≤ gg ∧ s4 = v ∧ Hid (wr.ownsRow (w.heap.size + 1) 5 1 v b.length (cB b) ∧ Below (w.heap.size + 1) W1 wr))
     case atStart => exact ⟨_, b, by have := HI.out.2.1; omega, by omega, rfl, hid ⟨HI.out.1, HI.out.2.2⟩⟩
     case round =>
      obtain ⟨v, b, hbl, hgg, rfl, HJ⟩ := hrel
      obtain ⟨n, hn⟩ : ∃ n, n = b.length := ⟨_, rfl⟩
      have HN2 := hid hn
      have ho := HJ.out.1
      rw [← hn] at ho hbl hgg
      obtain ⟨pa, pc, rfl⟩ := own_slice2R ho
      have HO := hid ho
      clear hn ho
      by_cases hlt : n < 44
      ·have hlti : (n : Int) < 44 := by omega
       go_wp2_with (with_reducible refine stopAt .append rfl ?_)
       with_reducible refine goOn ?_
       refine wpList_append_own_at _ rfl _ _ 129 rfl (w.heap.size + 1) 5 i0 (.int .u8 0) 1 1 Tryz.underlying129 hi0 hz0 hz1 hz2 rfl (by decide) _ _ _ rfl (HO.out.alloc _) ⟨wr.heap.size, 0, none⟩ 1 1 [.int .u8 0] rfl rfl ?c1 ?c2 ?c3 ?c4 ?c5 ?_
       case c1 => exact news1 _ _ _ rfl
       case c2 => exact one1 rfl
       case c3 => unfold maxLen; omega
       case c4 => omega
       case c5 => have := HJ.out.2.size; simp; omega
       intro v' w5 hown' hgr _ _
       have HF : Hid (w5.ownsRow (w.heap.size + 1) 5 1 v' (b ++ [0]).length (cB (b ++ [0])) ∧ Below (w.heap.size + 1) W1 w5) := hid ⟨own_eq hown' (by simp [HN2.out]) (by simp [cB]), ((HJ.out.2.alloc (Nat.le_trans hs1 HJ.out.2.size) _).grown hgr (by have := HJ.out.2.size; simp; omega) (fun g hg => (HO.out.lt g hg).1))⟩
       clear hown' hgr
       go_wp2
       go_roundg (44 - (n + 1))
       case measure => omega
       case rel => exact ⟨v', b ++ [0], by have := HN2.out; simp; omega, by have := HN2.out; simp; omega, rfl, HF⟩
      ·have hn4 : n = 44 := by omega
       have hlti : ¬ (n : Int) < 44 := by omega
       have hcv := fun (W : World) (h : W.ownsRow (w.heap.size + 1) 5 1 (.slice pa n pc) b.length (cB b)) => own_string h
       have hcv2 := hcv wr (by rw [← HN2.out]; exact HO.out)
       have HCR := hid (fun W => crcLay_any b W (by have := HN2.out; omega) (by have := HN2.out; omega))
       have hlc : (crcLay b).length = 48 := by have := HN2.out; simp; omega
       have HN4 := hid hn4
       clear hcv hn4
       go_wp2_with fail
       (with_reducible refine (HCR.out _).mono ?_)
       rintro e W6 ⟨rfl, hb6⟩
       have hb16 : Below (w.heap.size + 1) W1 W6 := HJ.out.2.trans (hb6.mono (Nat.le_trans hs1 HJ.out.2.size))
       have HCL : Hid (∀ W, BelC W6 W → W.cell? ⟨w.heap.size, 0, none⟩ = some (.int .i64 1)) := hid fun W hW => (HK.out W (hb16.trans (hW.out.mono (Nat.le_trans hs1 hb16.size)))).1
       have HI1 := hid (BelC.call (W1 := W6) (fun W => packI_any 1 W (by omega) (by omega)))
       have HFB : Hid (∀ W, BelC W6 W → Below w.heap.size w W) := hid fun W hW => H1.out.2.trans ((hb16.mono (Nat.le_succ _)).trans (hW.out.mono (Nat.le_trans H1.out.2.size hb16.size)))
       have hl8 : (encI 1).length = 8 := encI_length 1
       obtain ⟨cb, hcb⟩ : ∃ cb, cb = crcLay b := ⟨_, rfl⟩
       rw [← hcb] at hlc ⊢
       clear hcb hb6 hb16 hcv2
       go_wp2
       refine qC_region (by kernel_rfl) (by kernel_rfl) (BelC W6) (BelC.drew W6) ?_
       repeat (first | (refine qC_none rfl (fun K hK => ?_); apply Exists.intro; refine ⟨fun w0 hw0 => ?_, ?_⟩; (focus (have q0 := HCL.out w0 hw0; go_simp; first | exact rfl | exact ⟨rfl, rfl⟩ | (exact HI1.out w0 hw0))); go_simp; refine hK _ ?_; clear hK K) | (refine qC_yes _ _ _ rfl rfl (by rfl) (fun K hK => ?_); apply Exists.intro; refine ⟨fun w0 hw0 => ?_, ?_⟩; (focus (have q0 := HCL.out w0 hw0; go_simp; first | exact rfl | exact ⟨rfl, rfl⟩ | (exact HI1.out w0 hw0))); go_simp; refine hK _ ?_; clear hK K) | (refine qC_no _ _ _ rfl rfl (by rfl) (fun K hK => ?_); go_simp; refine hK _ ?_; clear hK K) | (refine qC_undef _ _ _ rfl rfl (by rfl) (fun K hK => ?_); go_simp; refine hK _ ?_; clear hK K))
       refine qC_nil ?_
       intro w7 hw7
       have H7 := hid (HFB.out w7 hw7)
       have HLC := hid hlc
       clear hw7
       go_wp2
       go_ret2
       exact ⟨_, rfl, by have := HLC.out; simp; omega, H7.out⟩
end
section
open Go.RowKit Go.Lib
theorem madeCells_one (z : Value) (n : Nat) : madeCells #[z] n = (List.replicate n z).toArray := by
 apply Array.ext
 ·rw [size_madeCells]; simp
 ·intro i h1 h2
  rw [size_madeCells] at h1
  have := madeCells_get #[z] n i h1
  rw [Array.getElem?_eq_getElem (by rw [size_madeCells]; exact h1)] at this
  injection this with this
  rw [this]
  have e : i % (#[z] : Array Value).size = 0 := Nat.mod_one i
  rw [e]
  simp
theorem infInt1 : (Tryz.prog.info? 3).map (fun i => (i.zero, i.size, i.bytes)) = some (some (.int .i64 0), 1, 8) := by kernel_rfl
set_option maxHeartbeats 2000000 in
theorem freemap_new (n : Nat) (n0 : 0 < n) (n1 : n ≤ 1024) (w : World) :
  Calls Tryz.prog 139 #[.int .i64 n] w fun e w' => ∃ m ml, e = .returned (.tuple #[.pointer (some ⟨m, 0, none⟩), .int .i64 0]) ∧ MpI w' m ml (List.replicate n 0) ∧ Below w.heap.size w w' ∧ w.heap.size ≤ m ∧ w.heap.size ≤ ml := by
 have hmk := fun (W : World) => run_make_row' (P := Tryz.prog) 27 3 (.int .i64 0) 8 Tryz.underlying27 infInt1 rfl .i64 .i64 n (by omega) (by omega) W
 have h1 : ¬ ((n : Int) < 0) := by omega
 have h2 : ¬ (1024 < (n : Int)) := by omega
 have HN := hid (⟨n0, n1⟩ : _ ∧ _)
 clear n0 n1
 go_enter Tryz.func139, Tryz.ntmps139
 go_wp2
 go_ret2
 refine ⟨w.heap.size + 1, rfl, w.heap.size, ⟨?_, ?_, by simpa using HN.out.1, by simpa using HN.out.2⟩, ((Below.refl _ w).alloc (Nat.le_refl _) _).alloc (by simp) _, by omega, Nat.le_refl _⟩
 ·have := Blk.new (w.alloc (.cells (madeCells #[.int .i64 0] n) 3)) 309 #[.slice (some ⟨w.heap.size, 0, none⟩) n n]
  simpa using this
 ·have e : madeCells #[.int .i64 0] n = (cI (List.replicate n 0)).toArray := by rw [madeCells_one, cI, List.map_replicate]
  have := (Blk.new w 3 (madeCells #[.int .i64 0] n)).alloc (.cells #[.slice (some ⟨w.heap.size, 0, none⟩) n n] 309)
  have e2 : Blk ((w.alloc (.cells (madeCells #[.int .i64 0] n) 3)).alloc (.cells #[.slice (some ⟨w.heap.size, 0, none⟩) n n] 309)) w.heap.size 3 (cI (List.replicate n 0)).toArray := e ▸ this
  exact e2
set_option maxHeartbeats 2000000 in
theorem sh_pages {w : World} {D : DkL} {sec : Nat → Bs} (h : DkI w D 1202 sec) : Calls Tryz.prog 138 #[.pointer (some ⟨D.d, 0, none⟩)] w fun e w' => e = .returned (.int .i64 300) ∧ w = w' := by
 have HM := hid (page_many h 300 rfl)
 clear h
 go_enter Tryz.func138, Tryz.ntmps138
 go_wp2_with fail
 (with_reducible refine HM.out.mono ?_)
 rintro e w1 ⟨rfl, rfl⟩
 go_wp2
 go_ret
 exact ⟨rfl, rfl⟩
set_option maxHeartbeats 8000000 in
theorem sh_format {w : World} {D : DkL} {sec : Nat → Bs} (h : DkI w D 1202 sec) :
  Calls Tryz.prog 90 #[.pointer (some ⟨D.d, 0, none⟩)] w fun e w' => ∃ L G, e = .returned (.tuple #[.pointer (some ⟨L.s, 0, none⟩), .int .i64 0]) ∧ ShI w' L G [] ∧ Kp (dkOwn D) w w' ∧ ∀ b ∈ shOwn L G, b ∈ dkOwn D ∨ w.heap.size ≤ b := by
 have HP := hid (fun W (hW : Below w.heap.size w W) => sh_pages (h.below hW))
 have HFM := hid (fun W => freemap_new 300 (by omega) (by omega) W)
 rw [show ((300 : Nat) : Int) = 300 from rfl] at HFM
 have HRP := hid (fun W => rootput_any W)
 have HX := hid h
 have hdl := hid h.lts
 clear h
 go_enter Tryz.func90, Tryz.ntmps90
 go_wp2_with fail
 (with_reducible refine (HP.out _ (Below.refl _ _)).mono ?_)
 rintro e w1 ⟨rfl, rfl⟩
 have HP2 := hid (HP.out _ ((Below.refl _ w).alloc (Nat.le_refl _) (.cells #[.pointer (some ⟨D.d, 0, none⟩), .pointer none, .slice none 0 0, .slice none 0 0, .slice none 0 0, .int .i64 1, .int .i64 0, .bool false] 257)))
 go_wp2_with fail
 (with_reducible refine HP2.out.mono ?_)
 rintro e w1 ⟨rfl, rfl⟩
 go_wp2_with fail
 (with_reducible refine (HFM.out _).mono ?_)
 rintro e w2 ⟨m, ml, rfl, hM, hb2', hm, hml⟩
 have hb2 : Below w.heap.size w w2 := ((Below.refl _ w).alloc (Nat.le_refl _) (.cells #[.pointer (some ⟨D.d, 0, none⟩), .pointer none, .slice none 0 0, .slice none 0 0, .slice none 0 0, .int .i64 1, .int .i64 0, .bool false] 257)).trans (hb2'.mono (by simp))
 have hS2 := (Blk.new w 257 #[.pointer (some ⟨D.d, 0, none⟩), .pointer none, .slice none 0 0, .slice none 0 0, .slice none 0 0, .int .i64 1, .int .i64 0, .bool false]).below hb2' (Blk.new _ _ _).lt
 have hm' : w.heap.size + 1 ≤ m := by simpa using hm
 have hml' : w.heap.size + 1 ≤ ml := by simpa using hml
 have s1 : w2.cell? ⟨w.heap.size, 1, none⟩ = some (.pointer none) := hS2.cell 1
 have sf1 := hS2.frozen 1
 have slt := hS2.lt
 obtain ⟨w3, hw3⟩ : ∃ w3, w3 = w2.setCell ⟨w.heap.size, 1, none⟩ (.pointer (some ⟨m, 0, none⟩)) := ⟨_, rfl⟩
 have hb3 : Below w.heap.size w w3 := by rw [hw3]; exact hb2.setCell (Nat.le_refl _) _
 have hS3 : Blk w3 w.heap.size 257 #[.pointer (some ⟨D.d, 0, none⟩), .pointer (some ⟨m, 0, none⟩), .slice none 0 0, .slice none 0 0, .slice none 0 0, .int .i64 1, .int .i64 0, .bool false] := by rw [hw3]; simpa using hS2.set_ 1 (.pointer (some ⟨m, 0, none⟩))
 have hM3 : MpI w3 m ml (List.replicate 300 0) := by
  rw [hw3]
  exact hM.of_blocks (Below.heap_setCell _ _ _ _ (by show m ≠ w.heap.size; omega)) (Below.heap_setCell _ _ _ _ (by show ml ≠ w.heap.size; omega))
 have HRP3 := hid (HRP.out w3)
 rw [hw3] at HRP3
 have HW3 := hid hw3
 have H3 := hid (⟨hb3, hS3, hM3, hm', hml'⟩ : _ ∧ _ ∧ _ ∧ _ ∧ _)
 clear hM hb2' hm hml hb2 hS2 hm' hml' hw3 hb3 hS3 hM3 HP2
 go_wp2_with fail
 (with_reducible refine HRP3.out.mono ?_)
 rintro e w4 ⟨b, rfl, hbl, hb4⟩
 rw [← HW3.out] at hb4
 obtain ⟨hb3, hS3, hM3, hm', hml'⟩ := H3.out
 have hb04 := hb3.trans (hb4.mono hb3.size)
 have hS4 := hS3.below hb4 hS3.lt
 have hM4 : MpI w4 m ml (List.replicate 300 0) := hM3.of_blocks (hb4.block m hM3.c.lt) (hb4.block ml hM3.l.lt)
 obtain ⟨W5, hW5⟩ : ∃ W5, W5 = w4.alloc (.cells #[.string (S b), .string ⟨#[]⟩] 9) := ⟨_, rfl⟩
 have hb45 : Below w4.heap.size w4 W5 := by rw [hW5]; exact (Below.refl _ w4).alloc (Nat.le_refl _) _
 have hT5 : Blk W5 w4.heap.size 9 #[.string (S b), .string ⟨#[]⟩] := by rw [hW5]; exact Blk.new w4 _ _
 have hD5 : DkI W5 D 1202 sec := HX.out.below (hb04.trans (hb45.mono hb04.size))
 have HBL := hid hbl
 have HI0 : Hid (∃ sec', DkI W5 D 1202 sec' ∧ Kp (dkOwn D) W5 W5) := hid ⟨sec, hD5, Kp.refl _ _⟩
 have H5 := hid (⟨hb04.trans (hb45.mono hb04.size), hS4.below hb45 hS4.lt, (hM4.of_blocks (hb45.block m hM4.c.lt) (hb45.block ml hM4.l.lt) : MpI W5 m ml (List.replicate 300 0)), hT5, hb04.size, hm', hml', hS4.lt, hM4.c.lt, hM4.l.lt⟩ : _ ∧ _ ∧ _ ∧ _ ∧ _ ∧ _ ∧ _ ∧ _ ∧ _ ∧ _)
 have HW5 := hid hW5
 clear hb3 hS3 hM3 hm' hml' hb04 hS4 hM4 hb45 hT5 hD5 hbl hb4 s1 sf1 slt HRP3 hW5
 go_wp2
 rw [← HW5.out]
 go_loopg [7, 8, 9, 38] 2 (fun gg s7 s8 s9 s38 wr => ∃ (j : Nat), j ≤ 2 ∧ 2 - j ≤ gg ∧ s38 = .int .i64 j ∧ Hid (∃ sec', DkI wr D 1202 sec' ∧ Kp (dkOwn D) W5 wr))
 case atStart => exact ⟨0, by omega, by omega, rfl, HI0⟩
 case round =>
  obtain ⟨j, hj, hgg, rfl, HI⟩ := hrel
  by_cases hje : j < 2
  ·obtain ⟨sec', hD, hk⟩ := HI.out
   obtain ⟨_, _, _, hT5, hsz, _⟩ := H5.out
   have hnd : w4.heap.size ∉ dkOwn D := fun hm => by
    have h1 := HX.out.lts
    simp only [dkOwn, List.mem_cons, List.not_mem_nil, or_false] at hm
    omega
   have hTr := hT5.kp hk hnd
   obtain ⟨tx, htx, htl⟩ : ∃ tx : Bs, wr.cell? ⟨w4.heap.size, j, none⟩ = some (.string (S tx)) ∧ tx.length ≤ 64 := by
    have h2 : j = 0 ∨ j = 1 := by omega
    rcases h2 with rfl | rfl
    ·exact ⟨b, hTr.cell 0, by have := HBL.out; omega⟩
    ·exact ⟨[], hTr.cell 1, by simp⟩
   have HWR := hid (disk_write hD j (by omega) tx htl)
   have HKK := hid hk
   have hji : (j : Int) < 2 := by omega
   clear hD hk hT5 hsz hnd hTr htl
   go_wp2_with fail
   (with_reducible refine HWR.out.mono ?_)
   rintro e w6 ⟨rfl, hD6, hk6⟩
   have H6 : Hid (∃ sec', DkI w6 D 1202 sec' ∧ Kp (dkOwn D) W5 w6) := hid ⟨_, hD6, HKK.out.trans hk6⟩
   clear hD6 hk6
   go_wp2
   go_roundg (2 - (j + 1))
   case measure => omega
   case rel => exact ⟨j + 1, by omega, by omega, by go_num, H6⟩
  ·obtain ⟨sec', hD, hk⟩ := HI.out
   have HSY := hid (disk_sync hD)
   have HKK := hid hk
   have hji : ¬ (j : Int) < 2 := by omega
   clear hD hk
   go_wp2_with fail
   (with_reducible refine HSY.out.mono ?_)
   rintro e w6 ⟨rfl, hD6, hk6⟩
   have hk56 := HKK.out.trans hk6
   obtain ⟨hb05, hS5, hM5, hT5, hsz, hm', hml', hslt, hmlt, hmllt⟩ := H5.out
   have hdlt := HX.out.lts
   have hn1 : w.heap.size ∉ dkOwn D := fun hm => by
    simp only [dkOwn, List.mem_cons, List.not_mem_nil, or_false] at hm; omega
   have hn2 : m ∉ dkOwn D := fun hm => by
    simp only [dkOwn, List.mem_cons, List.not_mem_nil, or_false] at hm; omega
   have hn3 : ml ∉ dkOwn D := fun hm => by
    simp only [dkOwn, List.mem_cons, List.not_mem_nil, or_false] at hm; omega
   have hS6 := hS5.kp hk56 hn1
   have hM6 : MpI w6 m ml (List.replicate 300 0) := hM5.of_blocks (hk56.block m hM5.c.lt hn2) (hk56.block ml hM5.l.lt hn3)
   have hfin : ∃ L G, (⟨w.heap.size, 0, none⟩ : Addr) = ⟨L.s, 0, none⟩ ∧ ShI w6 L G [] ∧ Kp (dkOwn D) w w6 ∧ ∀ b ∈ shOwn L G, b ∈ dkOwn D ∨ w.heap.size ≤ b := by
    refine ⟨⟨D, m, ml, w.heap.size⟩, ⟨_, List.replicate 300 0, [], .slice none 0 0⟩, rfl, ⟨hS6, hD6, hM6, by simp, ⟨rfl, .inl ⟨rfl, rfl⟩⟩, rfl, by simp, by simp, by simp, by simp, fun p k hp => .inl ?_, ?_, ?_⟩, (Kp.of_below hb05).trans hk56, fun b hb => ?_⟩
    ·simp only [List.getElem?_replicate] at hp
     split at hp
     ·injection hp with hp; exact hp.symm
     ·cases hp
    ·simp [somes]
    ·have hmne := hM6.ne
     have := hD6.ne1; have := hD6.ne2; have := hD6.ne3; have := hD6.ne4; have := hD6.ne5; have := hD6.ne6
     simp only [dkOwn, List.mem_cons, List.not_mem_nil, or_false, not_or] at hn1 hn2 hn3
     simp [shOwn, dkOwn, Value.ownBlock]
     refine ⟨⟨?_, ?_, ?_, ?_, ?_, ?_⟩, ⟨?_, ?_, ?_, ?_, ?_⟩, ⟨?_, ?_, ?_, ?_⟩, ⟨?_, ?_, ?_⟩, ⟨?_, ?_⟩, ?_⟩ <;> first | assumption | omega
    ·simp only [shOwn, List.mem_append, List.mem_cons, List.not_mem_nil, or_false] at hb
     rcases hb with (hb | rfl | rfl | rfl) | hb
     ·exact .inl hb
     ·exact .inr (by omega)
     ·exact .inr (by omega)
     ·exact .inr (Nat.le_refl _)
     ·simp [Value.ownBlock] at hb
   have HFIN := hid hfin
   clear hD6 hk6 hk56 hb05 hS5 hM5 hT5 hsz hm' hml' hslt hmlt hmllt hdlt hn1 hn2 hn3 hS6 hM6 hfin
   go_wp2
   go_ret2
   obtain ⟨L, G, e1, h1, h2, h3⟩ := HFIN.out
   exact ⟨L, G, by rw [← e1]; rfl, h1, h2, h3⟩
end
section
open Go.RowKit Go.Lib
def fr0 : Fr := ⟨-1, [], 0, false, false⟩
theorem infFrame : (Tryz.prog.info? 269).map (fun i => (i.zero, i.size, i.bytes)) = some (some (.agg #[.int .i64 0, .string ⟨#[]⟩, .int .i64 0, .bool false, .bool false]), 5, 40) := by kernel_rfl
theorem frC_one (x : Fr) : ∀ u ∈ frC x, u.oneCell' = true := by
 intro u hu
 simp [frC] at hu
 rcases hu with rfl | rfl | rfl | rfl | rfl <;> rfl
set_option maxHeartbeats 1000000 in
theorem pempty_any (w : World) : Calls Tryz.prog 143 #[] w fun e w' => e = .returned (.agg #[.int .i64 (-1), .string ⟨#[]⟩, .int .i64 0, .bool false, .bool false]) ∧ Below w.heap.size w w' := by
 go_enter Tryz.func143, Tryz.ntmps143
 go_wp2
 have hr := Blk.new w 269 #[.int .i64 (-1), .string ⟨#[]⟩, .int .i64 0, .bool false, .bool false]
 have v0 := hr.cell 0
 have v1 := hr.cell 1
 have v2 := hr.cell 2
 have v3 := hr.cell 3
 have v4 := hr.cell 4
 simp only [List.getElem?_toArray, List.getElem?_cons_zero, List.getElem?_cons_succ] at v0 v1 v2 v3 v4
 refine bodyPost_ret (v := .agg #[.int .i64 (-1), .string ⟨#[]⟩, .int .i64 0, .bool false, .bool false]) (by simp [results, Tryz.results143, go_sem, v0, v1, v2, v3, v4]) rfl ⟨rfl, (Below.refl _ w).alloc (Nat.le_refl _) _⟩
theorem step_app_one {ops : Array Oper} {o : Oper} {a : Act} {K : Act → World → Prop} {Q : Exit → Act → World → Prop} (hgd : o.guard = none) (s x : Operand) (t : TypeId)
  (ho : o.op = .call { callee := .builtin .append, args := #[s, x], argTypes := #[t, t] }) {α : Type} (enc : α → List Value) {e : TypeId} {z : Value} {size bytes : Nat} (hi : (Tryz.prog.info? e).map (fun i => (i.zero, i.size, i.bytes)) = some (some z, size, bytes)) (ht : Tryz.prog.underlying t = some (.slice e))
  (hzs : z.cells.size = size) (hsz : 0 < size) (hby : bytes ≤ 1000) (hk : ∀ x, (enc x).length = size) (hone : ∀ x, ∀ u ∈ enc x, u.oneCell' = true) {B : Nat} {W : World} {v : Value} {l : List α} {n : Nat} (x0 : α) (hown : W.ownsRow B e size v n (rowV enc l)) (hn : n ≤ 100000) (hB : B ≤ W.heap.size)
  (hs : a.eval s = v) (hx : a.eval x = .slice (some ⟨W.heap.size, 0, none⟩) 1 1)
  (h : ∀ v' w', w'.ownsRow B e size v' (n + 1) (rowV enc (l ++ [x0])) → Kp v.ownBlock.toList W w' → (∀ g, v'.ownBlock = some g → v.ownBlock = some g ∨ W.heap.size ≤ g) → K (a.put o.dst v') w') :
  if Region.wanted o (yielded ops a.tmps) = true then Oper.wp Tryz.prog o a (W.alloc (.cells (enc x0).toArray e)) K Q else K (a.put o.dst undef) (W.alloc (.cells (enc x0).toArray e)) := by
 rw [if_pos (by unfold Region.wanted; rw [hgd])]
 obtain ⟨i0, hi0, hz0, hz1, hz2⟩ := info_parts hi
 obtain ⟨v', w', hr, h2, h3, h4⟩ := run_app_fresh (P := Tryz.prog) (W.alloc (.cells (enc x0).toArray e)) B t o.type e i0 z size bytes ht hi0 hz0 hz1 hz2 hzs hsz v n _ (hown.alloc _) ⟨W.heap.size, 0, none⟩ 1 (enc x0) (hk x0) (news_of (Blk.new W e (enc x0).toArray)) (hone x0) (by unfold maxLen; omega)
  (by
   have : (n + 1) * bytes ≤ 100001 * 1000 := Nat.mul_le_mul (by omega) hby
   omega) (by simp; omega)
 unfold Oper.wp execOp
 simp only [ho, resolve, invoke, builtin, Sem.run_bind, Sem.run_pure, Result.andThen_ok, List.map_toArray, List.map_cons, List.map_nil, hs, hx, hr]
 refine h v' w' (by rw [rowV_append, rowV_cons, rowV_nil, List.append_nil]; exact h2) (((Kp.refl _ W).alloc _).grown h3 (fun g hg => .inl (Option.mem_toList.2 hg))) (fun g hg => (h4 g hg).imp id (fun h' => ?_))
 simp at h'
 omega
set_option maxHeartbeats 8000000 in
theorem pool_new (s : Nat) (w : World) : Calls Tryz.prog 91 #[.pointer (some ⟨s, 0, none⟩), .int .i64 5] w fun e w' => ∃ p v, e = .returned (.tuple #[.pointer (some ⟨p, 0, none⟩), .int .i64 0]) ∧ Blk w' p 267 #[.pointer (some ⟨s, 0, none⟩), v, .int .i64 0] ∧ w'.ownsRow (p + 1) 269 5 v 5 (rowV frC (List.replicate 5 fr0)) ∧ w.heap.size ≤ p ∧ Below w.heap.size w w' := by
 have HE := hid (fun W => pempty_any W)
 go_enter Tryz.func91, Tryz.ntmps91
 go_wp2
 have hP0 := Blk.new w 267 #[.pointer (some ⟨s, 0, none⟩), .slice none 0 0, .int .i64 0]
 obtain ⟨W1, hW1⟩ : ∃ W1, W1 = w.alloc (.cells #[.pointer (some ⟨s, 0, none⟩), .slice none 0 0, .int .i64 0] 267) := ⟨_, rfl⟩
 rw [← hW1] at hP0 ⊢
 have hb1 : Below w.heap.size w W1 := by rw [hW1]; exact (Below.refl _ w).alloc (Nat.le_refl _) _
 have HI0 : Hid (Blk W1 w.heap.size 267 #[.pointer (some ⟨s, 0, none⟩), .slice none 0 0, .int .i64 0] ∧ W1.ownsRow (w.heap.size + 1) 269 5 (.slice none 0 0) 0 (rowV frC (List.replicate 0 fr0)) ∧ Below w.heap.size w W1) := hid ⟨hP0, ⟨rfl, .inl ⟨rfl, rfl⟩⟩, hb1⟩
 clear hP0 hb1 hW1
 go_loopg [21] 5 (fun gg s21 wr => ∃ (j : Nat) (v : Value), j ≤ 5 ∧ 5 - j ≤ gg ∧ s21 = .int .i64 j ∧ Hid (Blk wr w.heap.size 267 #[.pointer (some ⟨s, 0, none⟩), v, .int .i64 0] ∧ wr.ownsRow (w.heap.size + 1) 269 5 v j (rowV frC (List.replicate j fr0)) ∧ Below w.heap.size w wr))
 case atStart => exact ⟨0, _, by omega, by omega, rfl, HI0⟩
 case round =>
  obtain ⟨j, v, hj, hgg, rfl, HI⟩ := hrel
  by_cases hje : j < 5
  ·obtain ⟨hB, hO, hb⟩ := HI.out
   obtain ⟨pa, pc, rfl⟩ := own_slice2 hO
   have c1 : wr.cell? ⟨w.heap.size, 1, none⟩ = some (.slice pa j pc) := hB.cell 1
   have f1 := hB.frozen 1
   have hlt := hB.lt
   have hji : (j : Int) < 5 := by omega
   clear hB hO hb
   go_wp2
   go_region_law (first
    | (refine step_app_one rfl _ _ 265 rfl frC infFrame Tryz.underlying265 rfl (by decide) (by decide) frC_len frC_one fr0 (hOE : World.ownsRow _ _ _ _ _ _ _) (by omega) hszE rfl rfl ?_; intro v' w5 hO5 hk5 hg5; obtain ⟨g2, c2, rfl, hg21, hg22, hg23⟩ := own_form hO5 (by omega); have hB5 := (HI.out.1.below hbE' hlt).kp hk5 (fun hm => by have := (hOE.lt _ (Option.mem_toList.1 hm)).1; omega); have c5 := hB5.cell 1; have f5 := hB5.frozen 1; have l5 := hB5.lt)
    | (go_simp; refine (HE.out _).mono ?_; rintro e wE ⟨rfl, hbE⟩; have hbE' := below_undrew hbE; have hOE := row_of HI.out.2.1 (fun b hb => hbE'.block b (HI.out.2.1.lt b hb).2); have hszE : w.heap.size + 1 ≤ wE.heap.size := Nat.le_trans hlt hbE'.size; have cE := (HI.out.1.below hbE' hlt).cell 1; have fE := (HI.out.1.below hbE' hlt).frozen 1; have lE := (HI.out.1.below hbE' hlt).lt; dsimp only))
   all_goals
    go_wp2
    go_roundg (5 - (j + 1))
    case measure => omega
    case rel =>
     have e1 : List.replicate (j + 1) fr0 = List.replicate j fr0 ++ [fr0] := by rw [← List.replicate_append_replicate]; rfl
     refine ⟨j + 1, _, by omega, by omega, by go_num, hid ⟨by simpa using hB5.set_ 1 (.slice (some ⟨g2, 0, none⟩) (j + 1) c2), ?_, ?_⟩⟩
     ·rw [e1]
      exact row_of hO5 (fun b hb => by
       simp [Value.ownBlock] at hb
       subst hb
       exact Below.heap_setCell _ _ _ _ (by show g2 ≠ w.heap.size; omega))
     ·have hbw : Below w.heap.size w wE := HI.out.2.2.trans (hbE'.mono HI.out.2.2.size)
      have hb5 : Below w.heap.size wE w5 := hk5.to_below (Nat.le_trans (Nat.le_succ _) hszE) (fun x hx => by have := (hOE.lt _ (Option.mem_toList.1 hx)).1; omega)
      exact (hbw.trans hb5).setCell (Nat.le_refl _) _
  ·have hj5 : j = 5 := by omega
   subst hj5
   go_wp2
   go_ret2
   exact ⟨w.heap.size, v, rfl, HI.out.1, HI.out.2.1, Nat.le_refl _, HI.out.2.2⟩
theorem ShI.below_ {w w' : World} {L : ShL} {G : ShG} {pgs : List (Option Bs)} (h : ShI w L G pgs) (hb : Below w.heap.size w w') : ShI w' L G pgs := h.of_blocks fun b hx => hb.block b (h.lts b hx)
theorem rel_new : Rel (List.replicate 5 fr0) [] [] := by
 have hf : ∀ {i : Nat} {x : Fr}, (List.replicate 5 fr0)[i]? = some x → x = fr0 := fun {i x} h => by
  rw [List.getElem?_replicate] at h
  split at h
  ·injection h with h; exact h.symm
  ·cases h
 refine ⟨fun q => rfl, fun q => .inl rfl, fun i x q h hp => ?_, fun i j x y q h h2 hp => ?_, fun i x h _ => ?_⟩
 ·rw [hf h] at hp; simp [fr0] at hp
 ·intro hp2
  rw [hf h] at hp; simp [fr0] at hp
 ·rw [hf h]; rfl
set_option maxHeartbeats 2000000 in
theorem pool_fresh {w : World} {L : ShL} {G : ShG} (h : ShI w L G []) :
  Calls Tryz.prog 91 #[.pointer (some ⟨L.s, 0, none⟩), .int .i64 5] w fun e w' => ∃ P O, e = .returned (.tuple #[.pointer (some ⟨P.p, 0, none⟩), .int .i64 0]) ∧ P.S = L ∧ PoI w' P O [] ∧ Below w.heap.size w w' ∧ ∀ b ∈ O, b ∈ shOwn L G ∨ w.heap.size ≤ b := by
 have hl := h.lts
 refine (pool_new L.s w).mono ?_
 rintro e w' ⟨p, v, rfl, hP, hO, hp, hb⟩
 obtain ⟨g, c, rfl, hg1, hg2, hg3⟩ := own_form hO (by omega)
 refine ⟨⟨L, p, g, c⟩, _, rfl, rfl, ⟨G, List.replicate 5 fr0, 0, [], rfl, ⟨⟨hP, own_base hO (Nat.zero_le _), by simp, by omega, by show p ≠ g; omega⟩, h.below_ hb, fun hm => ?_, fun hm => ?_, rel_new⟩, fun i y hy => ?_⟩, hb, fun b hb' => ?_⟩
 ·have := hl p hm; omega
 ·have := hl g hm; omega
 ·rw [List.getElem?_replicate] at hy
  split at hy
  ·injection hy with hy; rw [← hy]; rfl
  ·cases hy
 ·simp only [poOwn, List.mem_cons] at hb'
  rcases hb' with rfl | rfl | hb'
  ·exact .inr hp
  ·exact .inr (by omega)
  ·exact .inl hb'
end
end Go.Proofs.YtnnghcooidjlhaaGreat
