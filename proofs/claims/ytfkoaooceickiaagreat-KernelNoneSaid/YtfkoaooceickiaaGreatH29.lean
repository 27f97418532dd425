/- Parts of the proof: Lob Lok Lod. -/
import Derived.BigQuiet
import Derived.Test.YtfkoaooceickiaaGreatH04
import Derived.Test.YtfkoaooceickiaaGreatH17
import Derived.Test.YtfkoaooceickiaaGreatH20
import Derived.Test.YtfkoaooceickiaaGreatH28
set_option linter.all false
set_option maxRecDepth 100000
namespace Go.Proofs.YtfkoaooceickiaaGreat
section
open Go.RowKit Go.Lib
theorem kworks_nil (w : World) : Calls Tryz.prog 138 #[.pointer none] w fun e w' => e = .returned (.int .i64 1) ∧ Below w.heap.size w w' := by
 go_enter Tryz.func138, Tryz.ntmps138
 go_wp2
 go_ret
 exact ⟨rfl, Below.refl _ w⟩
theorem kstep_nil (v : Value) (w : World) : Calls Tryz.prog 114 #[.pointer none, v] w fun e w' => e = .returned (.int .i64 1) ∧ Below w.heap.size w w' := by
 go_enter Tryz.func114, Tryz.ntmps114
 go_wp2_with (go_at_call 138; with_reducible refine (kworks_nil _).mono ?_; rintro e W2 ⟨rfl, hb⟩)
 go_ret
 exact ⟨rfl, hb⟩
theorem klook_nil (v : Value) (w : World) : Calls Tryz.prog 117 #[.pointer none, v] w fun e w' => e = .returned (.int .i64 1) ∧ Below w.heap.size w w' := by
 go_enter Tryz.func117, Tryz.ntmps117
 go_wp2_with (go_at_call 114; with_reducible refine (kstep_nil v _).mono ?_; rintro e W2 ⟨rfl, hb⟩)
 go_ret
 exact ⟨rfl, hb⟩
theorem kdel_nil (n : Int) (w : World) : Calls Tryz.prog 46 #[.pointer none, .int .i64 n] w fun e w' => e = .returned (.int .i64 1) ∧ Below w.heap.size w w' := by
 go_enter Tryz.func46, Tryz.ntmps46
 go_wp2_with (go_at_call 114; with_reducible refine (kstep_nil _ _).mono ?_; rintro e W2 ⟨rfl, hb⟩)
 go_ret
 exact ⟨rfl, (((Below.refl _ w).alloc (Nat.le_refl _) _).alloc (by simp) _).trans (hb.mono (by simp; omega))⟩
theorem kwork_nil (n : Int) (w : World) : Calls Tryz.prog 47 #[.pointer none, .int .i64 n] w fun e w' => e = .returned (.int .i64 1) ∧ Below w.heap.size w w' := by
 go_enter Tryz.func47, Tryz.ntmps47
 go_wp2_with (go_at_call 114; with_reducible refine (kstep_nil _ _).mono ?_; rintro e W2 ⟨rfl, hb⟩)
 go_ret
 exact ⟨rfl, (((Below.refl _ w).alloc (Nat.le_refl _) _).alloc (by simp) _).trans (hb.mono (by simp; omega))⟩
theorem klazy_nil (b : Bool) (w : World) : Calls Tryz.prog 49 #[.pointer none, .bool b] w fun e w' => e = .returned (.int .i64 1) ∧ Below w.heap.size w w' := by
 go_enter Tryz.func49, Tryz.ntmps49
 go_wp2_with (go_at_call 114; with_reducible refine (kstep_nil _ _).mono ?_; rintro e W2 ⟨rfl, hb⟩)
 go_ret
 exact ⟨rfl, (((Below.refl _ w).alloc (Nat.le_refl _) _).alloc (by simp) _).trans (hb.mono (by simp; omega))⟩
theorem kevict_nil (n : Int) (w : World) : Calls Tryz.prog 48 #[.pointer none, .int .i64 n] w fun e w' => e = .returned (.int .i64 1) ∧ Below w.heap.size w w' := by
 go_enter Tryz.func48, Tryz.ntmps48
 go_wp2_with (go_at_call 138; with_reducible refine (kworks_nil _).mono ?_; rintro e W2 ⟨rfl, hb⟩)
 go_ret
 exact ⟨rfl, hb⟩
theorem kround_nil (w : World) : Calls Tryz.prog 39 #[.pointer none] w fun e w' => e = .returned (.tuple #[.int .i64 0, .int .i64 1]) ∧ Below w.heap.size w w' := by
 go_enter Tryz.func39, Tryz.ntmps39
 go_wp2_with (go_at_call 114; with_reducible refine (kstep_nil _ _).mono ?_; rintro e W2 ⟨rfl, hb⟩)
 go_ret2
 exact ⟨rfl, (((Below.refl _ w).alloc (Nat.le_refl _) _).alloc (by simp) _).trans (hb.mono (by simp; omega))⟩
theorem khist_nil (a b : Int) (w : World) : Calls Tryz.prog 40 #[.pointer none, .int .i64 a, .int .i64 b] w fun e w' => e = .returned (.tuple #[.slice none 0 0, .int .i64 1]) ∧ Below w.heap.size w w' := by
 go_enter Tryz.func40, Tryz.ntmps40
 go_wp2_with (go_at_call 117; with_reducible refine (klook_nil _ _).mono ?_; rintro e W2 ⟨rfl, hb⟩; have B := (Blk.new (((w.alloc _).alloc _).alloc _) _ _).below hb (by simp); have c := B.cell 0; simp at c)
 go_ret2
 exact ⟨rfl, (((((Below.refl _ w).alloc (Nat.le_refl _) _).alloc (by simp) _).alloc (by simp; omega) _).alloc (by simp; omega) _).trans (hb.mono (by simp; omega))⟩
theorem klen_nil (w : World) : Calls Tryz.prog 41 #[.pointer none] w fun e w' => e = .returned (.tuple #[.int .i64 0, .int .i64 1]) ∧ Below w.heap.size w w' := by
 go_enter Tryz.func41, Tryz.ntmps41
 go_wp2_with (go_at_call 117; with_reducible refine (klook_nil _ _).mono ?_; rintro e W2 ⟨rfl, hb⟩; have B := (Blk.new (w.alloc _) _ _).below hb (by simp); have c := B.cell 0; simp at c)
 go_ret2
 exact ⟨rfl, (((Below.refl _ w).alloc (Nat.le_refl _) _).alloc (by simp) _).trans (hb.mono (by simp; omega))⟩
theorem kleft_nil (w : World) : Calls Tryz.prog 42 #[.pointer none] w fun e w' => e = .returned (.tuple #[.int .i64 0, .slice none 0 0, .int .i64 1]) ∧ Below w.heap.size w w' := by
 go_enter Tryz.func42, Tryz.ntmps42
 go_wp2_with (go_at_call 117; with_reducible refine (klook_nil _ _).mono ?_; rintro e W2 ⟨rfl, hb⟩; have B := (Blk.new ((w.alloc _).alloc _) _ _).below hb (by simp); have c := B.cell 0; have B2 := ((Blk.new (w.alloc _) _ _).alloc _).below hb (by simp); have c2 := B2.cell 0; simp at c c2)
 go_quiet (fail)
 try go_wp2
 go_ret3
 have h0 := ((((Below.refl w.heap.size w).alloc (Nat.le_refl _) (.cells #[.pointer none] 98)).alloc (by simp) (.cells #[.slice none 0 0] 32)).alloc (by simp; omega) (.cells #[.int .i64 0] 3)).trans (hb.mono (by simp; omega))
 exact ⟨rfl, by first | exact h0 | exact below_drewN h0 _⟩
theorem kdone_nil (w : World) : Calls Tryz.prog 43 #[.pointer none] w fun e w' => e = .returned (.tuple #[.bool false, .int .i64 1]) ∧ Below w.heap.size w w' := by
 go_enter Tryz.func43, Tryz.ntmps43
 go_wp2_with (go_at_call 42; with_reducible refine (kleft_nil _).mono ?_; rintro e W2 ⟨rfl, hb⟩)
 go_ret2
 exact ⟨rfl, hb⟩
theorem kcreate_nil (x : MdV) (n : Int) (w : World) : Calls Tryz.prog 44 #[.pointer none, .agg (mdC x).toArray, .int .i64 n] w fun e w' => e = .returned (.tuple #[.pointer none, .int .i64 1]) ∧ Below w.heap.size w w' := by
 unfold mdC
 go_enter Tryz.func44, Tryz.ntmps44
 go_wp2
 go_ret2
 exact ⟨rfl, ((Below.refl _ w).alloc (Nat.le_refl _) _).alloc (by simp) _⟩
theorem kopen_nil (n : Int) (w : World) : Calls Tryz.prog 45 #[.pointer none, .int .i64 n] w fun e w' => e = .returned (.tuple #[.pointer none, .int .i64 1]) ∧ Below w.heap.size w w' := by
 go_enter Tryz.func45, Tryz.ntmps45
 go_wp2
 go_ret2
 exact ⟨rfl, (Below.refl _ w).alloc (Nat.le_refl _) _⟩
theorem kmodel_nil (w : World) : Calls Tryz.prog 51 #[.pointer none] w fun e w' => e = .returned (.agg #[.int .i64 0, .float .f64 0, .slice none 0 0, .slice none 0 0, .slice none 0 0, .slice none 0 0]) ∧ Below w.heap.size w w' := by
 go_enter Tryz.func51, Tryz.ntmps51
 go_wp2
 go_returns
 exact ⟨rfl, (Below.refl _ w).alloc (Nat.le_refl _) _⟩
theorem kpool_nil (w : World) : Calls Tryz.prog 52 #[.pointer none] w fun e w' => e = .returned (.pointer none) ∧ Below w.heap.size w w' := by
 go_enter Tryz.func52, Tryz.ntmps52
 go_wp2
 go_ret
 exact ⟨rfl, Below.refl _ w⟩
end
section
set_option maxRecDepth 1000000
noncomputable section
namespace Kv
def osk0 : AV := (.agg [(.int 3 0), (.fl 0), .nils, .nils, .nils, .nils])
def ose0 : Ent := ⟨50, [osk0, osk0], 4, .d, 0, (.bl true), 4, .d, 2⟩
theorem osb0 : segB Tryz.prog Sb [] ose0 = true := by decide +kernel
theorem oss0 : EntOK Tryz.prog ose0 := seg_ok P_mixed P_noNum Sb_ok EL.nil osb0
end Kv
end
end
section
open Go.RowKit Go.Lib
theorem awake30_any (w : World) : Calls Tryz.prog 38 #[] w fun e w' => e = .returned (.bool true) ∧ Below w.heap.size w w' :=
 Kv.plain_run Kv.oatop rfl rfl (by decide +kernel) (args' := []) (fun ρ => rfl) (by rfl) w
theorem vz_model (ρ : Kv.Ren) : Kv.VR ρ Kv.osk0 (.agg #[.int .i64 0, .float .f64 0, .slice none 0 0, .slice none 0 0, .slice none 0 0, .slice none 0 0]) :=
 ⟨_, rfl, ⟨_, _, rfl, ⟨rfl, by decide, by decide⟩, _, _, rfl, rfl, _, _, rfl, rfl, _, _, rfl, rfl, _, _, rfl, rfl, _, _, rfl, rfl, rfl⟩, by decide⟩
theorem ksame_nil (w : World) : Calls Tryz.prog 50 #[.agg #[.int .i64 0, .float .f64 0, .slice none 0 0, .slice none 0 0, .slice none 0 0, .slice none 0 0], .agg #[.int .i64 0, .float .f64 0, .slice none 0 0, .slice none 0 0, .slice none 0 0, .slice none 0 0]] w fun e w' => e = .returned (.bool true) ∧ Below w.heap.size w w' :=
 Kv.plain_run Kv.oss0 rfl rfl (by decide +kernel) (args' := [.agg #[.int .i64 0, .float .f64 0, .slice none 0 0, .slice none 0 0, .slice none 0 0, .slice none 0 0], .agg #[.int .i64 0, .float .f64 0, .slice none 0 0, .slice none 0 0, .slice none 0 0, .slice none 0 0]]) (fun ρ => ⟨_, _, rfl, vz_model ρ, _, _, rfl, vz_model ρ, rfl⟩) (by rfl) w
end
end Go.Proofs.YtfkoaooceickiaaGreat
