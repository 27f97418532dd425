/- Parts of the proof: Sdg. -/
import Derived.Test.YtcdiljebkpikbaaGreatS35
set_option linter.all false
set_option maxRecDepth 100000
set_option maxHeartbeats 64000000
namespace Go.Proofs.YtcdiljebkpikbaaGreat
section
open Go.RowKit Go.Lib
theorem ajP (k:Nat) (hk:k<10) (W:World):Calls Tryz.prog 49 #[.int .i64 k] W fun e w'=>e= .returned (.string (S (kw k)))∧Below W.heap.size W w':=by
 have hcs:k=0∨k=1∨k=2∨k=3∨k=4∨k=5∨k=6∨k=7∨k=8∨k=9:=by omega
 rcases hcs with rfl|rfl|rfl|rfl|rfl|rfl|rfl|rfl|rfl|rfl
 all_goals
  go_enter Tryz.func49,Tryz.ntmps49
  go_wp2
  go_ret
  exact⟨rfl,(Below.refl _ _).alloc (Nat.le_refl _) _⟩
theorem aaG (k:Nat) (hk:k<10) (W:World):Calls Tryz.prog 55 #[.int .i64 k] W fun e w'=>e= .returned (.string (S (kw k)))∧Below W.heap.size W w':=by
 have hcs:k=0∨k=1∨k=2∨k=3∨k=4∨k=5∨k=6∨k=7∨k=8∨k=9:=by omega
 rcases hcs with rfl|rfl|rfl|rfl|rfl|rfl|rfl|rfl|rfl|rfl
 all_goals
  go_enter Tryz.func55,Tryz.ntmps55
  go_wp2
  go_ret
  exact⟨rfl,(Below.refl _ _).alloc (Nat.le_refl _) _⟩
end
end Go.Proofs.YtcdiljebkpikbaaGreat
