/- Parts of the proof: Kgw Ok. -/
import Derived.Test.YtfkoaooceickiaaGreatRows
import Derived.Deep.Slices
import Derived.ProofKit
import Derived.SizedLaws
import Derived.Laws.Cover2
import Derived.Carry
import Derived.Test.YtfkoaooceickiaaGreatG14
import Derived.Test.YtfkoaooceickiaaGreatG15
set_option linter.all false
set_option maxRecDepth 100000
namespace Go.Proofs.YtfkoaooceickiaaGreat
section
set_option autoImplicit false
open Go.RowKit Go.Lib
theorem run_closed {e : Kv.Ent} (he : Kv.EntOK Tryz.prog e) (hp : e.p = .d) (hn : e.n = 0) (hb : (match Tryz.prog.funcs[e.f]? with | some fn => fn.body.isSome | none => false) = true) {args' : List Value} (hv : ∀ ρ, Kv.VRs ρ e.a args') (W : World) :
  Calls Tryz.prog e.f args'.toArray W fun r W' => (∃ ρ' v', r = .returned v' ∧ Kv.VR ρ' e.v v') ∧ Below W.heap.size W W' := by
 obtain ⟨fn, c, e1, e2, e3⟩ := Kv.has_body e.f hb
 have hh : e.h = Kv.litH e.d .d 0 := by unfold Kv.Ent.h; rw [hp, hn]
 have hr : Kv.HR (fun _ => none) e.h W := by
  rw [hh]
  exact Kv.hr_none rfl (Kv.wf_d _ _ (Nat.zero_le _)) (fun i => Kv.get_d _ _ i)
 refine (Kv.ent_calls he e1 e2 e3 (hv _) hr).mono fun r W' h => ?_
 obtain ⟨ρ', v', rfl, x, k⟩ := h
 exact ⟨⟨ρ', v', rfl, k⟩, x.below fun i b κ q => by cases q⟩
theorem gvtnone_any (b : Bool) (W : World) : Calls Tryz.prog 5 #[.bool b] W fun e W' => e = .returned (.bool true) ∧ Below W.heap.size W W' := by
 cases b with
 | true =>
  refine (run_closed Kv.gttop rfl rfl (by decide +kernel) (args' := [.bool true]) (fun ρ => ⟨_, _, rfl, rfl, rfl⟩) W).mono fun r W' h => ?_
  obtain ⟨⟨ρ', v', rfl, k⟩, hb⟩ := h
  have k : v' = .bool true := k
  exact ⟨by rw [k], hb⟩
 | false =>
  refine (run_closed Kv.gftop rfl rfl (by decide +kernel) (args' := [.bool false]) (fun ρ => ⟨_, _, rfl, rfl, rfl⟩) W).mono fun r W' h => ?_
  obtain ⟨⟨ρ', v', rfl, k⟩, hb⟩ := h
  have k : v' = .bool true := k
  exact ⟨by rw [k], hb⟩
end
section
open Go.ChangeShapes Go.WideShapes Go.ChangeAt Go.RowKit Go.Deep
theorem own : ownKnob Tryz.prog.godebug = none := by kernel_rfl
theorem laid : laidOutB Tryz.prog = true := by kernel_rfl
section
variable {H : Type} {enc : TypeId × Value → H}
theorem trodAll_below {P : Program} {W W' : World} (hl : laidOutB P = true) (hb : Below W.heap.size W W') : ∀ {ts : List TypeId} {vs : List Value} {ds : List (DataW H)} {ps : List MemPlace},
  DataW.TrodAll enc P W 0 (fun _ => true) true ts vs ds ps → (∀ t ∈ ts, P.readableRec t = true ∧ t < P.types.size) →
  DataW.TrodAll enc P W' 0 (fun b => decide (b < W.heap.size)) true ts vs ds ps
 | [], [], [], _, h, _ => h
 | t :: ts, v :: vs, d :: ds, _, h, ht => by
  obtain ⟨p, q, h1, h2, rfl⟩ := h
  obtain ⟨a, b⟩ := ht t (by simp)
  refine ⟨p, q, Below.trod hl a b h1 hb ?_, trodAll_below hl hb h2 (fun t ht' => ht t (by simp [ht'])), rfl⟩
  obtain ⟨fuel, hf⟩ := h1
  exact DataW.trod_lt _ _ _ _ hf
 | [], [], _ :: _, _, h, _ => h.elim
 | [], _ :: _, _, _, h, _ => h.elim
 | _ :: _, [], _, _, h, _ => h.elim
 | _ :: _, _ :: _, [], _, h, _ => h.elim
end
end
end Go.Proofs.YtfkoaooceickiaaGreat
