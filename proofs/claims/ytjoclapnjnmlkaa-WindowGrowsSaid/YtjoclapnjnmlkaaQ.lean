/- A region that draws its order and whose operations only compute and read (they may draw, and what they draw may be their value): one walk of the order of the text serves every order. -/
import Derived.Deep.Quiet
import Derived.Deep.QuietTactic
import Derived.Tactics2
import Derived.KernelRfl
set_option linter.unusedSimpArgs false
namespace Go.Proofs.Ytjoclapnjnmlkaa
section
variable {P : Program} {ops : Array Oper} {C : World → Prop}

/-- the run ends well, in a world of the class, with one of the values -/
def vUpon (C : World → Prop) (V : Value → Prop) : Result Next → Prop
  | .ok (.value u) w' => C w' ∧ V u
  | .ok .skip w' => C w' ∧ V undef
  | _ => False
def vAt (P : Program) (o : Oper) (a : Act) (C : World → Prop) (V : Value → Prop) : Prop := ∀ w, C w → vUpon C V ((execOp a.eval o).run P w)
def vOne (P : Program) (o : Oper) (a : Act) (C : World → Prop) (next : Act → Prop) : Prop := ∃ V, vAt P o a C V ∧ ∀ v, V v → next (a.put o.dst v)
def wpV (P : Program) (ops : Array Oper) (C : World → Prop) (Q : Act → Prop) : List Oper → Act → Prop
  | [], a => Q a
  | o :: rest, a => if Region.wanted o (yielded ops a.tmps) then vOne P o a C (wpV P ops C Q rest) else wpV P ops C Q rest (a.put o.dst undef)
theorem wpV_cons {Q : Act → Prop} {a : Act} {o : Oper} {rest : List Oper} : wpV P ops C Q (o :: rest) a = (if Region.wanted o (yielded ops a.tmps) then vOne P o a C (wpV P ops C Q rest) else wpV P ops C Q rest (a.put o.dst undef)) := rfl
theorem wpV_nil {Q : Act → Prop} {a : Act} (h : Q a) : wpV P ops C Q [] a := h
theorem wpV_step {Q : Act → Prop} {a : Act} {o : Oper} {rest : List Oper}
    (h : ∀ K : Act → Prop, (∀ a, wpV P ops C Q rest a → K a) → if Region.wanted o (yielded ops a.tmps) then vOne P o a C K else K (a.put o.dst undef)) : wpV P ops C Q (o :: rest) a :=
  h _ (fun _ h => h)

def vOp (P : Program) (ops : Array Oper) (C : World → Prop) (i : Nat) (K : Act → Prop) (a : Act) : Prop :=
  match ops[i]? with
  | none => K a
  | some o => if Region.wanted o (yielded ops a.tmps) then vOne P o a C K else K (a.put o.dst undef)

theorem vOne_mono {o : Oper} {a : Act} {K K' : Act → Prop} (h : ∀ a, K a → K' a) (hh : vOne P o a C K) : vOne P o a C K' := by
  obtain ⟨V, h1, h2⟩ := hh
  exact ⟨V, h1, fun v hv => h _ (h2 v hv)⟩
theorem vOp_mono {i : Nat} {a : Act} {K K' : Act → Prop} (h : ∀ a, K a → K' a) (hh : vOp P ops C i K a) : vOp P ops C i K' a := by
  unfold vOp at *
  cases ho : ops[i]? with
  | none => simp only [ho] at hh ⊢; exact h _ hh
  | some o =>
    simp only [ho] at hh ⊢
    by_cases hw : Region.wanted o (yielded ops a.tmps) = true
    · rw [if_pos hw] at hh ⊢; exact vOne_mono h hh
    · rw [if_neg hw] at hh ⊢; exact h _ hh

def wpAnyV (P : Program) (ops : Array Oper) (C : World → Prop) (Q : Act → Prop) : Nat → Array Bool → Act → Prop
  | 0, listed, a => Region.ready .any ops listed = [] ∧ Q a
  | n + 1, listed, a => (Region.ready .any ops listed = [] → Q a) ∧ ∀ i ∈ Region.ready .any ops listed, vOp P ops C i (wpAnyV P ops C Q n (listed.setIfInBounds i true)) a

theorem wp_of_vOne {o : Oper} {a : Act} {K : Act → Prop} {K' : Act → World → Prop} {Q' : Exit → Act → World → Prop} {w : World} (hw : C w) (h : ∀ a w', C w' → K a → K' a w') (hh : vOne P o a C K) : o.wp P a w K' Q' := by
  obtain ⟨V, h1, h2⟩ := hh
  have h3 := h1 w hw
  unfold Oper.wp
  cases hr : (execOp a.eval o).run P w with
  | halt x w' => rw [hr] at h3; exact h3.elim
  | ok n w' =>
    rw [hr] at h3
    cases n with
    | value u => exact h _ _ h3.1 (h2 _ h3.2)
    | skip => exact h _ _ h3.1 (h2 _ h3.2)
    | _ => exact h3.elim
theorem wpOp_of_vOp {i : Nat} {a : Act} {K : Act → Prop} {K' : Act → World → Prop} {Q' : Exit → Act → World → Prop} {w : World} (hC : C w) (h : ∀ a w', C w' → K a → K' a w') (hh : vOp P ops C i K a) : wpOp P ops Q' i K' a w := by
  unfold vOp at hh
  unfold wpOp
  cases ho : ops[i]? with
  | none => simp only [ho] at hh ⊢; exact h _ _ hC hh
  | some o =>
    simp only [ho] at hh ⊢
    by_cases hw : Region.wanted o (yielded ops a.tmps) = true
    · rw [if_pos hw] at hh ⊢; exact .inl (wp_of_vOne hC h hh)
    · rw [if_neg hw] at hh ⊢; exact h _ _ hC hh
theorem wpAny_of_v {Q : Act → Prop} {Q' : Exit → Act → World → Prop} (hQ : ∀ a w, C w → Q a → Q' .normal a w) : ∀ (n : Nat) (listed : Array Bool) (a : Act) (w : World), C w → wpAnyV P ops C Q n listed a → wpAny P .any ops Q' n listed a w
  | 0, _, _, _, hw, h => ⟨h.1, hQ _ _ hw h.2⟩
  | n + 1, _, _, _, hw, h => ⟨fun h0 => hQ _ _ hw (h.1 h0), fun i hi => wpOp_of_vOp hw (fun a' w' hw' => wpAny_of_v hQ n _ a' w' hw') (h.2 i hi)⟩

/-- what one operation may leave in its temporary, whatever the world of the class -/
def VYields (P : Program) (ops : Array Oper) (C : World → Prop) (o : Oper) (V : Value → Prop) (a : Act) : Prop :=
  (Region.wanted o (yielded ops a.tmps) = true ∧ vAt P o a C V) ∨ (Region.wanted o (yielded ops a.tmps) = false ∧ V undef)

theorem VYields.vOp {i : Nat} {o : Oper} {V : Value → Prop} {a : Act} (hi : ops[i]? = some o) (hy : VYields P ops C o V a) {K : Act → Prop} (h : ∀ v, V v → K (a.put o.dst v)) : vOp P ops C i K a := by
  unfold Go.Proofs.Ytjoclapnjnmlkaa.vOp
  simp only [hi]
  rcases hy with ⟨hw, hv⟩ | ⟨hw, hv⟩
  · rw [if_pos hw]; exact ⟨V, hv, h⟩
  · rw [if_neg (by simp [hw])]; exact h _ hv
theorem VYields.same {o : Oper} {V : Value → Prop} {a a' : Act} (hy : VYields P ops C o V a) (he : execOp a'.eval o = execOp a.eval o)
    (hw : Region.wanted o (yielded ops a'.tmps) = Region.wanted o (yielded ops a.tmps)) : VYields P ops C o V a' := by
  unfold VYields vAt at *
  rw [he, hw]
  exact hy
theorem vyields_of_vOp {i : Nat} {o : Oper} {a : Act} {K : Act → Prop} (hi : ops[i]? = some o) (h : vOp P ops C i K a) : ∃ V, VYields P ops C o V a ∧ ∀ v, V v → K (a.put o.dst v) := by
  unfold vOp at h
  simp only [hi] at h
  by_cases hw : Region.wanted o (yielded ops a.tmps) = true
  · rw [if_pos hw] at h
    obtain ⟨V, h1, h2⟩ := h
    exact ⟨V, .inl ⟨hw, h1⟩, h2⟩
  · rw [if_neg hw] at h
    exact ⟨fun v => v = undef, .inr ⟨by simpa using hw, rfl⟩, fun v hv => by rw [hv]; exact h⟩

theorem VYields.some {o : Oper} {V : Value → Prop} {a : Act} (hy : VYields P ops C o V a) (hC : ∃ w, C w) : ∃ v, V v := by
  rcases hy with ⟨_, hv⟩ | ⟨_, hv⟩
  · obtain ⟨w, hw⟩ := hC
    have := hv w hw
    unfold vUpon at this
    split at this
    · exact ⟨_, this.2⟩
    · exact ⟨_, this.2⟩
    · exact this.elim
  · exact ⟨_, hv⟩

/-- an operation that stands apart from another one that may be done ahead of it -/
theorem vOp_apart {j : Nat} {oi oj : Oper} {V : Value → Prop} (hC : ∃ w, C w) (hj : ops[j]? = some oj) (hap : oi.apart ops oj = true)
    (hsi : ∀ cs b, oi.op ≠ .select cs b) (hsj : ∀ cs b, oj.op ≠ .select cs b) {K : Act → Prop} {a : Act}
    (hy : VYields P ops C oi V a) (h : ∀ v, V v → vOp P ops C j K (a.put oi.dst v)) :
    vOp P ops C j (fun a' => VYields P ops C oi V a' ∧ ∀ v, V v → K (a'.put oi.dst v)) a := by
  obtain ⟨h1, h2, h3⟩ := Oper.apart_spec hap
  have keep : ∀ u, VYields P ops C oi V (a.put oj.dst u) := fun u => hy.same (execOp_put oi hsi a oj.dst u h3) (wanted_put oi a oj.dst u h3)
  have hw' : ∀ v, Region.wanted oj (yielded ops (a.put oi.dst v).tmps) = Region.wanted oj (yielded ops a.tmps) := fun v => wanted_put oj a oi.dst v h1
  have he' : ∀ v, execOp (a.put oi.dst v).eval oj = execOp a.eval oj := fun v => execOp_put oj hsj a oi.dst v h1
  obtain ⟨v0, hv0⟩ := hy.some hC
  by_cases hw : Region.wanted oj (yielded ops a.tmps) = true
  · have hx : ∀ v, V v → vOne P oj (a.put oi.dst v) C K := fun v hv => by
      have := h v hv
      unfold vOp at this
      simp only [hj] at this
      rwa [if_pos (by rw [hw']; exact hw)] at this
    unfold vOp
    simp only [hj]
    rw [if_pos hw]
    refine ⟨fun u => ∀ v, V v → K ((a.put oj.dst u).put oi.dst v), fun w hCw => ?_, fun u hu => ⟨keep u, hu⟩⟩
    have one : ∀ v, V v → ∃ Vj : Value → Prop, vUpon C Vj ((execOp a.eval oj).run P w) ∧ ∀ u, Vj u → K ((a.put oj.dst u).put oi.dst v) := fun v hv => by
      obtain ⟨Vj, g1, g2⟩ := hx v hv
      have g3 := g1 w hCw
      rw [he' v] at g3
      exact ⟨Vj, g3, fun u hu => by rw [← Act.put_comm a v u h2]; exact g2 u hu⟩
    generalize (execOp a.eval oj).run P w = r at one
    obtain ⟨V0, g0, _⟩ := one v0 hv0
    unfold vUpon at g0 ⊢
    split at g0
    · exact ⟨g0.1, fun v hv => by obtain ⟨Vj, g1, g2⟩ := one v hv; exact g2 _ g1.2⟩
    · exact ⟨g0.1, fun v hv => by obtain ⟨Vj, g1, g2⟩ := one v hv; exact g2 _ g1.2⟩
    · exact g0.elim
  · have hx : ∀ v, V v → K ((a.put oi.dst v).put oj.dst undef) := fun v hv => by
      have := h v hv
      unfold vOp at this
      simp only [hj] at this
      rwa [if_neg (by rw [hw']; exact hw)] at this
    unfold vOp
    simp only [hj]
    rw [if_neg hw]
    exact ⟨keep _, fun v hv => by rw [← Act.put_comm a v undef h2]; exact hx v hv⟩

theorem wpAnyV_ahead {Q : Act → Prop} {i : Nat} {oi : Oper} {V : Value → Prop} (hC : ∃ w, C w) (hi : ops[i]? = some oi) (hsel : ∀ (j : Nat) (o : Oper) cs b, ops[j]? = some o → o.op ≠ .select cs b) (n : Nat) :
    ∀ (listed : Array Bool) (a : Act),
      (∀ j oj, ops[j]? = some oj → j ≠ i → listed.getD j true = false → (∀ e ∈ oj.after, Region.binds .any e = true → e.on ≠ i) → oi.apart ops oj = true) →
      i ∈ Region.ready .any ops listed → VYields P ops C oi V a →
      (∀ v, V v → wpAnyV P ops C Q n (listed.setIfInBounds i true) (a.put oi.dst v)) → wpAnyV P ops C Q (n + 1) listed a := by
  induction n with
  | zero =>
    intro listed a _ hr hy H
    obtain ⟨v0, hv0⟩ := hy.some hC
    refine ⟨fun h => (by rw [h] at hr; cases hr), fun j hj => ?_⟩
    by_cases hji : j = i
    · subst hji; exact hy.vOp hi H
    · have := ready_mono hj hji
      rw [(H v0 hv0).1] at this
      cases this
  | succ n ih =>
    intro listed a hfree hr hy H
    refine ⟨fun h => (by rw [h] at hr; cases hr), fun j hj => ?_⟩
    by_cases hji : j = i
    · subst hji; exact hy.vOp hi H
    · obtain ⟨hjun, oj, hoj, hall⟩ := mem_ready.1 hj
      have hno : ∀ e ∈ oj.after, Region.binds .any e = true → e.on ≠ i := fun e he hb heq => by
        have g1 := hall e he hb
        have g0 := (mem_ready.1 hr).1
        rw [heq] at g1
        rcases Nat.lt_or_ge i listed.size with h' | h'
        · simp [h'] at g0 g1; rw [g0] at g1; cases g1
        · simp [Array.getElem?_eq_none h'] at g1
      have h2 := vOp_apart hC hoj (hfree j oj hoj hji hjun hno) (fun cs b => hsel i oi cs b hi) (fun cs b => hsel j oj cs b hoj) hy (fun v hv => (H v hv).2 j (ready_mono hj hji))
      refine vOp_mono (fun a' h3 => ih (listed.setIfInBounds j true) a' (fun k ok hk hki hun hn => hfree k ok hk hki ?_ hn) (ready_mono hr (Ne.symm hji)) h3.1 fun v hv => ?_) h2
      · by_cases hjk : j = k
        · subst hjk; exact hjun
        · rw [getD_set_ne true hjk] at hun; exact hun
      · rw [Array.setIfInBounds_comm _ _ hji]
        exact h3.2 v hv

theorem wpAnyV_lex {Q : Act → Prop} (hC : ∃ w, C w) (hs : Region.noSelect ops = true) : ∀ (l : List Oper) (k : Nat) (listed : Array Bool) (a : Act), (∀ j, l[j]? = ops[k + j]?) →
    Region.lexFrom .any ops l.length k listed = true → wpV P ops C Q l a → wpAnyV P ops C Q l.length listed a
  | [], _, _, _, _, hB, h => ⟨by simpa [Region.lexFrom] using hB, h⟩
  | o :: l, k, listed, a, hl, hB, h => by
    have h0 : ops[k]? = some o := by simpa using (hl 0).symm
    simp only [List.length_cons, Region.lexFrom, Bool.and_eq_true] at hB
    obtain ⟨⟨hr, hf⟩, hB'⟩ := hB
    have hst : vOp P ops C k (wpV P ops C Q l) a := by unfold vOp; simp only [h0]; exact h
    obtain ⟨V, hy, hK⟩ := vyields_of_vOp h0 hst
    exact wpAnyV_ahead hC h0 (Region.noSelect_spec hs) l.length listed a (Region.free_spec h0 hf) (by simpa using hr) hy
      fun v hv => wpAnyV_lex hC hs l (k + 1) _ _ (fun j => by have := hl (j + 1); simpa [Nat.add_assoc, Nat.add_comm 1 j] using this) hB' (hK v hv)

/-- the worlds that are this one after some draws -/
def Dr (w : World) (w' : World) : Prop := ∃ n, w' = w.drewN n
/-- the law, at the class of worlds that are this one after some draws -/
theorem wp_region_v {id : Nat} {Q : Exit → Act → World → Prop} {a : Act} {w : World} {l : List Oper} (hm : P.follows .mixedOrders = true) (hB : Region.lexB .any l.toArray = true)
    (h : wpV P l.toArray (Dr w) (fun a' => ∀ n, Q .normal a' (w.drewN n)) l a) : (Code.region id l.toArray true).wp P Q a w := by
  simp only [Region.lexB, Bool.and_eq_true] at hB
  refine wp_region_any hm (wpAny_of_v (C := Dr w) (Q := fun a' => ∀ n, Q .normal a' (w.drewN n)) (fun _ w' hw' h => by obtain ⟨n, rfl⟩ := hw'; exact h n) _ _ _ _ ⟨1, rfl⟩ ?_)
  have := wpAnyV_lex (C := Dr w) (Q := fun a' => ∀ n, Q .normal a' (w.drewN n)) ⟨_, 1, rfl⟩ hB.1 l 0 (Array.replicate l.toArray.size false) a (by simp) (by simpa using hB.2) h
  simpa using this
end
attribute [irreducible] wpV
end Go.Proofs.Ytjoclapnjnmlkaa
