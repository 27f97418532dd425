/- Parts of the proof: Gr. -/
import Derived.Test.YtnnghcooidjlhaaGreatE28
set_option linter.all false
set_option maxRecDepth 100000
namespace Go.Proofs.YtnnghcooidjlhaaGreat
section
def lexQ (md : Region.Mode) (ops : Array Oper) : List Oper → Nat → Bool
 | [], _ => true
 | o :: rest, k => (o.after.toList.all fun e => !Region.binds md e || Nat.blt e.on k) && (rest.all fun oj => oj.after.toList.any (fun e => Region.binds md e && e.on == k) || o.apart ops oj) && lexQ md ops rest (k + 1)
theorem lexFrom_of {md : Region.Mode} {ops : Array Oper} : ∀ (l : List Oper) (k : Nat) (listed : Array Bool), (∀ j, l[j]? = ops[k + j]?) → ops.size = k + l.length → listed.size = ops.size → (∀ j, j < ops.size → listed[j]? = some (decide (j < k))) → lexQ md ops l k = true → Region.lexFrom md ops l.length k listed = true
 | [], k, listed, _, hs, hz, hl, _ => by
  rw [List.length_nil] at hs ⊢
  unfold Region.lexFrom
  rw [List.isEmpty_iff, List.eq_nil_iff_forall_not_mem]
  intro i hi
  obtain ⟨h1, oj, h2, _⟩ := mem_ready.1 hi
  have hlt : i < ops.size := (Array.getElem?_eq_some_iff.1 h2).1
  have h3 := hl i hlt
  rw [show decide (i < k) = true by simp; omega] at h3
  simp [h3] at h1
 | o :: rest, k, listed, hg, hs, hz, hl, h => by
  simp only [lexQ, Bool.and_eq_true] at h
  obtain ⟨⟨h1, h2⟩, h3⟩ := h
  rw [List.length_cons] at hs ⊢
  have h0 : ops[k]? = some o := by simpa using (hg 0).symm
  have hk : k < ops.size := by omega
  have hlk := hl k hk
  unfold Region.lexFrom
  rw [Bool.and_eq_true, Bool.and_eq_true]
  refine ⟨⟨?_, ?_⟩, ?_⟩
  ·rw [List.contains_iff_mem]
   refine mem_ready.2 ⟨by simp [hlk], o, h0, fun e he hb => ?_⟩
   have h4 := List.all_eq_true.1 h1 e (by simpa using he)
   rw [hb] at h4
   have h5 : e.on < k := by simpa [Nat.blt_eq] using h4
   have h6 := hl e.on (by omega)
   rw [show decide (e.on < k) = true by simp [h5]] at h6
   simp [h6]
  ·unfold Region.free
   rw [h0]
   simp only [List.all_eq_true, List.mem_range]
   intro j hj
   by_cases hjk : j < k
   ·have h6 := hl j hj
    rw [show decide (j < k) = true by simp [hjk]] at h6
    simp [h6]
   ·by_cases hje : j = k
    ·subst hje; simp
    ·have hr : rest[j - k - 1]? = ops[j]? := by
      have := hg (j - k)
      rw [show k + (j - k) = j by omega, show j - k = (j - k - 1) + 1 by omega, List.getElem?_cons_succ] at this
      simpa using this
     obtain ⟨oj, hoj⟩ : ∃ oj, ops[j]? = some oj := ⟨_, Array.getElem?_eq_getElem hj⟩
     rw [hoj] at hr
     have h4 := List.all_eq_true.1 h2 oj (List.mem_of_getElem? hr)
     rw [hoj]
     simp only [Bool.or_eq_true]
     rw [Bool.or_eq_true] at h4
     rcases h4 with h4 | h4
     ·obtain ⟨e, he, hb⟩ := List.any_eq_true.1 h4
      exact .inr (.inl (Array.any_eq_true'.2 ⟨e, by simpa using he, hb⟩))
     ·exact .inr (.inr h4)
  ·refine lexFrom_of rest (k + 1) (listed.setIfInBounds k true) (fun j => ?_) (by omega) (by simpa using hz) (fun j hj => ?_) h3
   ·have := hg (j + 1)
    rw [List.getElem?_cons_succ] at this
    rw [this]
    congr 1; omega
   ·by_cases hjk : j = k
    ·subst hjk
     rw [Array.getElem?_setIfInBounds_self_of_lt (by omega)]
     simp
    ·rw [Array.getElem?_setIfInBounds_ne (Ne.symm hjk), hl j hj]
     congr 1
     simp only [decide_eq_decide]
     omega
theorem lexB_of {md : Region.Mode} {l : List Oper} (h : (Region.noSelect l.toArray && lexQ md l.toArray l 0) = true) : Region.lexB md l.toArray = true := by
 rw [Bool.and_eq_true] at h
 unfold Region.lexB
 rw [Bool.and_eq_true]
 refine ⟨h.1, ?_⟩
 have := lexFrom_of (md := md) (ops := l.toArray) l 0 (Array.replicate l.toArray.size false) (fun j => by simp) (by simp) (by simp) (fun j hj => by simp at hj; simp [hj]) h.2
 simpa using this
end
end Go.Proofs.YtnnghcooidjlhaaGreat
