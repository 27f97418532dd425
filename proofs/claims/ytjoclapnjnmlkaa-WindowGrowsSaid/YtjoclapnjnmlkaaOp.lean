/- How the arguments of the laws are read: a history, a float, a count. -/
import Derived.Test.YtjoclapnjnmlkaaRows
import Derived.Test.YtjoclapnjnmlkaaLa
import Derived.Deep.Slices
import Derived.ProofKit
import Derived.SizedLaws
import Derived.Laws.Cover2
import Derived.Carry
set_option linter.unusedSimpArgs false
namespace Go.Proofs.Ytjoclapnjnmlkaa
open Go.ChangeShapes Go.WideShapes Go.ChangeAt Go.RowKit Go.Deep

theorem own : ownKnob Try.prog.godebug = none := by kernel_rfl
theorem laid : laidOutB Try.prog = true := by kernel_rfl

section
variable {H : Type} {enc : TypeId × Value → H} {P : Program} {w : World} {base : Nat} {spare : Nat → Bool} {held : Bool}

theorem mapM_some {α β : Type} (f : α → Option β) : ∀ (l : List α) (ys : List β), l.mapM f = some ys → ∀ a ∈ l, ∃ b, f a = some b := by
  intro l
  induction l with
  | nil => intro ys _ a ha; cases ha
  | cons x l ih =>
    intro ys h a ha
    rw [List.mapM_cons] at h
    cases hx : f x with
    | none => rw [hx] at h; cases h
    | some b =>
      cases hl : l.mapM f with
      | none => rw [hx, hl] at h; cases h
      | some bs =>
        cases ha with
        | head => exact ⟨b, hx⟩
        | tail _ ha => exact ih bs hl a ha

theorem trod_fields {t : TypeId} {fs : Array Field} {n : Nat} {cs : List Value} {x : DataW H × List MemPlace} (hu : P.underlying t = some (.struct fs)) (h : DataW.trod enc P w base spare held (n + 1) t cs = some x) :
    cs.length = P.cellsOf t ∧ ∀ f ∈ fs.toList, ∃ y, DataW.trod enc P w base spare held n f.type ((cs.drop f.offset).take (P.cellsOf f.type)) = some y := by
  simp only [DataW.trod, hu] at h
  split at h
  · rename_i hl
    refine ⟨hl, ?_⟩
    cases hm : fs.toList.mapM fun f => DataW.trod enc P w base spare held n f.type ((cs.drop f.offset).take (P.cellsOf f.type)) with
    | none => rw [hm] at h; cases h
    | some ys => exact mapM_some _ _ ys hm
  · cases h
theorem leaf_int {t : TypeId} {k : IntKind} {n : Nat} {c : Value} {x : DataW H × List MemPlace} (hu : P.underlying t = some (.int k)) (h : DataW.trod enc P w base spare held n t [c] = some x) : ∃ z, c = .int k z ∧ (Lit.int k z).wf = true := by
  cases n with
  | zero => cases h
  | succ n =>
    cases c <;> simp [DataW.trod, hu] at h
    rename_i k' z
    obtain ⟨⟨rfl, hw⟩, _⟩ := h
    exact ⟨z, rfl, hw⟩
theorem leaf_float {t : TypeId} {k : FloatKind} {n : Nat} {c : Value} {x : DataW H × List MemPlace} (hu : P.underlying t = some (.float k)) (h : DataW.trod enc P w base spare held n t [c] = some x) : ∃ z, c = .float k z ∧ (Lit.float k z).wf = true := by
  cases n with
  | zero => cases h
  | succ n =>
    cases c <;> simp [DataW.trod, hu] at h
    rename_i k' z
    obtain ⟨⟨rfl, hw⟩, _⟩ := h
    exact ⟨z, rfl, hw⟩
theorem wf_float {b : Nat} (h : (Lit.float .f64 b).wf = true) : b < 18446744073709551616 := by
  simpa [Lit.wf, FloatKind.has] using h
end

theorem cellsDone : Try.prog.cellsOf 46 = 6 := by kernel_rfl
theorem cellsEvent : Try.prog.cellsOf 44 = 5 := by kernel_rfl
theorem cellsStamp : Try.prog.cellsOf 42 = 3 := by kernel_rfl
theorem cellsInt : Try.prog.cellsOf 3 = 1 := by kernel_rfl
theorem cellsFloat : Try.prog.cellsOf 23 = 1 := by kernel_rfl

section
variable {H : Type} {enc : TypeId × Value → H} {w : World} {base : Nat} {spare : Nat → Bool} {held : Bool}

theorem open_done {fuel : Nat} {cs : List Value} {x : DataW H × List MemPlace} (h : DataW.trod enc Try.prog w base spare held fuel 46 cs = some x) :
    ∃ y : Done, cs = [.float .f64 y.t, .int .i64 y.a, .int .i64 y.b, .int .i64 y.c, .int .i64 y.d, .int .i64 y.f] ∧ y.t < 18446744073709551616 := by
  cases fuel with
  | zero => cases h
  | succ n =>
    obtain ⟨hl, hf⟩ := trod_fields Try.underlying46 h
    rw [cellsDone] at hl
    match cs, hl with
    | [c0, c1, c2, c3, c4, c5], _ =>
      simp [cellsEvent, cellsInt] at hf
      obtain ⟨⟨_, _, he⟩, ⟨_, _, h5⟩⟩ := hf
      obtain ⟨z5, rfl, _⟩ := leaf_int Try.underlying3 h5
      cases n with
      | zero => cases he
      | succ n =>
        obtain ⟨_, hf⟩ := trod_fields Try.underlying44 he
        simp [cellsStamp, cellsInt] at hf
        obtain ⟨⟨_, _, hs⟩, ⟨_, _, h3⟩, ⟨_, _, h4⟩⟩ := hf
        obtain ⟨z3, rfl, _⟩ := leaf_int Try.underlying3 h3
        obtain ⟨z4, rfl, _⟩ := leaf_int Try.underlying3 h4
        cases n with
        | zero => cases hs
        | succ n =>
          obtain ⟨_, hf⟩ := trod_fields Try.underlying42 hs
          simp [cellsFloat, cellsInt] at hf
          obtain ⟨⟨_, _, h0⟩, ⟨_, _, h1⟩, ⟨_, _, h2⟩⟩ := hf
          obtain ⟨z0, rfl, w0⟩ := leaf_float Try.underlying23 h0
          obtain ⟨z1, rfl, _⟩ := leaf_int Try.underlying3 h1
          obtain ⟨z2, rfl, _⟩ := leaf_int Try.underlying3 h2
          exact ⟨⟨z0, z1, z2, z3, z4, z5⟩, rfl, wf_float w0⟩

theorem open_hist {fuel : Nat} {v : Value} {x : DataW H × List MemPlace} (h : DataW.trod enc Try.prog w 0 spare held fuel 22 [v] = some x) :
    ∃ p ds cap, v = .slice p ds.length cap ∧ Arg w p ds cap := by
  rcases open_slice Try.underlying22 h with ⟨hcs, _⟩ | ⟨a, len, cap, m, n, D, Pl, hcs, _, hl, hm, hmm, _, hel⟩
  · simp at hcs
    subst hcs
    exact ⟨none, [], 0, rfl, .inl rfl, Nat.le_refl _, by omega, fun _ => rfl, by simp⟩
  · simp at hcs
    subst hcs
    have hlm : len ≤ m := by rw [hmm]; split <;> omega
    have h1 : ∀ i, ∃ y : Done, i < len → (y.t < 18446744073709551616 ∧ ∃ cs', w.cells? 0 (a.add (i * 6)) 6 = some cs' ∧ cs' = [.float .f64 y.t, .int .i64 y.a, .int .i64 y.b, .int .i64 y.c, .int .i64 y.d, .int .i64 y.f]) := by
      intro i
      by_cases hi : i < len
      · obtain ⟨cs', h1, h2⟩ := hel i (by omega)
        rw [cellsDone] at h1
        obtain ⟨y, hy, hy6⟩ := open_done h2
        exact ⟨y, fun _ => ⟨hy6, cs', h1, hy⟩⟩
      · exact ⟨z0, fun h => absurd h hi⟩
    obtain ⟨F, hF⟩ := Classical.axiomOfChoice h1
    refine ⟨some a, (List.range len).map F, cap, by simp, ?_⟩
    have hg : ∀ i, i < len → ((List.range len).map F).getD i z0 = F i := fun i hi => by simp [List.getD, hi]
    refine ⟨?_, by simpa using hl, by unfold maxLen at hm; exact hm, (fun h => by cases h), ?_⟩
    · by_cases h0 : len = 0
      · left; simp [h0]
      · right
        obtain ⟨b, off, spot⟩ := a
        have hcell : ∀ i j, i < len → j < 6 → w.cell? ((⟨b, off, spot⟩ : Addr).add (i * 6 + j)) = ([.float .f64 (F i).t, .int .i64 (F i).a, .int .i64 (F i).b, .int .i64 (F i).c, .int .i64 (F i).d, .int .i64 (F i).f] : List Value)[j]? := by
          intro i j hi hj
          obtain ⟨_, cs', h1, h2⟩ := hF i hi
          rw [h2] at h1
          have h3 := World.cells?_some h1
          rw [← add_add]
          exact h3.2.2 j hj
        have hspot : spot = none := by
          have := hcell 0 0 (by omega) (by omega)
          simpa [Addr.add] using World.cell?_spot this
        subst hspot
        have hcell' : ∀ i j, i < len → j < 6 → w.cell? ⟨b, off + i * 6 + j, none⟩ = ([.float .f64 (F i).t, .int .i64 (F i).a, .int .i64 (F i).b, .int .i64 (F i).c, .int .i64 (F i).d, .int .i64 (F i).f] : List Value)[j]? := by
          intro i j hi hj
          have := hcell i j hi hj
          rw [add_plain] at this
          rw [← this]
          congr 2
          omega
        refine ⟨b, off, rfl, ?_, fun i hi => ?_⟩
        · have := hcell' 0 0 (by omega) (by omega)
          exact World.block_lt_of_cell? w _ this
        · have hi' : i < len := by simpa using hi
          rw [hg i hi']
          exact ⟨hcell' i 0 hi' (by omega), hcell' i 1 hi' (by omega), hcell' i 2 hi' (by omega), hcell' i 3 hi' (by omega), hcell' i 4 hi' (by omega), hcell' i 5 hi' (by omega)⟩
    · intro y hy
      rw [List.mem_map] at hy
      obtain ⟨i, hi, rfl⟩ := hy
      exact (hF i (by simpa using hi)).1

theorem trodAll_below {P : Program} {W W' : World} (hl : laidOutB P = true) (hb : Below W.heap.size W W') : ∀ {ts : List TypeId} {vs : List Value} {ds : List (DataW H)} {ps : List MemPlace},
    DataW.TrodAll enc P W 0 (fun _ => true) true ts vs ds ps → (∀ t ∈ ts, P.readableRec t = true ∧ t < P.types.size) →
    DataW.TrodAll enc P W' 0 (fun b => decide (b < W.heap.size)) true ts vs ds ps
  | [], [], [], _, h, _ => h
  | t :: ts, v :: vs, d :: ds, _, h, ht => by
    obtain ⟨p, q, h1, h2, rfl⟩ := h
    obtain ⟨a, b⟩ := ht t (by simp)
    refine ⟨p, q, Below.trod hl a b h1 hb ?_, trodAll_below hl hb h2 (fun t ht' => ht t (by simp [ht'])), rfl⟩
    obtain ⟨fuel, hf⟩ := h1
    exact DataW.trod_lt _ _ _ _ hf
  | [], [], _ :: _, _, h, _ => h.elim
  | [], _ :: _, _, _, h, _ => h.elim
  | _ :: _, [], _, _, h, _ => h.elim
  | _ :: _, _ :: _, [], _, h, _ => h.elim
end
end Go.Proofs.Ytjoclapnjnmlkaa
