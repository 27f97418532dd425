/- Parts of the proof: Mf24o Ox. -/
import Derived.SizedLaws
import Derived.Test.YtnnghcooidjlhaaGreatE27
import Derived.Test.YtnnghcooidjlhaaGreatE34
set_option linter.all false
set_option maxRecDepth 100000
namespace Go.Proofs.YtnnghcooidjlhaaGreat
section
open Go.ChangeShapes Go.WideShapes Go.ChangeAt Go.RowKit Go.Deep
set_option maxHeartbeats 8000000 in
set_option maxRecDepth 100000 in
theorem outboxOrder_facts : joinedFacts Tryz.checked.prog 8 Tryz.f8 Rows.outboxOrderSpec Rows.outboxOrderRow = true := by
 unfold joinedFacts
 repeat' (rw [Bool.and_eq_true]; refine ⟨?_, ?_⟩)
 all_goals (as_aux_lemma => kernel_rfl)
end
section
open Go.ChangeShapes Go.WideShapes Go.ChangeAt Go.RowKit Go.Deep
section
variable {H : Type} {enc : TypeId × Value → H} {w : World} {spare : Nat → Bool} {held : Bool}
theorem open_rows_w {α : Type} (d0 : α) {k : Nat} {encA : α → List Value} {R : α → Prop} {t e : TypeId} (ht : Tryz.prog.underlying t = some (.slice e)) (hc : Tryz.prog.cellsOf e = k) (hk0 : 0 < k) (hk : ∀ x, (encA x).length = k)
  (Wt : DataW H → Prop) (ho : ∀ (fuel : Nat) (cs : List Value) (x : DataW H × List MemPlace), DataW.trod enc Tryz.prog w 0 spare held fuel e cs = some x → Wt x.1 → ∃ y, cs = encA y ∧ R y) {fuel : Nat} {v : Value} {x : DataW H × List MemPlace} (h : DataW.trod enc Tryz.prog w 0 spare held fuel t [v] = some x) (hW : ∀ elems sp, x.1 = .slice elems sp → ∀ d ∈ elems, Wt d) :
  ∃ (p : Option Addr) (n c : Nat) (l : List α), v = .slice p n c ∧ n = l.length ∧ Vw k encA w (.slice p n c) l ∧ ∀ y ∈ l, R y := by
 rcases open_slice ht h with ⟨hcs, _⟩ | ⟨a, len, cap, m, n, D, Pl, hcs, _, hl, hm, hmm, hxx, hel⟩
 ·simp at hcs
  subst hcs
  exact ⟨none, 0, 0, [], rfl, rfl, Vw.nil _ _ _ _ _, by simp⟩
 ·simp at hcs
  subst hcs
  have hlm : len ≤ m := by rw [hmm]; split <;> omega
  have h1 : ∀ i, ∃ y : α, i < len → (R y ∧ ∃ cs', w.cells? 0 (a.add (i * k)) k = some cs' ∧ cs' = encA y) := by
   intro i
   by_cases hi : i < len
   ·obtain ⟨cs', h1, h2⟩ := hel i (by omega)
    rw [hc] at h1
    obtain ⟨y, hy, hr⟩ := ho _ _ _ h2 (hW _ _ (by rw [hxx]) (D i) (List.mem_map.2 ⟨i, by simpa using hi, rfl⟩))
    exact ⟨y, fun _ => ⟨hr, cs', h1, hy⟩⟩
   ·exact ⟨d0, fun h => absurd h hi⟩
  obtain ⟨F, hF⟩ := Classical.axiomOfChoice h1
  have hg : ∀ i y, ((List.range len).map F)[i]? = some y → i < len ∧ y = F i := fun i y hy => by
   have hi : i < len := by
    have := (List.getElem?_eq_some_iff.1 hy).1
    simpa using this
   refine ⟨hi, ?_⟩
   simp [hi] at hy
   exact hy.symm
  refine ⟨some a, len, cap, (List.range len).map F, rfl, by simp, ⟨some a, cap, by simp, by simpa using hl, ?_⟩, ?_⟩
  ·by_cases h0 : len = 0
   ·left; simp [h0]
   ·right
    obtain ⟨b, off, spot⟩ := a
    have hcell : ∀ i j, i < len → j < k → w.cell? ((⟨b, off, spot⟩ : Addr).add (i * k + j)) = (encA (F i))[j]? := by
     intro i j hi hj
     obtain ⟨_, cs', h1, h2⟩ := hF i hi
     rw [h2] at h1
     have h3 := World.cells?_some h1
     rw [← add_add]
     exact h3.2.2 j hj
    have hsome : ∀ j, j < k → ∃ u, (encA (F 0))[j]? = some u := fun j hj => ⟨_, List.getElem?_eq_getElem (by rw [hk]; exact hj)⟩
    have hspot : spot = none := by
     obtain ⟨u, hu⟩ := hsome 0 hk0
     have := (hcell 0 0 (by omega) hk0).trans hu
     simpa [Addr.add] using World.cell?_spot this
    subst hspot
    have hcell' : ∀ i j, i < len → j < k → w.cell? ⟨b, off + i * k + j, none⟩ = (encA (F i))[j]? := by
     intro i j hi hj
     have := hcell i j hi hj
     rw [add_plain] at this
     rw [← this]
     congr 2
     omega
    refine ⟨b, off, rfl, ?_, fun i y hy q u hu => ?_⟩
    ·obtain ⟨u, hu⟩ := hsome 0 hk0
     exact World.block_lt_of_cell? w _ ((hcell' 0 0 (by omega) hk0).trans hu)
    ·obtain ⟨hi, rfl⟩ := hg i y hy
     have hq : q < k := by
      have := (List.getElem?_eq_some_iff.1 hu).1
      rwa [hk] at this
     exact (hcell' i q hi hq).trans hu
  ·intro y hy
   rw [List.mem_map] at hy
   obtain ⟨i, hi, rfl⟩ := hy
   exact (hF i (by simpa using hi)).1
theorem trod_first {P : Program} {t : TypeId} {fs : Array Field} {f : Field} {fr : List Field} {n : Nat} {cs : List Value} {x : DataW H × List MemPlace} (hu : P.underlying t = some (.struct fs)) (hfs : fs.toList = f :: fr) (h : DataW.trod enc P w 0 spare held (n + 1) t cs = some x) :
  ∃ y ys, DataW.trod enc P w 0 spare held n f.type ((cs.drop f.offset).take (P.cellsOf f.type)) = some y ∧ x.1 = .agg (y.1 :: ys) := by
 simp only [DataW.trod, hu] at h
 split at h
 ·rw [hfs, List.mapM_cons] at h
  cases h1 : DataW.trod enc P w 0 spare held n f.type ((cs.drop f.offset).take (P.cellsOf f.type)) with
  | none => rw [h1] at h; cases h
  | some y =>
   cases h2 : fr.mapM fun f => DataW.trod enc P w 0 spare held n f.type ((cs.drop f.offset).take (P.cellsOf f.type)) with
   | none => rw [h1, h2] at h; cases h
   | some ys =>
    rw [h1, h2] at h
    simp at h
    exact ⟨y, ys.map (·.1), rfl, by rw [← h]⟩
 ·cases h
theorem leaf_str_w {P : Program} {t : TypeId} {n : Nat} {c : Value} {x : DataW H × List MemPlace} (hu : P.underlying t = some .string) (h : DataW.trod enc P w 0 spare held n t [c] = some x) : ∃ k : Bs, c = .string (S k) ∧ x.1 = .lit (.string k) := by
 cases n with
 | zero => cases h
 | succ n =>
  cases c <;> simp [DataW.trod, hu] at h
  rename_i z
  exact ⟨z.data.toList, rfl, by rw [← h.2]⟩
def Wt24 (d : DataW H) : Prop := ∀ n ∈ d.weights Tryz.prog 72, n ≤ reachBytes
theorem open_item24_w {fuel : Nat} {cs : List Value} {x : DataW H × List MemPlace} (h : DataW.trod enc Tryz.prog w 0 spare held fuel 72 cs = some x) (hW : Wt24 x.1) :
  ∃ y : It, cs = itC y ∧ y.e.ok ∧ y.c.length < 9223372036854775807 := by
 obtain ⟨y, hy, ho, _⟩ := open_item24 h
 refine ⟨y, hy, ho, ?_⟩
 cases fuel with
 | zero => cases h
 | succ n =>
  obtain ⟨z, zs, hz, hx⟩ := trod_first Tryz.underlying72 rfl h
  rw [hy] at hz
  simp [itC, cellsStr] at hz
  obtain ⟨k, hk, hz1⟩ := leaf_str_w Tryz.underlying9 hz
  have hkk : y.c = k := by
   injection hk with hk
   exact congrArg (fun b : ByteArray => b.data.toList) hk
  have := hW k.length (by
   rw [hx, hz1]
   simp [DataW.weights, Tryz.underlying72, DataW.weightsEach])
  have h2 := reachBytes_lt
  rw [hkk]
  omega
theorem weights_all {P : Program} {e : TypeId} {n : Nat} : ∀ {l : List (DataW H)} {d : DataW H}, d ∈ l → n ∈ d.weights P e → n ∈ DataW.weightsAll P e l
 | x :: t, d, hd, hn => by
  rw [DataW.weightsAll, List.mem_append]
  rcases List.mem_cons.1 hd with rfl | hd
  ·exact .inl hn
  ·exact .inr (weights_all hd hn)
theorem open_items24 {fuel : Nat} {v : Value} {x : DataW H × List MemPlace} (h : DataW.trod enc Tryz.prog w 0 spare held fuel 56 [v] = some x) (hW : ∀ n ∈ x.1.weights Tryz.prog 56, n ≤ reachBytes) :
  ∃ (p : Option Addr) (n c : Nat) (l : List It), v = .slice p n c ∧ n = l.length ∧ Vw 7 itC w (.slice p n c) l ∧ ∀ y ∈ l, y.e.ok ∧ y.c.length < 9223372036854775807 :=
 open_rows_w (R := fun y : It => y.e.ok ∧ y.c.length < 9223372036854775807) ⟨[], 0, ⟨0, 0, 0, 0, 0⟩⟩ Tryz.underlying56 cellsItem24 (by decide) itC_len Wt24 (fun _ _ _ h hw => open_item24_w h hw) h (fun elems sp e d hd n hn => hW n (by
  rw [e]
  simp only [DataW.weights, Tryz.underlying56, List.mem_cons, List.mem_append]
  exact .inr (.inl (weights_all hd hn))))
theorem open_strs24 {fuel : Nat} {v : Value} {x : DataW H × List MemPlace} (h : DataW.trod enc Tryz.prog w 0 spare held fuel 36 [v] = some x) :
  ∃ (p : Option Addr) (n c : Nat) (l : List Bs), v = .slice p n c ∧ n = l.length ∧ Vw 1 strC w (.slice p n c) l := by
 obtain ⟨p, n, c, l, h1, h2, h3, _⟩ := open_rows (R := fun _ : Bs => True) [] Tryz.underlying36 cellsStr (by decide) strC_len (fun fuel cs x h => by
  cases fuel with
  | zero => cases h
  | succ n =>
   have hl : cs.length = 1 := by
    have := h
    match cs, this with
    | [c], _ => rfl
    | [], h => simp [DataW.trod, Tryz.underlying9] at h
    | _ :: _ :: _, h => simp [DataW.trod, Tryz.underlying9] at h
   match cs, hl with
   | [c], _ =>
    obtain ⟨k, rfl⟩ := leaf_str Tryz.underlying9 h
    exact ⟨k, rfl, trivial⟩) h
 exact ⟨p, n, c, l, h1, h2, h3⟩
end
end
end Go.Proofs.YtnnghcooidjlhaaGreat
