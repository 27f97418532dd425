/- Parts of the proof: Yq Yr Ys Yt. -/
import Derived.Test.YtnnghcooidjlhaaGreatB26
set_option linter.all false
section
set_option linter.unusedSimpArgs false
set_option linter.unusedVariables false
set_option maxRecDepth 100000
namespace Go.Proofs.YtnnghcooidjlhaaGreat
open Go.RowKit Go.Lib
def putG (x : Sv) (s : Bool × List Sv) (y : Sv) : Bool × List Sv :=
  let s1 := if s.1 = false ∧ ¬ y.x.k < x.x.k then (true, s.2 ++ [x]) else s
  if y.x.k = x.x.k then s1 else (s1.1, s1.2 ++ [y])
def putH (x : Sv) (s : Bool × List Sv) : List Sv := if s.1 = true then s.2 else s.2 ++ [x]
def putV (x : Sv) (l : List Sv) : List Sv := putH x (l.foldl (putG x) (false, []))
theorem putG_map (x y : Sv) (s : Bool × List Sv) : ((putG x s y).1, (putG x s y).2.map Sv.x) = putF x.x (s.1, s.2.map Sv.x) y.x := by
  unfold putG putF
  dsimp only
  by_cases h1 : s.1 = false ∧ ¬ y.x.k < x.x.k
  · rw [if_pos h1, if_pos h1]
    by_cases h2 : y.x.k = x.x.k
    · rw [if_pos h2, if_pos h2]; simp
    · rw [if_neg h2, if_neg h2]; simp
  · rw [if_neg h1, if_neg h1]
    by_cases h2 : y.x.k = x.x.k
    · rw [if_pos h2, if_pos h2]
    · rw [if_neg h2, if_neg h2]; simp
theorem putG_fold (x : Sv) : ∀ (l : List Sv) (s : Bool × List Sv), ((l.foldl (putG x) s).1, (l.foldl (putG x) s).2.map Sv.x) = (l.map Sv.x).foldl (putF x.x) (s.1, s.2.map Sv.x)
  | [], s => rfl
  | y :: t, s => by rw [List.foldl_cons, putG_fold x t, List.map_cons, List.foldl_cons, putG_map]
theorem putV_map (x : Sv) {l : List Sv} (h : (l.map Sv.x).Pairwise fun a b => a.k < b.k) : (putV x l).map Sv.x = setS (l.map Sv.x) x.x := by
  have h1 := putE_fold x.x (l.map Sv.x) [] h
  have h2 := putG_fold x l (false, [])
  rw [List.map_nil] at h2
  rw [← h2, List.nil_append] at h1
  rw [← h1]
  unfold putV putH putE
  dsimp only
  split <;> simp
theorem putG_mem {x y z : Sv} {s : Bool × List Sv} (h : z ∈ (putG x s y).2) : z = x ∨ z = y ∨ z ∈ s.2 := by
  unfold putG at h
  by_cases h1 : s.1 = false ∧ ¬ y.x.k < x.x.k
  · by_cases h2 : y.x.k = x.x.k
    · simp [h1, h2] at h
      rcases h with h | h
      · exact .inr (.inr h)
      · exact .inl h
    · simp [h1, h2] at h
      rcases h with h | h | h
      · exact .inr (.inr h)
      · exact .inl h
      · exact .inr (.inl h)
  · dsimp only at h
    rw [if_neg h1] at h
    by_cases h2 : y.x.k = x.x.k
    · rw [if_pos h2] at h
      exact .inr (.inr h)
    · rw [if_neg h2] at h
      rcases List.mem_append.1 h with h | h
      · exact .inr (.inr h)
      · exact .inr (.inl (by simpa using h))
theorem putG_mems {x z : Sv} : ∀ (l : List Sv) (s : Bool × List Sv), z ∈ (l.foldl (putG x) s).2 → z = x ∨ z ∈ l ∨ z ∈ s.2
  | [], s, h => .inr (.inr h)
  | y :: t, s, h => by
    rw [List.foldl_cons] at h
    rcases putG_mems t _ h with h | h | h
    · exact .inl h
    · exact .inr (.inl (List.mem_cons_of_mem _ h))
    · rcases putG_mem h with h | h | h
      · exact .inl h
      · exact .inr (.inl (by rw [h]; simp))
      · exact .inr (.inr h)
theorem putV_mem {x z : Sv} {l : List Sv} (h : z ∈ putV x l) : z = x ∨ z ∈ l := by
  unfold putV putH at h
  have key : z ∈ (l.foldl (putG x) (false, [])).2 → z = x ∨ z ∈ l := fun h => by
    rcases putG_mems l _ h with h | h | h
    · exact .inl h
    · exact .inr h
    · simp at h
  split at h
  · exact key h
  · rcases List.mem_append.1 h with h | h
    · exact key h
    · exact .inl (by simpa using h)
theorem putG_len (x : Sv) : ∀ (l : List Sv) (s : Bool × List Sv), (l.foldl (putG x) s).2.length ≤ 2 * l.length + s.2.length
  | [], s => by simp
  | y :: t, s => by
    rw [List.foldl_cons]
    have h1 := putG_len x t (putG x s y)
    have h2 : (putG x s y).2.length ≤ 2 + s.2.length := by
      unfold putG
      dsimp only
      split <;> split <;> simp <;> omega
    simp only [List.length_cons]
    omega
theorem putG_take {x y : Sv} {l : List Sv} {j : Nat} (h : l[j]? = some y) : (l.take (j + 1)).foldl (putG x) (false, []) = putG x ((l.take j).foldl (putG x) (false, [])) y := by
  rw [List.take_add_one, h, Option.toList_some, List.foldl_append, List.foldl_cons, List.foldl_nil]
def PtS (W1 W : World) (v : Value) (l : List Sv) : Prop := Below W1.heap.size W1 W ∧ W.ownsRow W1.heap.size 44 4 v l.length (rowV svC l) ∧ W1.heap.size ≤ W.heap.size
theorem PtS.below {W1 W W' : World} {v : Value} {l : List Sv} (h : PtS W1 W v l) (hb : Below W.heap.size W W') : PtS W1 W' v l :=
  ⟨h.1.trans (hb.mono h.2.2), row_of h.2.1 (fun b hl => hb.block b (h.2.1.lt b hl).2), Nat.le_trans h.2.2 hb.size⟩
theorem PtS.app {W1 W W' : World} {v v' : Value} {l : List Sv} {y : Sv} (h : PtS W1 W v l) (ho : W'.ownsRow W1.heap.size 44 4 v' (l.length + 1) (rowV svC (l ++ [y]))) (hk : Kp v.ownBlock.toList W W') : PtS W1 W' v' (l ++ [y]) :=
  ⟨below_own1 h.1 h.2.1 (Nat.le_refl _) hk, by simpa using ho, Nat.le_trans h.2.2 hk.size⟩
set_option maxHeartbeats 16000000 in
theorem put25_any {w : World} {p : Option Addr} {n c : Nat} {l : List Sv} (hv : Vw 4 svC w (.slice p n c) l) (hn : n = l.length) (hl : n ≤ 1000) (x : Sv) :
    Calls Tryz.prog 86 #[.slice p n c, .agg (svC x).toArray] w fun r w' => ∃ v', r = .returned v' ∧ w'.ownsRow w.heap.size 44 4 v' (putV x l).length (rowV svC (putV x l)) ∧ Below w.heap.size w w' := by
  have hli : (n : Int) ≤ 1000 := by omega
  unfold svC
  obtain ⟨W1, hW1⟩ : ∃ W1, W1 = w.alloc (.cells #[.string (S x.x.k), .slice x.p x.x.st.words.length x.c, .int .i64 x.x.st.sent, .int .i64 x.x.st.dice] 44) := ⟨_, rfl⟩
  have hb1 : Below w.heap.size w W1 := by rw [hW1]; exact (Below.refl _ w).alloc (Nat.le_refl _) _
  have hB1 : Blk W1 w.heap.size 44 #[.string (S x.x.k), .slice x.p x.x.st.words.length x.c, .int .i64 x.x.st.sent, .int .i64 x.x.st.dice] := by rw [hW1]; exact Blk.new w _ _
  have HG := hid (⟨hv, hn, hl, hb1, hB1⟩ : _ ∧ _ ∧ _ ∧ _ ∧ _)
  have HI0 : Hid (PtS W1 W1 (.slice none 0 0) ((l.take 0).foldl (putG x) (false, [])).2) := hid ⟨Below.refl _ _, ⟨rfl, .inl ⟨rfl, rfl⟩⟩, Nat.le_refl _⟩
  have HXC : Hid (∀ W, Below W1.heap.size W1 W → W.cell? ⟨w.heap.size, 0, none⟩ = some (.string (S x.x.k)) ∧ W.cell? ⟨w.heap.size, 1, none⟩ = some (.slice x.p x.x.st.words.length x.c) ∧ W.cell? ⟨w.heap.size, 2, none⟩ = some (.int .i64 x.x.st.sent) ∧ W.cell? ⟨w.heap.size, 3, none⟩ = some (.int .i64 x.x.st.dice)) := hid fun W hW => by
    have h := hB1.below hW hB1.lt
    exact ⟨h.cell 0, h.cell 1, h.cell 2, h.cell 3⟩
  have HPL : Hid (∀ j, j ≤ n → ((l.take j).foldl (putG x) (false, [])).2.length ≤ 2000) := hid fun j hj => by
    have h1 := putG_len x (l.take j) (false, [])
    have h2 : (l.take j).length ≤ j := List.length_take_le ..
    simp at h1 h2
    omega
  have HW1 := hid hW1
  clear hv hn hl hb1 hB1 hW1
  go_enter Tryz.func86, Tryz.ntmps86
  go_wp2
  rw [← HW1.out]
  go_loopg [5, 6, 7] n (fun gg s5 s6 s7 wr => ∃ (j : Nat) (p1 : Option Addr) (n1 c1 : Nat), j ≤ n ∧ n - j ≤ gg ∧ s7 = .int .i64 j ∧ s6 = .bool ((l.take j).foldl (putG x) (false, [])).1 ∧ s5 = .slice p1 n1 c1 ∧ Hid (PtS W1 wr (.slice p1 n1 c1) ((l.take j).foldl (putG x) (false, [])).2))
  case atStart => exact ⟨0, _, _, _, by omega, by omega, rfl, rfl, rfl, HI0⟩
  case round =>
    obtain ⟨j, p1, n1, c1, hj, hgg, rfl, rfl, rfl, HI⟩ := hrel
    by_cases hje : j < n
    · obtain ⟨y, hy⟩ : ∃ y, l[j]? = some y := ⟨_, List.getElem?_eq_getElem (by rw [← HG.out.2.1]; exact hje)⟩
      obtain ⟨b, off, c', e, _, hbl, hcx⟩ := HG.out.1.ex (by rintro rfl; simp at hy)
      injection e with e1 e2 e3
      subst e1
      clear e2 e3
      have HYC : Hid (∀ W, Below W1.heap.size W1 W → W.cell? ⟨b, off + j * 4, none⟩ = some (.string (S y.x.k)) ∧ W.cell? ⟨b, off + j * 4 + 1, none⟩ = some (.slice y.p y.x.st.words.length y.c) ∧ W.cell? ⟨b, off + j * 4 + 2, none⟩ = some (.int .i64 y.x.st.sent) ∧ W.cell? ⟨b, off + j * 4 + 3, none⟩ = some (.int .i64 y.x.st.dice)) := hid fun W hW => by
        have hb : Below w.heap.size w W := HG.out.2.2.2.1.trans (hW.mono HG.out.2.2.2.1.size)
        have hcell : ∀ q u, (svC y)[q]? = some u → W.cell? ⟨b, off + j * 4 + q, none⟩ = some u := fun q u hu => (World.cell?_of_block (hb.block b hbl)).trans (hcx j y hy q u hu)
        exact ⟨hcell 0 _ rfl, hcell 1 _ rfl, hcell 2 _ rfl, hcell 3 _ rfl⟩
      have HST := hid (putG_take (x := x) hy)
      have HLN := hid (HPL.out j (by omega))
      have hji : (j : Int) < (n : Int) := by omega
      clear hy hbl hcx
      obtain ⟨st, hst⟩ : ∃ st, st = (l.take j).foldl (putG x) (false, []) := ⟨_, rfl⟩
      rw [← hst] at HI HST HLN ⊢
      clear hst
      obtain ⟨d, out⟩ := st
      dsimp only at HI HLN ⊢
      rcases blt_tri y.x.k x.x.k with hlt | heq | hgt
      · have hb1 : Op.bytesLess y.x.k x.x.k = true := by rw [bl]; exact decide_eq_true hlt
        have hne : ¬ y.x.k = x.x.k := fun e => by rw [e] at hlt; exact blt_irrefl _ hlt
        have hbq : (y.x.k == x.x.k) = false := beq_eq_false_iff_ne.2 hne
        have HK := hid hb1
        cases d
        case false =>
          obtain ⟨wo1, hwo1⟩ : ∃ wo, wo = wr := ⟨_, rfl⟩
          rw [← hwo1] at HI ⊢
          clear hwo1
          have HDR1 := hid (BelC.drew wo1)
          have HCL1 : Hid (∀ W, BelC wo1 W → W.cell? ⟨b, off + j * 4, none⟩ = some (.string (S y.x.k)) ∧ W.cell? ⟨w.heap.size, 0, none⟩ = some (.string (S x.x.k))) := hid fun W hW => ⟨(HYC.out W (HI.out.1.trans (hW.out.mono HI.out.2.2))).1, (HXC.out W (HI.out.1.trans (hW.out.mono HI.out.2.2))).1⟩
          go_wp2
          refine qC_region (by kernel_rfl) (by kernel_rfl) (BelC wo1) HDR1.out ?_
          repeat (first | (refine qC_none rfl (fun K hK => ?_); apply Exists.intro; refine ⟨fun w0 hw0 => ?_, ?_⟩; (focus (obtain ⟨q0, q1⟩ := HCL1.out w0 hw0; go_simp; first | exact rfl | exact ⟨rfl, rfl⟩ | (fail))); go_simp; refine hK _ ?_; clear hK K) | (refine qC_yes _ _ _ rfl rfl (by rfl) (fun K hK => ?_); apply Exists.intro; refine ⟨fun w0 hw0 => ?_, ?_⟩; (focus (obtain ⟨q0, q1⟩ := HCL1.out w0 hw0; go_simp; first | exact rfl | exact ⟨rfl, rfl⟩ | (fail))); go_simp; refine hK _ ?_; clear hK K) | (refine qC_no _ _ _ rfl rfl (by rfl) (fun K hK => ?_); go_simp; refine hK _ ?_; clear hK K) | (refine qC_undef _ _ _ rfl rfl (by rfl) (fun K hK => ?_); go_simp; refine hK _ ?_; clear hK K))
          refine qC_nil ?_
          intro w51 hw51
          have HP1 := hid (HI.out.below hw51.out)
          clear hw51
          obtain ⟨wo3, hwo3⟩ : ∃ wo, wo = w51 := ⟨_, rfl⟩
          rw [← hwo3] at HP1 ⊢
          clear hwo3
          have HDR3 := hid (BelC.drew wo3)
          have HCL3 : Hid (∀ W, BelC wo3 W → W.cell? ⟨b, off + j * 4, none⟩ = some (.string (S y.x.k)) ∧ W.cell? ⟨w.heap.size, 0, none⟩ = some (.string (S x.x.k))) := hid fun W hW => ⟨(HYC.out W (HP1.out.1.trans (hW.out.mono HP1.out.2.2))).1, (HXC.out W (HP1.out.1.trans (hW.out.mono HP1.out.2.2))).1⟩
          go_wp2
          refine qC_region (by kernel_rfl) (by kernel_rfl) (BelC wo3) HDR3.out ?_
          repeat (first | (refine qC_none rfl (fun K hK => ?_); apply Exists.intro; refine ⟨fun w0 hw0 => ?_, ?_⟩; (focus (obtain ⟨q0, q1⟩ := HCL3.out w0 hw0; go_simp; first | exact rfl | exact ⟨rfl, rfl⟩ | (fail))); go_simp; refine hK _ ?_; clear hK K) | (refine qC_yes _ _ _ rfl rfl (by rfl) (fun K hK => ?_); apply Exists.intro; refine ⟨fun w0 hw0 => ?_, ?_⟩; (focus (obtain ⟨q0, q1⟩ := HCL3.out w0 hw0; go_simp; first | exact rfl | exact ⟨rfl, rfl⟩ | (fail))); go_simp; refine hK _ ?_; clear hK K) | (refine qC_no _ _ _ rfl rfl (by rfl) (fun K hK => ?_); go_simp; refine hK _ ?_; clear hK K) | (refine qC_undef _ _ _ rfl rfl (by rfl) (fun K hK => ?_); go_simp; refine hK _ ?_; clear hK K))
          refine qC_nil ?_
          intro w53 hw53
          have HP3 := hid (HP1.out.below hw53.out)
          clear hw53
          obtain ⟨a0, a1, a2, a3⟩ := HYC.out w53 HP3.out.1
          go_wp2_with (with_reducible refine stopAt .append rfl ?_)
          with_reducible refine goOn ?_
          refine app_one rfl _ _ 40 rfl svC infSnap Tryz.underlying40 rfl (by decide) (by decide) svC_len svC_one y HP3.out.2.1 (by have := HLN.out; omega) HP3.out.2.2 rfl rfl ?_
          intro v4 W4 hO4 hk4 _
          have HP4 := hid (HP3.out.app hO4 hk4)
          obtain ⟨p4, n4, c4, rfl⟩ : ∃ p n c, v4 = Value.slice p n c := by obtain ⟨p, c, h⟩ := own_slice2 hO4; exact ⟨_, _, _, h⟩
          clear hO4 hk4 a0 a1 a2 a3
          go_wp2
          go_roundg (n - (j + 1))
          case measure => omega
          case rel => exact ⟨j + 1, _, _, _, by omega, by omega, by go_num, by rw [HST.out]; simp [putG, hlt, hne], rfl, by rw [HST.out]; simpa [putG, hlt, hne] using HP4⟩
        case true =>
          obtain ⟨wo1, hwo1⟩ : ∃ wo, wo = wr := ⟨_, rfl⟩
          rw [← hwo1] at HI ⊢
          clear hwo1
          have HDR1 := hid (BelC.drew wo1)
          have HCL1 : Hid (∀ W, BelC wo1 W → W.cell? ⟨b, off + j * 4, none⟩ = some (.string (S y.x.k)) ∧ W.cell? ⟨w.heap.size, 0, none⟩ = some (.string (S x.x.k))) := hid fun W hW => ⟨(HYC.out W (HI.out.1.trans (hW.out.mono HI.out.2.2))).1, (HXC.out W (HI.out.1.trans (hW.out.mono HI.out.2.2))).1⟩
          go_wp2
          refine qC_region (by kernel_rfl) (by kernel_rfl) (BelC wo1) HDR1.out ?_
          repeat (first | (refine qC_none rfl (fun K hK => ?_); apply Exists.intro; refine ⟨fun w0 hw0 => ?_, ?_⟩; (focus (obtain ⟨q0, q1⟩ := HCL1.out w0 hw0; go_simp; first | exact rfl | exact ⟨rfl, rfl⟩ | (fail))); go_simp; refine hK _ ?_; clear hK K) | (refine qC_yes _ _ _ rfl rfl (by rfl) (fun K hK => ?_); apply Exists.intro; refine ⟨fun w0 hw0 => ?_, ?_⟩; (focus (obtain ⟨q0, q1⟩ := HCL1.out w0 hw0; go_simp; first | exact rfl | exact ⟨rfl, rfl⟩ | (fail))); go_simp; refine hK _ ?_; clear hK K) | (refine qC_no _ _ _ rfl rfl (by rfl) (fun K hK => ?_); go_simp; refine hK _ ?_; clear hK K) | (refine qC_undef _ _ _ rfl rfl (by rfl) (fun K hK => ?_); go_simp; refine hK _ ?_; clear hK K))
          refine qC_nil ?_
          intro w51 hw51
          have HP1 := hid (HI.out.below hw51.out)
          clear hw51
          obtain ⟨wo3, hwo3⟩ : ∃ wo, wo = w51 := ⟨_, rfl⟩
          rw [← hwo3] at HP1 ⊢
          clear hwo3
          have HDR3 := hid (BelC.drew wo3)
          have HCL3 : Hid (∀ W, BelC wo3 W → W.cell? ⟨b, off + j * 4, none⟩ = some (.string (S y.x.k)) ∧ W.cell? ⟨w.heap.size, 0, none⟩ = some (.string (S x.x.k))) := hid fun W hW => ⟨(HYC.out W (HP1.out.1.trans (hW.out.mono HP1.out.2.2))).1, (HXC.out W (HP1.out.1.trans (hW.out.mono HP1.out.2.2))).1⟩
          go_wp2
          refine qC_region (by kernel_rfl) (by kernel_rfl) (BelC wo3) HDR3.out ?_
          repeat (first | (refine qC_none rfl (fun K hK => ?_); apply Exists.intro; refine ⟨fun w0 hw0 => ?_, ?_⟩; (focus (obtain ⟨q0, q1⟩ := HCL3.out w0 hw0; go_simp; first | exact rfl | exact ⟨rfl, rfl⟩ | (fail))); go_simp; refine hK _ ?_; clear hK K) | (refine qC_yes _ _ _ rfl rfl (by rfl) (fun K hK => ?_); apply Exists.intro; refine ⟨fun w0 hw0 => ?_, ?_⟩; (focus (obtain ⟨q0, q1⟩ := HCL3.out w0 hw0; go_simp; first | exact rfl | exact ⟨rfl, rfl⟩ | (fail))); go_simp; refine hK _ ?_; clear hK K) | (refine qC_no _ _ _ rfl rfl (by rfl) (fun K hK => ?_); go_simp; refine hK _ ?_; clear hK K) | (refine qC_undef _ _ _ rfl rfl (by rfl) (fun K hK => ?_); go_simp; refine hK _ ?_; clear hK K))
          refine qC_nil ?_
          intro w53 hw53
          have HP3 := hid (HP1.out.below hw53.out)
          clear hw53
          obtain ⟨a0, a1, a2, a3⟩ := HYC.out w53 HP3.out.1
          go_wp2_with (with_reducible refine stopAt .append rfl ?_)
          with_reducible refine goOn ?_
          refine app_one rfl _ _ 40 rfl svC infSnap Tryz.underlying40 rfl (by decide) (by decide) svC_len svC_one y HP3.out.2.1 (by have := HLN.out; omega) HP3.out.2.2 rfl rfl ?_
          intro v4 W4 hO4 hk4 _
          have HP4 := hid (HP3.out.app hO4 hk4)
          obtain ⟨p4, n4, c4, rfl⟩ : ∃ p n c, v4 = Value.slice p n c := by obtain ⟨p, c, h⟩ := own_slice2 hO4; exact ⟨_, _, _, h⟩
          clear hO4 hk4 a0 a1 a2 a3
          go_wp2
          go_roundg (n - (j + 1))
          case measure => omega
          case rel => exact ⟨j + 1, _, _, _, by omega, by omega, by go_num, by rw [HST.out]; simp [putG, hlt, hne], rfl, by rw [HST.out]; simpa [putG, hlt, hne] using HP4⟩
      · have hb1 : Op.bytesLess y.x.k x.x.k = false := by rw [bl, heq]; exact decide_eq_false (blt_irrefl _)
        have hbq : (y.x.k == x.x.k) = true := beq_iff_eq.2 heq
        have HQ := hid heq
        clear heq
        have hnn : ¬ x.x.k < x.x.k := blt_irrefl _
        have HK := hid hb1
        cases d
        case false =>
          obtain ⟨wo1, hwo1⟩ : ∃ wo, wo = wr := ⟨_, rfl⟩
          rw [← hwo1] at HI ⊢
          clear hwo1
          have HDR1 := hid (BelC.drew wo1)
          have HCL1 : Hid (∀ W, BelC wo1 W → W.cell? ⟨b, off + j * 4, none⟩ = some (.string (S y.x.k)) ∧ W.cell? ⟨w.heap.size, 0, none⟩ = some (.string (S x.x.k))) := hid fun W hW => ⟨(HYC.out W (HI.out.1.trans (hW.out.mono HI.out.2.2))).1, (HXC.out W (HI.out.1.trans (hW.out.mono HI.out.2.2))).1⟩
          go_wp2
          refine qC_region (by kernel_rfl) (by kernel_rfl) (BelC wo1) HDR1.out ?_
          repeat (first | (refine qC_none rfl (fun K hK => ?_); apply Exists.intro; refine ⟨fun w0 hw0 => ?_, ?_⟩; (focus (obtain ⟨q0, q1⟩ := HCL1.out w0 hw0; go_simp; first | exact rfl | exact ⟨rfl, rfl⟩ | (fail))); go_simp; refine hK _ ?_; clear hK K) | (refine qC_yes _ _ _ rfl rfl (by rfl) (fun K hK => ?_); apply Exists.intro; refine ⟨fun w0 hw0 => ?_, ?_⟩; (focus (obtain ⟨q0, q1⟩ := HCL1.out w0 hw0; go_simp; first | exact rfl | exact ⟨rfl, rfl⟩ | (fail))); go_simp; refine hK _ ?_; clear hK K) | (refine qC_no _ _ _ rfl rfl (by rfl) (fun K hK => ?_); go_simp; refine hK _ ?_; clear hK K) | (refine qC_undef _ _ _ rfl rfl (by rfl) (fun K hK => ?_); go_simp; refine hK _ ?_; clear hK K))
          refine qC_nil ?_
          intro w51 hw51
          have HP1 := hid (HI.out.below hw51.out)
          clear hw51
          obtain ⟨a0, a1, a2, a3⟩ := HXC.out w51 HP1.out.1
          go_wp2_with (with_reducible refine stopAt .append rfl ?_)
          with_reducible refine goOn ?_
          refine app_one rfl _ _ 40 rfl svC infSnap Tryz.underlying40 rfl (by decide) (by decide) svC_len svC_one x HP1.out.2.1 (by have := HLN.out; omega) HP1.out.2.2 rfl rfl ?_
          intro v2 W2 hO2 hk2 _
          have HP2 := hid (HP1.out.app hO2 hk2)
          obtain ⟨p2, n2, c2, rfl⟩ : ∃ p n c, v2 = Value.slice p n c := by obtain ⟨p, c, h⟩ := own_slice2 hO2; exact ⟨_, _, _, h⟩
          clear hO2 hk2 a0 a1 a2 a3
          obtain ⟨wo3, hwo3⟩ : ∃ wo, wo = W2 := ⟨_, rfl⟩
          rw [← hwo3] at HP2 ⊢
          clear hwo3
          have HDR3 := hid (BelC.drew wo3)
          have HCL3 : Hid (∀ W, BelC wo3 W → W.cell? ⟨b, off + j * 4, none⟩ = some (.string (S y.x.k)) ∧ W.cell? ⟨w.heap.size, 0, none⟩ = some (.string (S x.x.k))) := hid fun W hW => ⟨(HYC.out W (HP2.out.1.trans (hW.out.mono HP2.out.2.2))).1, (HXC.out W (HP2.out.1.trans (hW.out.mono HP2.out.2.2))).1⟩
          go_wp2
          refine qC_region (by kernel_rfl) (by kernel_rfl) (BelC wo3) HDR3.out ?_
          repeat (first | (refine qC_none rfl (fun K hK => ?_); apply Exists.intro; refine ⟨fun w0 hw0 => ?_, ?_⟩; (focus (obtain ⟨q0, q1⟩ := HCL3.out w0 hw0; go_simp; first | exact rfl | exact ⟨rfl, rfl⟩ | (fail))); go_simp; refine hK _ ?_; clear hK K) | (refine qC_yes _ _ _ rfl rfl (by rfl) (fun K hK => ?_); apply Exists.intro; refine ⟨fun w0 hw0 => ?_, ?_⟩; (focus (obtain ⟨q0, q1⟩ := HCL3.out w0 hw0; go_simp; first | exact rfl | exact ⟨rfl, rfl⟩ | (fail))); go_simp; refine hK _ ?_; clear hK K) | (refine qC_no _ _ _ rfl rfl (by rfl) (fun K hK => ?_); go_simp; refine hK _ ?_; clear hK K) | (refine qC_undef _ _ _ rfl rfl (by rfl) (fun K hK => ?_); go_simp; refine hK _ ?_; clear hK K))
          refine qC_nil ?_
          intro w53 hw53
          have HP3 := hid (HP2.out.below hw53.out)
          clear hw53
          go_wp2
          go_roundg (n - (j + 1))
          case measure => omega
          case rel => exact ⟨j + 1, _, _, _, by omega, by omega, by go_num, by rw [HST.out]; simp [putG, HQ.out, hnn], rfl, by rw [HST.out]; simpa [putG, HQ.out, hnn] using HP3⟩
        case true =>
          obtain ⟨wo1, hwo1⟩ : ∃ wo, wo = wr := ⟨_, rfl⟩
          rw [← hwo1] at HI ⊢
          clear hwo1
          have HDR1 := hid (BelC.drew wo1)
          have HCL1 : Hid (∀ W, BelC wo1 W → W.cell? ⟨b, off + j * 4, none⟩ = some (.string (S y.x.k)) ∧ W.cell? ⟨w.heap.size, 0, none⟩ = some (.string (S x.x.k))) := hid fun W hW => ⟨(HYC.out W (HI.out.1.trans (hW.out.mono HI.out.2.2))).1, (HXC.out W (HI.out.1.trans (hW.out.mono HI.out.2.2))).1⟩
          go_wp2
          refine qC_region (by kernel_rfl) (by kernel_rfl) (BelC wo1) HDR1.out ?_
          repeat (first | (refine qC_none rfl (fun K hK => ?_); apply Exists.intro; refine ⟨fun w0 hw0 => ?_, ?_⟩; (focus (obtain ⟨q0, q1⟩ := HCL1.out w0 hw0; go_simp; first | exact rfl | exact ⟨rfl, rfl⟩ | (fail))); go_simp; refine hK _ ?_; clear hK K) | (refine qC_yes _ _ _ rfl rfl (by rfl) (fun K hK => ?_); apply Exists.intro; refine ⟨fun w0 hw0 => ?_, ?_⟩; (focus (obtain ⟨q0, q1⟩ := HCL1.out w0 hw0; go_simp; first | exact rfl | exact ⟨rfl, rfl⟩ | (fail))); go_simp; refine hK _ ?_; clear hK K) | (refine qC_no _ _ _ rfl rfl (by rfl) (fun K hK => ?_); go_simp; refine hK _ ?_; clear hK K) | (refine qC_undef _ _ _ rfl rfl (by rfl) (fun K hK => ?_); go_simp; refine hK _ ?_; clear hK K))
          refine qC_nil ?_
          intro w51 hw51
          have HP1 := hid (HI.out.below hw51.out)
          clear hw51
          obtain ⟨wo3, hwo3⟩ : ∃ wo, wo = w51 := ⟨_, rfl⟩
          rw [← hwo3] at HP1 ⊢
          clear hwo3
          have HDR3 := hid (BelC.drew wo3)
          have HCL3 : Hid (∀ W, BelC wo3 W → W.cell? ⟨b, off + j * 4, none⟩ = some (.string (S y.x.k)) ∧ W.cell? ⟨w.heap.size, 0, none⟩ = some (.string (S x.x.k))) := hid fun W hW => ⟨(HYC.out W (HP1.out.1.trans (hW.out.mono HP1.out.2.2))).1, (HXC.out W (HP1.out.1.trans (hW.out.mono HP1.out.2.2))).1⟩
          go_wp2
          refine qC_region (by kernel_rfl) (by kernel_rfl) (BelC wo3) HDR3.out ?_
          repeat (first | (refine qC_none rfl (fun K hK => ?_); apply Exists.intro; refine ⟨fun w0 hw0 => ?_, ?_⟩; (focus (obtain ⟨q0, q1⟩ := HCL3.out w0 hw0; go_simp; first | exact rfl | exact ⟨rfl, rfl⟩ | (fail))); go_simp; refine hK _ ?_; clear hK K) | (refine qC_yes _ _ _ rfl rfl (by rfl) (fun K hK => ?_); apply Exists.intro; refine ⟨fun w0 hw0 => ?_, ?_⟩; (focus (obtain ⟨q0, q1⟩ := HCL3.out w0 hw0; go_simp; first | exact rfl | exact ⟨rfl, rfl⟩ | (fail))); go_simp; refine hK _ ?_; clear hK K) | (refine qC_no _ _ _ rfl rfl (by rfl) (fun K hK => ?_); go_simp; refine hK _ ?_; clear hK K) | (refine qC_undef _ _ _ rfl rfl (by rfl) (fun K hK => ?_); go_simp; refine hK _ ?_; clear hK K))
          refine qC_nil ?_
          intro w53 hw53
          have HP3 := hid (HP1.out.below hw53.out)
          clear hw53
          go_wp2
          go_roundg (n - (j + 1))
          case measure => omega
          case rel => exact ⟨j + 1, _, _, _, by omega, by omega, by go_num, by rw [HST.out]; simp [putG, HQ.out, hnn], rfl, by rw [HST.out]; simpa [putG, HQ.out, hnn] using HP3⟩
      · have hb1 : Op.bytesLess y.x.k x.x.k = false := by rw [bl]; exact decide_eq_false (blt_asymm hgt)
        have hnl : ¬ y.x.k < x.x.k := blt_asymm hgt
        have hne : ¬ y.x.k = x.x.k := fun e => by rw [e] at hgt; exact blt_irrefl _ hgt
        have hbq : (y.x.k == x.x.k) = false := beq_eq_false_iff_ne.2 hne
        have HK := hid hb1
        cases d
        case false =>
          obtain ⟨wo1, hwo1⟩ : ∃ wo, wo = wr := ⟨_, rfl⟩
          rw [← hwo1] at HI ⊢
          clear hwo1
          have HDR1 := hid (BelC.drew wo1)
          have HCL1 : Hid (∀ W, BelC wo1 W → W.cell? ⟨b, off + j * 4, none⟩ = some (.string (S y.x.k)) ∧ W.cell? ⟨w.heap.size, 0, none⟩ = some (.string (S x.x.k))) := hid fun W hW => ⟨(HYC.out W (HI.out.1.trans (hW.out.mono HI.out.2.2))).1, (HXC.out W (HI.out.1.trans (hW.out.mono HI.out.2.2))).1⟩
          go_wp2
          refine qC_region (by kernel_rfl) (by kernel_rfl) (BelC wo1) HDR1.out ?_
          repeat (first | (refine qC_none rfl (fun K hK => ?_); apply Exists.intro; refine ⟨fun w0 hw0 => ?_, ?_⟩; (focus (obtain ⟨q0, q1⟩ := HCL1.out w0 hw0; go_simp; first | exact rfl | exact ⟨rfl, rfl⟩ | (fail))); go_simp; refine hK _ ?_; clear hK K) | (refine qC_yes _ _ _ rfl rfl (by rfl) (fun K hK => ?_); apply Exists.intro; refine ⟨fun w0 hw0 => ?_, ?_⟩; (focus (obtain ⟨q0, q1⟩ := HCL1.out w0 hw0; go_simp; first | exact rfl | exact ⟨rfl, rfl⟩ | (fail))); go_simp; refine hK _ ?_; clear hK K) | (refine qC_no _ _ _ rfl rfl (by rfl) (fun K hK => ?_); go_simp; refine hK _ ?_; clear hK K) | (refine qC_undef _ _ _ rfl rfl (by rfl) (fun K hK => ?_); go_simp; refine hK _ ?_; clear hK K))
          refine qC_nil ?_
          intro w51 hw51
          have HP1 := hid (HI.out.below hw51.out)
          clear hw51
          obtain ⟨a0, a1, a2, a3⟩ := HXC.out w51 HP1.out.1
          go_wp2_with (with_reducible refine stopAt .append rfl ?_)
          with_reducible refine goOn ?_
          refine app_one rfl _ _ 40 rfl svC infSnap Tryz.underlying40 rfl (by decide) (by decide) svC_len svC_one x HP1.out.2.1 (by have := HLN.out; omega) HP1.out.2.2 rfl rfl ?_
          intro v2 W2 hO2 hk2 _
          have HP2 := hid (HP1.out.app hO2 hk2)
          obtain ⟨p2, n2, c2, rfl⟩ : ∃ p n c, v2 = Value.slice p n c := by obtain ⟨p, c, h⟩ := own_slice2 hO2; exact ⟨_, _, _, h⟩
          clear hO2 hk2 a0 a1 a2 a3
          obtain ⟨wo3, hwo3⟩ : ∃ wo, wo = W2 := ⟨_, rfl⟩
          rw [← hwo3] at HP2 ⊢
          clear hwo3
          have HDR3 := hid (BelC.drew wo3)
          have HCL3 : Hid (∀ W, BelC wo3 W → W.cell? ⟨b, off + j * 4, none⟩ = some (.string (S y.x.k)) ∧ W.cell? ⟨w.heap.size, 0, none⟩ = some (.string (S x.x.k))) := hid fun W hW => ⟨(HYC.out W (HP2.out.1.trans (hW.out.mono HP2.out.2.2))).1, (HXC.out W (HP2.out.1.trans (hW.out.mono HP2.out.2.2))).1⟩
          go_wp2
          refine qC_region (by kernel_rfl) (by kernel_rfl) (BelC wo3) HDR3.out ?_
          repeat (first | (refine qC_none rfl (fun K hK => ?_); apply Exists.intro; refine ⟨fun w0 hw0 => ?_, ?_⟩; (focus (obtain ⟨q0, q1⟩ := HCL3.out w0 hw0; go_simp; first | exact rfl | exact ⟨rfl, rfl⟩ | (fail))); go_simp; refine hK _ ?_; clear hK K) | (refine qC_yes _ _ _ rfl rfl (by rfl) (fun K hK => ?_); apply Exists.intro; refine ⟨fun w0 hw0 => ?_, ?_⟩; (focus (obtain ⟨q0, q1⟩ := HCL3.out w0 hw0; go_simp; first | exact rfl | exact ⟨rfl, rfl⟩ | (fail))); go_simp; refine hK _ ?_; clear hK K) | (refine qC_no _ _ _ rfl rfl (by rfl) (fun K hK => ?_); go_simp; refine hK _ ?_; clear hK K) | (refine qC_undef _ _ _ rfl rfl (by rfl) (fun K hK => ?_); go_simp; refine hK _ ?_; clear hK K))
          refine qC_nil ?_
          intro w53 hw53
          have HP3 := hid (HP2.out.below hw53.out)
          clear hw53
          obtain ⟨a0, a1, a2, a3⟩ := HYC.out w53 HP3.out.1
          go_wp2_with (with_reducible refine stopAt .append rfl ?_)
          with_reducible refine goOn ?_
          refine app_one rfl _ _ 40 rfl svC infSnap Tryz.underlying40 rfl (by decide) (by decide) svC_len svC_one y HP3.out.2.1 (by have := HLN.out; simp at this ⊢; omega) HP3.out.2.2 rfl rfl ?_
          intro v4 W4 hO4 hk4 _
          have HP4 := hid (HP3.out.app hO4 hk4)
          obtain ⟨p4, n4, c4, rfl⟩ : ∃ p n c, v4 = Value.slice p n c := by obtain ⟨p, c, h⟩ := own_slice2 hO4; exact ⟨_, _, _, h⟩
          clear hO4 hk4 a0 a1 a2 a3
          go_wp2
          go_roundg (n - (j + 1))
          case measure => omega
          case rel => exact ⟨j + 1, _, _, _, by omega, by omega, by go_num, by rw [HST.out]; simp [putG, hnl, hne], rfl, by rw [HST.out]; simpa [putG, hnl, hne] using HP4⟩
        case true =>
          obtain ⟨wo1, hwo1⟩ : ∃ wo, wo = wr := ⟨_, rfl⟩
          rw [← hwo1] at HI ⊢
          clear hwo1
          have HDR1 := hid (BelC.drew wo1)
          have HCL1 : Hid (∀ W, BelC wo1 W → W.cell? ⟨b, off + j * 4, none⟩ = some (.string (S y.x.k)) ∧ W.cell? ⟨w.heap.size, 0, none⟩ = some (.string (S x.x.k))) := hid fun W hW => ⟨(HYC.out W (HI.out.1.trans (hW.out.mono HI.out.2.2))).1, (HXC.out W (HI.out.1.trans (hW.out.mono HI.out.2.2))).1⟩
          go_wp2
          refine qC_region (by kernel_rfl) (by kernel_rfl) (BelC wo1) HDR1.out ?_
          repeat (first | (refine qC_none rfl (fun K hK => ?_); apply Exists.intro; refine ⟨fun w0 hw0 => ?_, ?_⟩; (focus (obtain ⟨q0, q1⟩ := HCL1.out w0 hw0; go_simp; first | exact rfl | exact ⟨rfl, rfl⟩ | (fail))); go_simp; refine hK _ ?_; clear hK K) | (refine qC_yes _ _ _ rfl rfl (by rfl) (fun K hK => ?_); apply Exists.intro; refine ⟨fun w0 hw0 => ?_, ?_⟩; (focus (obtain ⟨q0, q1⟩ := HCL1.out w0 hw0; go_simp; first | exact rfl | exact ⟨rfl, rfl⟩ | (fail))); go_simp; refine hK _ ?_; clear hK K) | (refine qC_no _ _ _ rfl rfl (by rfl) (fun K hK => ?_); go_simp; refine hK _ ?_; clear hK K) | (refine qC_undef _ _ _ rfl rfl (by rfl) (fun K hK => ?_); go_simp; refine hK _ ?_; clear hK K))
          refine qC_nil ?_
          intro w51 hw51
          have HP1 := hid (HI.out.below hw51.out)
          clear hw51
          obtain ⟨wo3, hwo3⟩ : ∃ wo, wo = w51 := ⟨_, rfl⟩
          rw [← hwo3] at HP1 ⊢
          clear hwo3
          have HDR3 := hid (BelC.drew wo3)
          have HCL3 : Hid (∀ W, BelC wo3 W → W.cell? ⟨b, off + j * 4, none⟩ = some (.string (S y.x.k)) ∧ W.cell? ⟨w.heap.size, 0, none⟩ = some (.string (S x.x.k))) := hid fun W hW => ⟨(HYC.out W (HP1.out.1.trans (hW.out.mono HP1.out.2.2))).1, (HXC.out W (HP1.out.1.trans (hW.out.mono HP1.out.2.2))).1⟩
          go_wp2
          refine qC_region (by kernel_rfl) (by kernel_rfl) (BelC wo3) HDR3.out ?_
          repeat (first | (refine qC_none rfl (fun K hK => ?_); apply Exists.intro; refine ⟨fun w0 hw0 => ?_, ?_⟩; (focus (obtain ⟨q0, q1⟩ := HCL3.out w0 hw0; go_simp; first | exact rfl | exact ⟨rfl, rfl⟩ | (fail))); go_simp; refine hK _ ?_; clear hK K) | (refine qC_yes _ _ _ rfl rfl (by rfl) (fun K hK => ?_); apply Exists.intro; refine ⟨fun w0 hw0 => ?_, ?_⟩; (focus (obtain ⟨q0, q1⟩ := HCL3.out w0 hw0; go_simp; first | exact rfl | exact ⟨rfl, rfl⟩ | (fail))); go_simp; refine hK _ ?_; clear hK K) | (refine qC_no _ _ _ rfl rfl (by rfl) (fun K hK => ?_); go_simp; refine hK _ ?_; clear hK K) | (refine qC_undef _ _ _ rfl rfl (by rfl) (fun K hK => ?_); go_simp; refine hK _ ?_; clear hK K))
          refine qC_nil ?_
          intro w53 hw53
          have HP3 := hid (HP1.out.below hw53.out)
          clear hw53
          obtain ⟨a0, a1, a2, a3⟩ := HYC.out w53 HP3.out.1
          go_wp2_with (with_reducible refine stopAt .append rfl ?_)
          with_reducible refine goOn ?_
          refine app_one rfl _ _ 40 rfl svC infSnap Tryz.underlying40 rfl (by decide) (by decide) svC_len svC_one y HP3.out.2.1 (by have := HLN.out; omega) HP3.out.2.2 rfl rfl ?_
          intro v4 W4 hO4 hk4 _
          have HP4 := hid (HP3.out.app hO4 hk4)
          obtain ⟨p4, n4, c4, rfl⟩ : ∃ p n c, v4 = Value.slice p n c := by obtain ⟨p, c, h⟩ := own_slice2 hO4; exact ⟨_, _, _, h⟩
          clear hO4 hk4 a0 a1 a2 a3
          go_wp2
          go_roundg (n - (j + 1))
          case measure => omega
          case rel => exact ⟨j + 1, _, _, _, by omega, by omega, by go_num, by rw [HST.out]; simp [putG, hnl, hne], rfl, by rw [HST.out]; simpa [putG, hnl, hne] using HP4⟩
    · have hjn : j = n := by omega
      have HJ : Hid (l.take j = l) := hid (by rw [hjn, HG.out.2.1, List.take_length])
      have HLN := hid (HPL.out j (by omega))
      have hji : ¬ ((j : Int) < (n : Int)) := by omega
      clear hjn
      rw [HJ.out] at HI HLN ⊢
      obtain ⟨st, hst⟩ : ∃ st, st = l.foldl (putG x) (false, []) := ⟨_, rfl⟩
      have HPV : Hid (putV x l = putH x st) := hid (by rw [hst]; rfl)
      rw [← hst] at HI HLN ⊢
      clear hst
      obtain ⟨d, out⟩ := st
      dsimp only at HI HLN ⊢
      cases d
      case false =>
        obtain ⟨a0, a1, a2, a3⟩ := HXC.out wr HI.out.1
        go_wp2_with (with_reducible refine stopAt .append rfl ?_)
        with_reducible refine goOn ?_
        refine app_one rfl _ _ 40 rfl svC infSnap Tryz.underlying40 rfl (by decide) (by decide) svC_len svC_one x HI.out.2.1 (by have := HLN.out; omega) HI.out.2.2 rfl rfl ?_
        intro v4 W4 hO4 hk4 _
        have HP4 := hid (HI.out.app hO4 hk4)
        obtain ⟨p4, n4, c4, rfl⟩ : ∃ p n c, v4 = Value.slice p n c := by obtain ⟨p, c, h⟩ := own_slice2 hO4; exact ⟨_, _, _, h⟩
        clear hO4 hk4 a0 a1 a2 a3
        go_wp2
        go_ret
        have h := HP4.out
        have hb := HG.out.2.2.2.1
        have e : putV x l = out ++ [x] := HPV.out
        rw [e]
        exact ⟨_, rfl, own_base h.2.1 hb.size, hb.trans (h.1.mono hb.size)⟩
      case true =>
        go_wp2
        go_ret
        have h := HI.out
        have hb := HG.out.2.2.2.1
        have e : putV x l = out := HPV.out
        rw [e]
        exact ⟨_, rfl, own_base h.2.1 hb.size, hb.trans (h.1.mono hb.size)⟩
end Go.Proofs.YtnnghcooidjlhaaGreat
end
section
set_option linter.unusedSimpArgs false
set_option linter.unusedVariables false
set_option maxRecDepth 100000
namespace Go.Proofs.YtnnghcooidjlhaaGreat
open Go.RowKit Go.Lib
set_option maxHeartbeats 4000000 in
theorem rs25_any (p : Option Addr) (n c : Nat) (st : Sta) (hn : n = st.words.length) (w : World) :
    Calls Tryz.prog 85 #[staV p n c st] w fun r w' => r = .returned (.bool (decide st.right)) ∧ Below w.heap.size w w' := by
  unfold staV
  have HB := hid ((Below.refl _ w).alloc (Nat.le_refl _) (.cells #[.slice p n c, .int .i64 st.sent, .int .i64 st.dice] 29))
  have hcase : (¬ (n : Int) ≤ 8 ∧ ¬ st.right) ∨ ((n : Int) ≤ 8 ∧ ¬ 0 ≤ st.sent ∧ ¬ st.right) ∨ ((n : Int) ≤ 8 ∧ 0 ≤ st.sent ∧ ¬ st.sent ≤ 1099511627776 ∧ ¬ st.right) ∨ ((n : Int) ≤ 8 ∧ 0 ≤ st.sent ∧ st.sent ≤ 1099511627776 ∧ ¬ 0 ≤ st.dice ∧ ¬ st.right) ∨ ((n : Int) ≤ 8 ∧ 0 ≤ st.sent ∧ st.sent ≤ 1099511627776 ∧ 0 ≤ st.dice ∧ ¬ st.dice ≤ 1099511627776 ∧ ¬ st.right) ∨ ((n : Int) ≤ 8 ∧ 0 ≤ st.sent ∧ st.sent ≤ 1099511627776 ∧ 0 ≤ st.dice ∧ st.dice ≤ 1099511627776 ∧ st.right) := by
    unfold Sta.right
    omega
  clear hn
  rcases hcase with ⟨h0, hr⟩ | ⟨h0, h1, hr⟩ | ⟨h0, h1, h2, hr⟩ | ⟨h0, h1, h2, h3, hr⟩ | ⟨h0, h1, h2, h3, h4, hr⟩ | ⟨h0, h1, h2, h3, h4, hr⟩
  case' inr.inr.inr.inr.inr => rw [decide_eq_true hr]
  case' inl => rw [decide_eq_false hr]
  case' inr.inl => rw [decide_eq_false hr]
  case' inr.inr.inl => rw [decide_eq_false hr]
  case' inr.inr.inr.inl => rw [decide_eq_false hr]
  case' inr.inr.inr.inr.inl => rw [decide_eq_false hr]
  all_goals
    clear hr
    go_enter Tryz.func85, Tryz.ntmps85
    go_wp2
    go_ret
    exact ⟨by first | rfl | simp [*], HB.out⟩
set_option maxHeartbeats 4000000 in
theorem short25_any (kd : Int) (k : Bs) (p : Option Addr) (n c : Nat) (st : Sta) (w : World) :
    Calls Tryz.prog 21 #[.agg #[.int .i64 kd, .string (S k), .slice p n c, .int .i64 st.sent, .int .i64 st.dice]] w fun r w' => r = .returned (.bool (decide (k.length < 100 ∧ n < 60))) ∧ Below w.heap.size w w' := by
  have HB := hid ((Below.refl _ w).alloc (Nat.le_refl _) (.cells #[.int .i64 kd, .string (S k), .slice p n c, .int .i64 st.sent, .int .i64 st.dice] 31))
  by_cases h1 : (k.length : Int) < 100
  · have e : decide (k.length < 100 ∧ n < 60) = decide ((n : Int) < 60) := decide_eq_decide.2 (by omega)
    rw [e]
    clear e
    go_enter Tryz.func21, Tryz.ntmps21
    go_wp2
    go_ret
    exact ⟨by first | rfl | simp [*], HB.out⟩
  · have e : decide (k.length < 100 ∧ n < 60) = false := decide_eq_false (by omega)
    rw [e]
    clear e
    go_enter Tryz.func21, Tryz.ntmps21
    go_wp2
    go_ret
    exact ⟨by first | rfl | simp [*], HB.out⟩
set_option maxHeartbeats 4000000 in
theorem same01_any {w : World} {p1 p2 : Option Addr} {n c1 c2 : Nat} {l : List Bs} (h1 : Vw 1 kC w (.slice p1 n c1) l) (h2 : Vw 1 kC w (.slice p2 n c2) l) (hn : n = l.length) (hl : n ≤ 1000) :
    Calls Tryz.prog 29 #[.slice p1 n c1, .slice p2 n c2] w fun r w' => r = .returned (.bool true) ∧ Below w.heap.size w w' := by
  have hli : (n : Int) ≤ 1000 := by omega
  have HG := hid (⟨h1, h2, hn⟩ : _ ∧ _ ∧ _)
  clear h1 h2 hn hl
  go_enter Tryz.func29, Tryz.ntmps29
  go_wp2
  go_loopg [5] n (fun gg s5 wr => ∃ j : Nat, j ≤ n ∧ n - j ≤ gg ∧ s5 = .int .i64 j ∧ Hid (Below w.heap.size w wr))
  case atStart => exact ⟨0, by omega, by omega, rfl, hid (Below.refl _ _)⟩
  case round =>
    obtain ⟨j, hj, hgg, rfl, HI⟩ := hrel
    by_cases hje : j < n
    · obtain ⟨x, hx⟩ : ∃ x, l[j]? = some x := ⟨_, List.getElem?_eq_getElem (by rw [← HG.out.2.2]; exact hje)⟩
      have hne : l ≠ [] := by rintro rfl; simp at hx
      obtain ⟨b1, o1, _, e1, _, hb1, k1⟩ := HG.out.1.ex hne
      obtain ⟨b2, o2, _, e2, _, hb2, k2⟩ := HG.out.2.1.ex hne
      injection e1 with e1 e3 e4
      injection e2 with e2 e5 e6
      subst e1 e2
      clear e3 e4 e5 e6
      have HC : Hid (∀ W, BelC wr W → W.cell? ⟨b1, o1 + j, none⟩ = some (.string (S x)) ∧ W.cell? ⟨b2, o2 + j, none⟩ = some (.string (S x))) := hid fun W hW => by
        have hb := HI.out.trans (hW.out.mono HI.out.size)
        have q1 := k1 j x hx 0 _ rfl
        have q2 := k2 j x hx 0 _ rfl
        rw [Nat.mul_one, Nat.add_zero] at q1 q2
        exact ⟨(World.cell?_of_block (hb.block b1 hb1)).trans q1, (World.cell?_of_block (hb.block b2 hb2)).trans q2⟩
      have hji : (j : Int) < (n : Int) := by omega
      have HDR := hid (BelC.drew wr)
      clear hx hne k1 k2 hb1 hb2
      obtain ⟨wo, hwo⟩ : ∃ wo, wo = wr := ⟨_, rfl⟩
      subst hwo
      go_wp2
      refine qC_region (by kernel_rfl) (by kernel_rfl) (BelC wo) HDR.out ?_
      repeat (first | (refine qC_none rfl (fun K hK => ?_); apply Exists.intro; refine ⟨fun w0 hw0 => ?_, ?_⟩; (focus (obtain ⟨q0, q1⟩ := HC.out w0 hw0; go_simp; first | exact rfl | exact ⟨rfl, rfl⟩ | (fail))); go_simp; refine hK _ ?_; clear hK K) | (refine qC_yes _ _ _ rfl rfl (by rfl) (fun K hK => ?_); apply Exists.intro; refine ⟨fun w0 hw0 => ?_, ?_⟩; (focus (obtain ⟨q0, q1⟩ := HC.out w0 hw0; go_simp; first | exact rfl | exact ⟨rfl, rfl⟩ | (fail))); go_simp; refine hK _ ?_; clear hK K) | (refine qC_no _ _ _ rfl rfl (by rfl) (fun K hK => ?_); go_simp; refine hK _ ?_; clear hK K) | (refine qC_undef _ _ _ rfl rfl (by rfl) (fun K hK => ?_); go_simp; refine hK _ ?_; clear hK K))
      refine qC_nil ?_
      intro w5 hw5
      have HI5 := hid (HI.out.trans (hw5.out.mono HI.out.size))
      clear hw5
      go_wp2
      go_roundg (n - (j + 1))
      case measure => omega
      case rel => exact ⟨j + 1, by omega, by omega, by go_num, HI5⟩
    · have hji : ¬ ((j : Int) < (n : Int)) := by omega
      go_wp2
      go_ret
      exact ⟨rfl, HI.out⟩
end Go.Proofs.YtnnghcooidjlhaaGreat
end
section
set_option linter.unusedSimpArgs false
set_option linter.unusedVariables false
set_option maxRecDepth 100000
namespace Go.Proofs.YtnnghcooidjlhaaGreat
open Go.RowKit Go.Lib
section
variable {R : List KV → Prop} {w w' : World} {xb : Nat} {s : SL} {lp : Int} {O : List Nat} {N : Nat} {l : List Sn}
theorem SnI.asc (h : SnI R w xb s lp O N l) : l.Pairwise fun a b => a.k < b.k := by
  obtain ⟨M, h1, h2, h3⟩ := h.m
  exact h2.asc h1.asc
theorem sn_from (h : SnI R w xb s lp O N l) {k : Bs} (hk : k.length ≤ 29) :
    Calls Tryz.prog 28 #[.pointer (some ⟨xb, 0, none⟩), .string (S k)] w fun e w' => e = .returned (.tuple #[.int .i64 (fromS l k).length, .int .i64 0]) ∧ SnI R w' xb s lp O N (belowS l k) ∧ Kp O w w' := by
  obtain ⟨M, h1, h2, h3⟩ := h.m
  refine (sfrom_any h.b h1 h.noO h.hlp hk).mono ?_
  rintro e w' ⟨rfl, hS, hK⟩
  have e1 := part_len h2 (fun x => inR k [] x)
  rw [filter_from'] at e1
  have h4 := h2.clear h.hlp k []
  rw [filter_from] at h4
  have h5 := longs_sub (List.filter_sublist (l := M) (p := fun a => !inR (hdP 3 lp ++ k) (toK (hdP 3 lp) []) a.1))
  exact ⟨by rw [e1], h.turn hK (Gr.refl _ _) hS h4 ⟨Nat.le_trans h5 h3.1, h.rk.2 _ _ _ h3.2⟩, hK⟩
theorem sn_below (h : SnI R w xb s lp O N l) {k : Bs} (hk : k.length ≤ 29) :
    Calls Tryz.prog 30 #[.pointer (some ⟨xb, 0, none⟩), .string (S k)] w fun e w' => e = .returned (.tuple #[.int .i64 (belowS l k).length, .int .i64 0]) ∧ SnI R w' xb s lp O N (fromS l k) ∧ Kp O w w' := by
  by_cases hk0 : k = []
  · subst hk0
    have e1 : belowS l [] = [] := List.filter_eq_nil_iff.2 (fun y _ => by simp)
    have e2 : fromS l [] = l := List.filter_eq_self.2 (fun y _ => by simp)
    rw [e1, e2]
    refine (sbelow_empty _ w).mono ?_
    rintro e w' ⟨rfl, rfl⟩
    exact ⟨rfl, h, Kp.refl _ _⟩
  · obtain ⟨M, h1, h2, h3⟩ := h.m
    refine (sbelow_any h.b h1 h.noO h.hlp hk hk0).mono ?_
    rintro e w' ⟨rfl, hS, hK⟩
    have e1 := part_len h2 (fun x => inR [] k x)
    rw [filter_below' l hk0] at e1
    have h4 := h2.clear h.hlp [] k
    rw [filter_below l hk0] at h4
    have h5 := longs_sub (List.filter_sublist (l := M) (p := fun a => !inR (hdP 3 lp ++ []) (toK (hdP 3 lp) k) a.1))
    exact ⟨by rw [e1], h.turn hK (Gr.refl _ _) hS h4 ⟨Nat.le_trans h5 h3.1, h.rk.2 _ _ _ h3.2⟩, hK⟩
theorem sn_ahead_none (h : SnI R w xb s lp O N l) {k : Bs} (hk : k.length ≤ 29) (hl : belowS l k = []) :
    Calls Tryz.prog 23 #[.pointer (some ⟨xb, 0, none⟩), .string (S k)] w fun r w' => r = .returned (.tuple #[.string ⟨#[]⟩, sta0, .int .i64 9]) ∧ SnI R w' xb s lp O N l ∧ Kp O w w' := by
  by_cases hk0 : k = []
  · refine (sahead_no (some ⟨xb, 0, none⟩) k 9 (.inr (.inr ⟨by simp, hk0, rfl⟩)) w).mono ?_
    rintro e w' ⟨rfl, hb⟩
    exact ⟨rfl, h.below hb, Kp.of_below hb⟩
  · obtain ⟨M, h1, h2, h3⟩ := h.m
    refine (sahead_none h.b h1 h.noO h.hlp h2 hk hk0 hl).mono ?_
    rintro e w' ⟨rfl, hS, hK⟩
    exact ⟨rfl, h.turn hK (Gr.refl _ _) hS h2 h3, hK⟩
end
theorem belowV_map (k : Bs) (l : List Sv) : (belowV k l).map Sv.x = belowS (l.map Sv.x) k := by
  unfold belowV belowS
  rw [List.filter_map]
  rfl
theorem fromV_map (k : Bs) (l : List Sv) : (fromV k l).map Sv.x = fromS (l.map Sv.x) k := by
  unfold fromV fromS
  rw [List.filter_map]
  rfl
def wV (y : Sv) : Value := .slice y.p y.x.st.words.length y.c
structure RfI (w : World) (O : List Nat) (v : Value) (ls : List Sv) (l : List Sn) : Prop where
  hv : Vw 4 svC w v ls
  m : ls.map Sv.x = l
  o : ∀ b, v.ownBlock = some b → b ∉ O
  ws : ∀ y ∈ ls, ∀ W', Kp O w W' → Vw 1 wC W' (wV y) y.x.st.words
def DoP (R : List KV → Prop) (w : World) (xb : Nat) (s : SL) (lp : Int) (O : List Nat) (N : Nat) (ls : List Sv) (x : Sv) (r : Ending) (w' : World) : Prop :=
  ∃ O' v' l' ls' N', r = .returned (.tuple #[v', .bool true]) ∧ SnI R w' xb s lp O' N' l' ∧ Vw 4 svC w' v' ls' ∧ ls'.map Sv.x = l' ∧ (∀ b, v'.ownBlock = some b → b ∉ O') ∧ Kp O w w' ∧ Gr O w.heap.size O' ∧ N' ≤ N + 1 ∧ ls'.length ≤ ls.length + 1 ∧ ∀ y ∈ ls', y = x ∨ y ∈ ls
theorem putV_len (x : Sv) {l : List Sv} (h : (l.map Sv.x).Pairwise fun a b => a.k < b.k) : (putV x l).length ≤ l.length + 1 := by
  have h1 := setS_length (l.map Sv.x) x.x
  rw [← putV_map x h] at h1
  simpa using h1
end Go.Proofs.YtnnghcooidjlhaaGreat
end
section
set_option linter.unusedSimpArgs false
set_option linter.unusedVariables false
set_option maxRecDepth 100000
namespace Go.Proofs.YtnnghcooidjlhaaGreat
open Go.RowKit Go.Lib
def actV (kd : Int) (x : Sv) : Value := .agg #[.int .i64 kd, .string (S x.x.k), .slice x.p x.x.st.words.length x.c, .int .i64 x.x.st.sent, .int .i64 x.x.st.dice]
def ActB (w W : World) (kd : Int) (x : Sv) : Prop := W.cell? ⟨w.heap.size, 0, none⟩ = some (.int .i64 kd) ∧ W.cell? ⟨w.heap.size, 1, none⟩ = some (.string (S x.x.k)) ∧ W.cell? ⟨w.heap.size, 2, none⟩ = some (.slice x.p x.x.st.words.length x.c) ∧ W.cell? ⟨w.heap.size, 3, none⟩ = some (.int .i64 x.x.st.sent) ∧ W.cell? ⟨w.heap.size, 4, none⟩ = some (.int .i64 x.x.st.dice)
section
variable {R : List KV → Prop} {w : World} {xb : Nat} {s : SL} {lp : Int} {O : List Nat} {N : Nat} {l : List Sn} {ls : List Sv} {v : Value}
theorem act_box (h : SnI R w xb s lp O N l) (kd : Int) (x : Sv) {W1 : World} (hW1 : W1 = w.alloc (.cells #[.int .i64 kd, .string (S x.x.k), .slice x.p x.x.st.words.length x.c, .int .i64 x.x.st.sent, .int .i64 x.x.st.dice] 31)) :
    Below w.heap.size w W1 ∧ ∀ W, Kp O W1 W → ActB w W kd x := by
  subst hW1
  have hno : w.heap.size ∉ O := fun hm => by have := h.lts w.heap.size (by simp [hm]); omega
  refine ⟨(Below.refl _ w).alloc (Nat.le_refl _) _, fun W hW => ?_⟩
  have hB := (Blk.new w 31 #[.int .i64 kd, .string (S x.x.k), .slice x.p x.x.st.words.length x.c, .int .i64 x.x.st.sent, .int .i64 x.x.st.dice]).kp hW hno
  exact ⟨hB.cell 0, hB.cell 1, hB.cell 2, hB.cell 3, hB.cell 4⟩
theorem DoP.same (h : SnI R w xb s lp O N l) (hr : RfI w O v ls l) (x : Sv) {w' : World} (hw : SnI R w' xb s lp O N l) (hk : Kp O w w') : DoP R w xb s lp O N ls x (.returned (.tuple #[v, .bool true])) w' :=
  ⟨O, v, l, ls, N, rfl, hw, hr.hv.kp1 hk hr.o, hr.m, hr.o, hk, Gr.refl _ _, by omega, by omega, fun y hy => .inr hy⟩
set_option maxHeartbeats 8000000 in
theorem do25_long (h : SnI R w xb s lp O N l) (hr : RfI w O v ls l) (kd : Int) (hk : 0 ≤ kd ∧ kd < 3) (x : Sv) (hx : 29 < x.x.k.length) :
    Calls Tryz.prog 25 #[.pointer (some ⟨xb, 0, none⟩), v, actV kd x] w fun r w' => DoP R w xb s lp O N ls x r w' := by
  obtain ⟨p, c, rfl, hc⟩ := hr.hv.slice
  unfold actV
  obtain ⟨W1, hW1⟩ : ∃ W1, W1 = w.alloc (.cells #[.int .i64 kd, .string (S x.x.k), .slice x.p x.x.st.words.length x.c, .int .i64 x.x.st.sent, .int .i64 x.x.st.dice] 31) := ⟨_, rfl⟩
  have HT := hid (stake_no ⟨xb, 0, none⟩ x.x.k x.p _ x.c x.x.st rfl (fun h => by omega) W1)
  have HX := hid (⟨h, hr, act_box h kd x hW1⟩ : _ ∧ _ ∧ _)
  unfold staV at HT
  rw [hW1] at HT
  have HW1 := hid hW1
  have hlong : (29 : Int) < (x.x.k.length : Int) := by omega
  have hkk : kd = 0 ∨ kd = 1 ∨ kd = 2 := by omega
  obtain ⟨nl, hnl⟩ : ∃ nl, nl = ls.length := ⟨_, rfl⟩
  have HNL := hid hnl
  rw [← hnl]
  clear h hr hW1 hx hc hk hnl
  rcases hkk with rfl | rfl | rfl
  all_goals
    go_enter Tryz.func25, Tryz.ntmps25
    go_wp2_with fail
    (with_reducible refine HT.out.mono ?_)
    rintro r W2 ⟨rfl, hb2⟩
    rw [← HW1.out] at hb2
    have H2 := hid hb2
    clear hb2
    go_wp2
    go_ret2
    obtain ⟨h, hr, hb1, _⟩ := HX.out
    have hb12 := hb1.trans (H2.out.mono hb1.size)
    rw [HNL.out]
    exact DoP.same h hr x (h.below hb12) (Kp.of_below hb12)
set_option maxHeartbeats 8000000 in
theorem do25_bad (h : SnI R w xb s lp O N l) (hr : RfI w O v ls l) (kd : Int) (hk : 0 ≤ kd ∧ kd < 3) (x : Sv) (hx : x.x.k.length ≤ 29) (hb : ¬ x.x.st.right) :
    Calls Tryz.prog 25 #[.pointer (some ⟨xb, 0, none⟩), v, actV kd x] w fun r w' => DoP R w xb s lp O N ls x r w' := by
  obtain ⟨p, c, rfl, hc⟩ := hr.hv.slice
  unfold actV
  obtain ⟨W1, hW1⟩ : ∃ W1, W1 = w.alloc (.cells #[.int .i64 kd, .string (S x.x.k), .slice x.p x.x.st.words.length x.c, .int .i64 x.x.st.sent, .int .i64 x.x.st.dice] 31) := ⟨_, rfl⟩
  have HT := hid (stake_no ⟨xb, 0, none⟩ x.x.k x.p _ x.c x.x.st rfl (fun h => hb h.2) W1)
  have HR := hid (fun W => rs25_any x.p x.x.st.words.length x.c x.x.st rfl W)
  rw [decide_eq_false hb] at HR
  have HX := hid (⟨h, hr, act_box h kd x hW1⟩ : _ ∧ _ ∧ _)
  unfold staV at HT HR
  rw [hW1] at HT
  have HW1 := hid hW1
  have hlong : ¬ (29 : Int) < (x.x.k.length : Int) := by omega
  have hkk : kd = 0 ∨ kd = 1 ∨ kd = 2 := by omega
  obtain ⟨nl, hnl⟩ : ∃ nl, nl = ls.length := ⟨_, rfl⟩
  have HNL := hid hnl
  rw [← hnl]
  clear h hr hW1 hx hc hk hnl hb
  rcases hkk with rfl | rfl | rfl
  all_goals
    go_enter Tryz.func25, Tryz.ntmps25
    go_wp2_with fail
    (with_reducible refine HT.out.mono ?_)
    rintro r W2 ⟨rfl, hb2⟩
    rw [← HW1.out] at hb2
    have H2 := hid hb2
    obtain ⟨a0, a1, a2, a3, a4⟩ := HX.out.2.2.2 W2 (Kp.of_below hb2)
    clear hb2
    go_wp2_with fail
    (with_reducible refine (HR.out _).mono ?_)
    rintro r W3 ⟨rfl, hb3⟩
    have H3 := hid hb3
    clear hb3
    go_wp2
    go_ret2
    obtain ⟨h, hr, hb1, _⟩ := HX.out
    have hb12 := hb1.trans (H2.out.mono hb1.size)
    have hb13 := hb12.trans (H3.out.mono hb12.size)
    rw [HNL.out]
    exact DoP.same h hr x (h.below hb13) (Kp.of_below hb13)
set_option maxHeartbeats 8000000 in
theorem do25_take (h : SnI R w xb s lp O N l) (hr : RfI w O v ls l) (kd : Int) (hk : 0 ≤ kd ∧ kd < 3) (x : Sv) (hx : x.x.k.length ≤ 29) (hb : x.x.st.right) (hok : x.x.st.ok) (hv : Vw 1 wC w (wV x) x.x.st.words) (hN : N ≤ 50) (hl : ls.length ≤ 100) :
    Calls Tryz.prog 25 #[.pointer (some ⟨xb, 0, none⟩), v, actV kd x] w fun r w' => DoP R w xb s lp O N ls x r w' := by
  obtain ⟨p, c, rfl, hc⟩ := hr.hv.slice
  unfold actV
  obtain ⟨W1, hW1⟩ : ∃ W1, W1 = w.alloc (.cells #[.int .i64 kd, .string (S x.x.k), .slice x.p x.x.st.words.length x.c, .int .i64 x.x.st.sent, .int .i64 x.x.st.dice] 31) := ⟨_, rfl⟩
  have hbx := act_box h kd x hW1
  have HT := hid (sn_take (h.below hbx.1) hN hx (hv.below hbx.1) rfl hb hok)
  have HR := hid (fun W => rs25_any x.p x.x.st.words.length x.c x.x.st rfl W)
  rw [decide_eq_true hb] at HR
  have hasc := h.asc
  have HX := hid (⟨h, hr, hbx⟩ : _ ∧ _ ∧ _)
  obtain ⟨nl, hnl⟩ : ∃ nl, nl = ls.length := ⟨_, rfl⟩
  have HNL := hid hnl
  have HP := hid (fun W (hW : Vw 4 svC W (.slice p nl c) ls) => put25_any hW hnl (by omega) x)
  rw [← hr.m] at hasc
  have HA := hid hasc
  have HM := hid (putV_map x hasc)
  unfold staV at HT HR
  unfold svC at HP
  rw [hW1] at HT
  have HW1 := hid hW1
  have hlong : ¬ (29 : Int) < (x.x.k.length : Int) := by omega
  have hkk : kd = 0 ∨ kd = 1 ∨ kd = 2 := by omega
  rw [← hnl]
  clear h hr hW1 hx hc hk hnl hb hok hv hN hl hbx hasc
  rcases hkk with rfl | rfl | rfl
  all_goals
    go_enter Tryz.func25, Tryz.ntmps25
    go_wp2_with fail
    (with_reducible refine HT.out.mono ?_)
    rintro r W2 ⟨O2, rfl, hI2, hk2, hg2⟩
    rw [← HW1.out] at hk2 hg2
    have H2 := hid (⟨hI2, hk2, hg2⟩ : _ ∧ _ ∧ _)
    obtain ⟨a0, a1, a2, a3, a4⟩ := HX.out.2.2.2 W2 hk2
    clear hI2 hk2 hg2
    go_wp2_with fail
    (with_reducible refine (HR.out _).mono ?_)
    rintro r W3 ⟨rfl, hb3⟩
    have H3 := hid hb3
    have hk13 := H2.out.2.1.trans (Kp.of_below (O := O) hb3)
    obtain ⟨a0, a1, a2, a3, a4⟩ := HX.out.2.2.2 W3 hk13
    have hk03 : Kp O w W3 := (Kp.of_below HX.out.2.2.1).trans hk13
    have hV3 : Vw 4 svC W3 (.slice p nl c) ls := by
      have := HX.out.2.1.hv.kp1 hk03 HX.out.2.1.o
      rwa [← HNL.out] at this
    have HP3 := hid (HP.out W3 hV3)
    have HK3 := hid hk03
    clear hb3 hk13 hk03 hV3
    go_wp2_with fail
    (with_reducible refine HP3.out.mono ?_)
    rintro r W4 ⟨v', rfl, hO4, hb4⟩
    obtain ⟨p', c', rfl⟩ := own_slice2 hO4
    have H4 := hid (⟨hO4, hb4⟩ : _ ∧ _)
    clear hO4 hb4 a0 a1 a2 a3 a4
    go_wp2
    go_ret2
    obtain ⟨h, hr, hbx, _⟩ := HX.out
    obtain ⟨hI2, hk2, hg2⟩ := H2.out
    obtain ⟨hO4, hb4⟩ := H4.out
    have hI4 := (hI2.below H3.out).below hb4
    refine ⟨O2, _, _, putV x ls, N + 1, rfl, hI4, Vw.of_own svC_len hO4 rfl, by rw [HM.out, hr.m], fun b hb hm => ?_, HK3.out.trans (Kp.of_below hb4), hg2.mono hbx.size, Nat.le_refl _, putV_len x HA.out, fun y hy => putV_mem hy⟩
    have h1 := (hO4.lt b hb).1
    have h2 := (hI2.below H3.out).lts b (by simp [hm])
    omega
end
end Go.Proofs.YtnnghcooidjlhaaGreat
end
