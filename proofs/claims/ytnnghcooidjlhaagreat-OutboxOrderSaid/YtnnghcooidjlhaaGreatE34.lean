/- Parts of the proof: Zh Zi Oy Vr Zk. -/
import Derived.Test.YtnnghcooidjlhaaGreatE27
import Derived.Test.YtnnghcooidjlhaaGreatE29
import Derived.Test.YtnnghcooidjlhaaGreatE33
set_option linter.all false
set_option maxRecDepth 100000
namespace Go.Proofs.YtnnghcooidjlhaaGreat
section
open Go.RowKit Go.Lib
def takeO (ls l : List It) : List It := ls.foldl (fun l x => delO l x.key) l
theorem mem_takeO {y : It} : ∀ {ls l : List It}, y ∈ takeO ls l ↔ y ∈ l ∧ ∀ x ∈ ls, y.key ≠ x.key
 | [], l => by simp [takeO]
 | x :: t, l => by
  unfold takeO
  rw [List.foldl_cons]
  have ih := mem_takeO (y := y) (ls := t) (l := delO l x.key)
  unfold takeO at ih
  rw [ih]
  unfold delO
  rw [List.mem_filter]
  simp only [decide_eq_true_eq, List.mem_cons, forall_eq_or_imp, ne_eq, and_assoc]
theorem takeO_filter : ∀ (ls l : List It), takeO ls l = l.filter fun y => decide (∀ x ∈ ls, y.key ≠ x.key)
 | [], l => by
  simp [takeO]
  exact (List.filter_eq_self.2 (by simp)).symm
 | x :: t, l => by
  unfold takeO
  rw [List.foldl_cons]
  have ih := takeO_filter t (delO l x.key)
  unfold takeO at ih
  rw [ih]
  unfold delO
  rw [List.filter_filter]
  refine List.filter_congr fun y hy => ?_
  rw [← Bool.decide_and]
  exact decide_eq_decide.2 (by simp [and_comm])
theorem takeO_out (l : List It) (fr to : Bs) : takeO (insideO l fr to) l = outO l fr to := by
 rw [takeO_filter]
 refine List.filter_congr fun y hy => ?_
 cases e : inR fr to y.key
 ·refine decide_eq_true fun x hx he => ?_
  have := (List.mem_filter.1 hx).2
  simp only [← he, e] at this
  exact absurd this (by simp)
 ·refine decide_eq_false fun h => h y (List.mem_filter.2 ⟨hy, e⟩) rfl
theorem takeO_next {ls : List It} {j : Nat} {x : It} (h : ls[j]? = some x) (l : List It) : takeO (ls.take (j + 1)) l = delO (takeO (ls.take j) l) x.key := by
 rw [List.take_add_one, h]
 unfold takeO
 rw [Option.toList_some, List.foldl_append]
 rfl
theorem putO_next {ls : List It} {j : Nat} {x : It} (h : ls[j]? = some x) (l : List It) : (ls.take (j + 1)).foldl setO l = setO ((ls.take j).foldl setO l) x := by
 rw [List.take_add_one, h, Option.toList_some, List.foldl_append]
 rfl
section
variable {w w' : World} {xb yb : Nat} {s : SL} {sp sq lp : Int} {O : List Nat} {N L : Nat} {l m : List It}
set_option maxHeartbeats 8000000 in
theorem move1_any (h : OxI w xb yb s sp sq lp O N L l m) (x : It) (hx : x ∈ l) (hN : roomO N L) {b3 b4 : Nat} (k3 : Blk w b3 59 #[.pointer (some ⟨xb, 0, none⟩)]) (k4 : Blk w b4 59 #[.pointer (some ⟨yb, 0, none⟩)]) (n3 : b3 ∉ O) (n4 : b4 ∉ O) :
  Calls Tryz.prog 99 #[itV x, .pointer (some ⟨b4, 0, none⟩), .pointer (some ⟨b3, 0, none⟩)] w fun r w' => ∃ O', r = .returned (.int .i64 0) ∧ OxI w' xb yb s sp sq lp O' (N + 1) L (delO l x.key) (setO m x) ∧ Kp O w w' ∧ Gr O w.heap.size O' := by
 obtain ⟨hr, ho, hn⟩ := h.ok x hx
 have hnx : x.nrm = x := by
  obtain ⟨c, k, e⟩ := x
  unfold It.nrm
  simp only at hn ⊢
  rw [hn]
 obtain ⟨W1, hW1⟩ : ∃ W1, W1 = w.alloc (.cells #[.string (S x.c), .int .i64 x.k, .float .f64 x.e.t, .int .i64 x.e.src, .int .i64 x.e.n, .int .i64 x.e.dst, .int .i64 x.e.pay] 69) := ⟨_, rfl⟩
 have hb1 : Below w.heap.size w W1 := by rw [hW1]; exact (Below.refl _ w).alloc (Nat.le_refl _) _
 have hX1 := it_box w x
 rw [← hW1] at hX1
 have hP := oput_any (h.swap.below hb1) x hr ho hN
 rw [hnx] at hP
 have HD := hid (fun W O' (hI : OxI W xb yb s sp sq lp O' (N + 1) (L + 1) l (setO m x)) => odel_any hI x hr.1)
 have c4 : W1.cell? ⟨b4, 0, none⟩ = some (.pointer (some ⟨yb, 0, none⟩)) := (k4.below hb1 k4.lt).cell 0
 have hnO : w.heap.size ∉ O := fun hm => by have := h.lts w.heap.size (by simp [hm]); omega
 have HCK : Hid (∀ W', Kp O W1 W' → W'.cell? ⟨b3, 0, none⟩ = some (.pointer (some ⟨xb, 0, none⟩)) ∧ W'.cell? ⟨w.heap.size, 0, none⟩ = some (.string (S x.c)) ∧ W'.cell? ⟨w.heap.size, 1, none⟩ = some (.int .i64 x.k) ∧ W'.cell? ⟨w.heap.size, 2, none⟩ = some (.float .f64 x.e.t) ∧ W'.cell? ⟨w.heap.size, 3, none⟩ = some (.int .i64 x.e.src) ∧ W'.cell? ⟨w.heap.size, 4, none⟩ = some (.int .i64 x.e.n) ∧ W'.cell? ⟨w.heap.size, 5, none⟩ = some (.int .i64 x.e.dst) ∧ W'.cell? ⟨w.heap.size, 6, none⟩ = some (.int .i64 x.e.pay)) := hid fun W' hk => by
  have q3 := (k3.below hb1 k3.lt).kp hk n3
  have qx := hX1.kp hk hnO
  exact ⟨q3.cell 0, qx.cell 0, qx.cell 1, qx.cell 2, qx.cell 3, qx.cell 4, qx.cell 5, qx.cell 6⟩
 have HP := hid hP
 unfold itV at HP HD ⊢
 rw [hW1] at HP c4
 have HX := hid (⟨hx, hb1, h.lts⟩ : _ ∧ _ ∧ _)
 have HW1 := hid hW1
 clear h hx hN k3 k4 n3 n4 hr ho hn hnx hW1 hb1 hX1 hP hnO
 go_enter Tryz.func99, Tryz.ntmps99
 go_wp2_with fail
 (with_reducible refine HP.out.mono ?_)
 rintro r W2 ⟨O2, rfl, hI2, hk2, hg2⟩
 rw [← HW1.out] at hk2 hg2
 obtain ⟨m3, m0, m1, m2, m3', m4, m5, m6⟩ := HCK.out W2 hk2
 have HD2 := hid (HD.out W2 O2 hI2.swap)
 have H2 := hid (⟨(Kp.of_below HX.out.2.1).trans hk2, hg2.mono HX.out.2.1.size⟩ : Kp O w W2 ∧ Gr O w.heap.size O2)
 clear hI2 hk2 hg2
 go_wp2_with fail
 (with_reducible refine HD2.out.mono ?_)
 rintro r W3 ⟨er, rfl, hcs, hk3⟩
 have hI3 : er = 0 ∧ OxI W3 xb yb s sp sq lp O2 (N + 1) L (delO l x.key) (setO m x) := by
  rcases hcs with ⟨h1, _, h3⟩ | ⟨_, h2, _⟩
  ·exact ⟨h1, h3⟩
  ·exact absurd ⟨x, HX.out.1, rfl⟩ h2
 obtain ⟨rfl, hI3⟩ := hI3
 have HF := hid (⟨hI3, H2.out.1.trans_gr H2.out.2 hk3, H2.out.2⟩ : _ ∧ _ ∧ _)
 clear hcs hk3 hI3 m3 m0 m1 m2 m3' m4 m5 m6
 go_wp2
 go_ret
 exact ⟨O2, rfl, HF.out⟩
def MvI (w : World) (xb yb : Nat) (s : SL) (sp sq lp : Int) (O : List Nat) (N L : Nat) (l m ls : List It) (B : Nat) (v : Value) (j : Nat) (W : World) : Prop :=
 ∃ O', OxI W xb yb s sp sq lp O' (N + j) L (takeO (ls.take j) l) ((ls.take j).foldl setO m) ∧ Kp O w W ∧ Gr O B O' ∧ W.ownsRow (w.heap.size + 2) 69 7 v ls.length (rowV itC ls) ∧ Blk W w.heap.size 59 #[.pointer (some ⟨xb, 0, none⟩)] ∧ Blk W (w.heap.size + 1) 59 #[.pointer (some ⟨yb, 0, none⟩)] ∧ B ≤ W.heap.size ∧ (∀ b, v.ownBlock = some b → b < B)
set_option maxHeartbeats 16000000 in
theorem omove_any (h : OxI w xb yb s sp sq lp O N L l m) (hl : l.length ≤ 1000) (fr : Bs) (hf : fr.length ≤ 30) (hN : ∀ j, j < (insideO l fr []).length → roomO (N + j) L) :
  Calls Tryz.prog 37 #[.pointer (some ⟨xb, 0, none⟩), .pointer (some ⟨yb, 0, none⟩), .string (S fr)] w fun r w' => ∃ O', r = .returned (.tuple #[.int .i64 (insideO l fr []).length, .int .i64 0]) ∧ OxI w' xb yb s sp sq lp O' (N + (insideO l fr []).length) L (outO l fr []) ((insideO l fr []).foldl setO m) ∧ Kp O w w' ∧ Gr O w.heap.size O' := by
 obtain ⟨W2, hW2⟩ : ∃ W2, W2 = (w.alloc (.cells #[.pointer (some ⟨xb, 0, none⟩)] 59)).alloc (.cells #[.pointer (some ⟨yb, 0, none⟩)] 59) := ⟨_, rfl⟩
 have hb2 : Below w.heap.size w W2 := by rw [hW2]; exact ((Below.refl _ w).alloc (Nat.le_refl _) _).alloc (by simp) _
 have hs2 : W2.heap.size = w.heap.size + 2 := by rw [hW2]; simp
 have k3 : Blk W2 w.heap.size 59 #[.pointer (some ⟨xb, 0, none⟩)] := by rw [hW2]; exact (Blk.new w _ _).alloc _
 have k4 : Blk W2 (w.heap.size + 1) 59 #[.pointer (some ⟨yb, 0, none⟩)] := by
  rw [hW2]
  have := Blk.new (w.alloc (.cells #[.pointer (some ⟨xb, 0, none⟩)] 59)) 59 #[.pointer (some ⟨yb, 0, none⟩)]
  simpa using this
 have hLI := olist_any (h.below hb2) hl fr [] hf (by simp)
 rw [show S [] = { data := #[] } from rfl] at hLI
 have hlts := h.lts
 have hno3 : w.heap.size ∉ O := fun hm => by have := hlts w.heap.size (by simp [hm]); omega
 have hno4 : w.heap.size + 1 ∉ O := fun hm => by have := hlts (w.heap.size + 1) (by simp [hm]); omega
 rw [← takeO_out l fr []]
 obtain ⟨ls, hls⟩ : ∃ ls, ls = insideO l fr [] := ⟨_, rfl⟩
 have hin : ∀ x ∈ ls, x ∈ l := fun x hx => by rw [hls] at hx; exact (List.mem_filter.1 hx).1
 have hne : ls.Pairwise fun a b => a.key ≠ b.key := by rw [hls]; exact AscO.ne (h.asc.filter _)
 have hle : ls.length ≤ 1000 := by rw [hls]; exact Nat.le_trans (List.length_filter_le _ _) hl
 rw [← hls] at hN hLI ⊢
 obtain ⟨n, hn⟩ : ∃ n, n = ls.length := ⟨_, rfl⟩
 have HX := hid (⟨hin, hne, hle, hN, hn, hlts, hb2, hs2, hno3, hno4⟩ : _ ∧ _ ∧ _ ∧ _ ∧ _ ∧ _ ∧ _ ∧ _ ∧ _ ∧ _)
 have HK := hid (⟨k3, k4⟩ : _ ∧ _)
 have hli : (n : Int) ≤ 1000 := by omega
 rw [← hn] at hLI ⊢
 rw [hW2] at hLI
 have HLI := hid hLI
 have HW2 := hid hW2
 clear h hl hf hN hls hin hne hle hlts hLI hb2 hs2 k3 k4 hno3 hno4 hW2 hn
 go_enter Tryz.func37, Tryz.ntmps37
 go_wp2_with fail
 (with_reducible refine HLI.out.mono ?_)
 rintro r W3 ⟨v3, rfl, hI3, hk3, hO3⟩
 rw [← HW2.out] at hk3 hO3
 obtain ⟨pa, pc, rfl⟩ := own_slice2 hO3
 have HI0 : Hid (MvI w xb yb s sp sq lp O N L l m ls W3.heap.size (.slice pa n pc) 0 W3) := hid (by
  obtain ⟨hin, hne, hle, hN, hn, hlts, hb2, hs2, hno3, hno4⟩ := HX.out
  exact ⟨O, hI3, (Kp.of_below hb2).trans hk3, Gr.refl _ _, by rw [← hs2, ← hn]; exact hO3, HK.out.1.kp hk3 hno3, HK.out.2.kp hk3 hno4, Nat.le_refl _, fun b hb => (hO3.lt b hb).2⟩)
 have HS3 : Hid (w.heap.size + 2 ≤ W3.heap.size) := hid (by rw [← HX.out.2.2.2.2.2.2.2.1]; exact hk3.size)
 clear hI3 hk3 hO3
 go_wp2
 go_loopg [32] n (fun gg s32 wr => ∃ (j : Nat), j ≤ n ∧ n - j ≤ gg ∧ s32 = .int .i64 j ∧ Hid (MvI w xb yb s sp sq lp O N L l m ls W3.heap.size (.slice pa n pc) j wr))
 case atStart => exact ⟨0, by omega, by omega, rfl, HI0⟩
 case round =>
  obtain ⟨j, hj, hgg, rfl, HI⟩ := hrel
  by_cases hje : j < n
  ·obtain ⟨x, hx⟩ : ∃ x, ls[j]? = some x := ⟨_, List.getElem?_eq_getElem (by rw [← HX.out.2.2.2.2.1]; exact hje)⟩
   obtain ⟨Oj, g1, g2, g3, g4, g5, g6, g7, g8⟩ := HI.out
   rw [← HX.out.2.2.2.2.1] at g4
   obtain ⟨g, c, e1, hg1, hg2, hg3⟩ := own_form g4 (by omega)
   injection e1 with e1 elen e3
   clear elen
   subst e1 e3
   have hcell : ∀ q (hq : q < 7) u, (itC x)[q]? = some u → wr.cell? ⟨g, j * 7 + q, none⟩ = some u := fun q hq u hu => own_at g4 rfl (j := j * 7 + q) (by
    rw [rowV_get itC_len _ j _ hx q hq, hu])
   have m0 : wr.cell? ⟨g, j * 7, none⟩ = some (.string (S x.c)) := hcell 0 (by omega) _ rfl
   have m1 := hcell 1 (by omega) (.int .i64 x.k) rfl
   have m2 := hcell 2 (by omega) (.float .f64 x.e.t) rfl
   have m3 := hcell 3 (by omega) (.int .i64 x.e.src) rfl
   have m4 := hcell 4 (by omega) (.int .i64 x.e.n) rfl
   have m5 := hcell 5 (by omega) (.int .i64 x.e.dst) rfl
   have m6 := hcell 6 (by omega) (.int .i64 x.e.pay) rfl
   obtain ⟨W4, hW4⟩ : ∃ W4, W4 = wr.alloc (.cells #[.string (S x.c), .int .i64 x.k, .float .f64 x.e.t, .int .i64 x.e.src, .int .i64 x.e.n, .int .i64 x.e.dst, .int .i64 x.e.pay] 69) := ⟨_, rfl⟩
   have hb4 : Below wr.heap.size wr W4 := by rw [hW4]; exact (Below.refl _ wr).alloc (Nat.le_refl _) _
   have hC : Calls Tryz.prog 99 #[itV x, .pointer (some ⟨w.heap.size + 1, 0, none⟩), .pointer (some ⟨w.heap.size, 0, none⟩)] W4 fun r w' => r = .returned (.int .i64 0) ∧ MvI w xb yb s sp sq lp O N L l m ls W3.heap.size (.slice (some ⟨g, 0, none⟩) n pc) (j + 1) w' := by
    obtain ⟨hin, hne, hle, hN, hn, hlts, hb2, hs2, hno3, hno4⟩ := HX.out
    have hS3 := HS3.out
    have hxl : x ∈ takeO (ls.take j) l := mem_takeO.2 ⟨hin x (List.mem_of_getElem? hx), fun y hy e => by
     obtain ⟨i, hi⟩ := List.mem_iff_getElem?.1 hy
     rw [List.getElem?_take] at hi
     split at hi
     ·rename_i hij
      have := List.pairwise_iff_getElem.1 hne i j (by omega) (by omega) hij
      rw [(List.getElem?_eq_some_iff.1 hi).2, (List.getElem?_eq_some_iff.1 hx).2] at this
      exact this e.symm
     ·exact absurd hi (by simp)⟩
    have hn3 : w.heap.size ∉ Oj := g3.out (by omega) hno3
    have hn4 : w.heap.size + 1 ∉ Oj := g3.out (by omega) hno4
    refine (move1_any (g1.below hb4) x hxl (hN j (by omega)) (g5.below hb4 g5.lt) (g6.below hb4 g6.lt) hn3 hn4).mono ?_
    rintro r w' ⟨O', rfl, f1, f2, f3⟩
    have hk := (Kp.of_below hb4 : Kp Oj wr W4).trans f2
    refine ⟨rfl, O', ?_, g2.trans_gr (g3.mono (by omega)) hk, g3.trans f3 (Nat.le_trans g7 hb4.size), ?_, g5.kp hk hn3, g6.kp hk hn4, Nat.le_trans g7 hk.size, g8⟩
    ·rw [takeO_next hx, putO_next hx]
     exact f1
    ·rw [← hn]
     refine row_of g4 fun b hb => hk.block b (g4.lt b hb).2 fun hm => ?_
     have h1 := (g4.lt b hb).1
     have h2 := g8 b hb
     rcases g3 b hm with h | h
     ·have := hlts b (by simp [h]); omega
     ·omega
   unfold itV at hC
   rw [hW4] at hC
   have HC := hid hC
   have hji : (j : Int) < (n : Int) := by omega
   clear hx g1 g2 g3 g4 g5 g6 g7 g8 hcell hW4 hb4 hC
   obtain ⟨wo, hwo⟩ : ∃ wo, wo = wr := ⟨_, rfl⟩
   subst hwo
   go_wp2_with fail
   (with_reducible refine HC.out.mono ?_)
   rintro r W5 ⟨rfl, hI5⟩
   have HI5 := hid hI5
   clear hI5 m0 m1 m2 m3 m4 m5 m6
   go_wp2
   go_roundg (n - (j + 1))
   case measure => omega
   case rel => exact ⟨j + 1, by omega, by omega, by go_num, HI5⟩
  ·have hjl : j = n := by omega
   have HJ := hid hjl
   have hji : ¬ ((j : Int) < (n : Int)) := by omega
   clear hjl
   go_wp2
   go_ret2
   obtain ⟨Oj, g1, g2, g3, _⟩ := HI.out
   rw [HJ.out, HX.out.2.2.2.2.1, List.take_length, ← HX.out.2.2.2.2.1] at g1
   exact ⟨rfl, Oj, g1, g2, g3.mono (by have := HS3.out; omega)⟩
theorem omove_no (h : OxI w xb yb s sp sq lp O N L l m) (fr : Bs) (hf : ¬ fr.length ≤ 30) :
  Calls Tryz.prog 37 #[.pointer (some ⟨xb, 0, none⟩), .pointer (some ⟨yb, 0, none⟩), .string (S fr)] w fun r w' => r = .returned (.tuple #[.int .i64 0, .int .i64 2]) ∧ Below w.heap.size w w' := by
 obtain ⟨W2, hW2⟩ : ∃ W2, W2 = (w.alloc (.cells #[.pointer (some ⟨xb, 0, none⟩)] 59)).alloc (.cells #[.pointer (some ⟨yb, 0, none⟩)] 59) := ⟨_, rfl⟩
 have hb2 : Below w.heap.size w W2 := by rw [hW2]; exact ((Below.refl _ w).alloc (Nat.le_refl _) _).alloc (by simp) _
 have hLI := olist_no (h.below hb2) fr [] (fun e => hf e.1)
 rw [show S [] = { data := #[] } from rfl, hW2] at hLI
 have HLI := hid hLI
 have HW2 := hid (⟨hW2, hb2⟩ : _ ∧ _)
 clear h hf hLI hb2 hW2
 go_enter Tryz.func37, Tryz.ntmps37
 go_wp2_with fail
 (with_reducible refine HLI.out.mono ?_)
 rintro r W3 ⟨rfl, hb3⟩
 rw [← HW2.out.1] at hb3
 have HF := hid (HW2.out.2.trans (hb3.mono HW2.out.2.size))
 clear hb3
 go_wp2
 go_ret2
 exact ⟨rfl, HF.out⟩
end
end
section
open Go.RowKit Go.Lib
structure Tb (w W : World) (tb xb yb : Nat) (s : SL) (O : List Nat) (N L : Nat) (l m : List It) (v1 v2 : Value) : Prop where
 i : OxI W xb yb s 1 2 2 O N L l m
 t : Blk W tb 61 #[.pointer (some ⟨xb, 0, none⟩), .pointer (some ⟨yb, 0, none⟩), v1, v2]
 nt : tb ∉ xb :: yb :: s.sb :: s.tb :: O
 b : Below w.heap.size w W
 o : ∀ b ∈ tb :: xb :: yb :: s.sb :: s.tb :: O, w.heap.size ≤ b
section
variable {w W W' : World} {tb xb yb : Nat} {s : SL} {O O' : List Nat} {N L N' L' : Nat} {l m l' m' : List It} {v1 v2 : Value}
theorem Tb.below (h : Tb w W tb xb yb s O N L l m v1 v2) (hb : Below W.heap.size W W') : Tb w W' tb xb yb s O N L l m v1 v2 :=
 ⟨h.i.below hb, h.t.below hb h.t.lt, h.nt, h.b.trans (hb.mono h.b.size), h.o⟩
theorem Tb.ntO (h : Tb w W tb xb yb s O N L l m v1 v2) : tb ∉ O := fun hm => h.nt (by simp [hm])
theorem Tb.to (h : Tb w W tb xb yb s O N L l m v1 v2) (hk : Kp O W W') : Below w.heap.size w W' := h.b.trans (hk.to_below h.b.size (fun x hx => h.o x (by simp [hx])))
theorem Tb.turn (h : Tb w W tb xb yb s O N L l m v1 v2) (hk : Kp O W W') (hg : Gr O W.heap.size O') (hi : OxI W' xb yb s 1 2 2 O' N' L' l' m') : Tb w W' tb xb yb s O' N' L' l' m' v1 v2 := by
 have hnt := h.nt
 simp only [List.mem_cons, not_or] at hnt
 refine ⟨hi, h.t.kp hk hnt.2.2.2.2, ?_, h.to hk, fun b hm => ?_⟩
 ·simp only [List.mem_cons, not_or]
  exact ⟨hnt.1, hnt.2.1, hnt.2.2.1, hnt.2.2.2.1, hg.out h.t.lt hnt.2.2.2.2⟩
 ·have ho := h.o
  have hz := h.b.size
  simp only [List.mem_cons] at hm ho
  rcases hm with e | e | e | e | e | e
  ·exact ho b (.inl e)
  ·exact ho b (.inr (.inl e))
  ·exact ho b (.inr (.inr (.inl e)))
  ·exact ho b (.inr (.inr (.inr (.inl e))))
  ·exact ho b (.inr (.inr (.inr (.inr (.inl e)))))
  ·rcases hg b e with e | e
   ·exact ho b (.inr (.inr (.inr (.inr (.inr e)))))
   ·omega
theorem Tb.c (h : Tb w W tb xb yb s O N L l m v1 v2) : W.cell? ⟨tb, 0, none⟩ = some (.pointer (some ⟨xb, 0, none⟩)) ∧ W.cell? ⟨tb, 1, none⟩ = some (.pointer (some ⟨yb, 0, none⟩)) ∧ W.cell? ⟨tb, 2, none⟩ = some v1 ∧ W.cell? ⟨tb, 3, none⟩ = some v2 := ⟨h.t.cell 0, h.t.cell 1, h.t.cell 2, h.t.cell 3⟩
end
set_option maxHeartbeats 4000000 in
theorem begun24_any (w : World) :
  Calls Tryz.prog 32 #[] w fun e w' => ∃ tb xb yb s O, e = .returned (.pointer (some ⟨tb, 0, none⟩)) ∧ Tb w w' tb xb yb s O 0 0 [] [] (.slice none 0 0) (.slice none 0 0) := by
 have HB := hid (begun_any w)
 have HOa := hid (fun s W => oof_a s 2 (by omega) W)
 have HOb := hid (fun s W => oof_b s 2 (by omega) W)
 go_enter Tryz.func32, Tryz.ntmps32
 go_wp2_with fail
 (with_reducible refine HB.out.mono ?_)
 rintro r W1 ⟨s, O, rfl, hS, hb, ho⟩
 have H1 := hid (⟨hS, hb, ho⟩ : _ ∧ _ ∧ _)
 clear hS hb ho
 go_wp2_with fail
 (with_reducible refine (HOa.out _ _).mono ?_)
 rintro r W2 ⟨rfl, hw2⟩
 have HW2 := hid hw2
 clear hw2
 go_wp2_with fail
 (with_reducible refine (HOb.out _ _).mono ?_)
 rintro r W3 ⟨rfl, hw3⟩
 have HW3 := hid hw3
 clear hw3
 go_wp2
 go_ret
 obtain ⟨hS, hb, ho⟩ := H1.out
 have hw2 := HW2.out
 have hw3 := HW3.out
 have hb2 : Below W1.heap.size W1 W2 := by rw [← hw2]; exact (Below.refl _ W1).alloc (Nat.le_refl _) _
 have hX2 : OxX W2 W1.heap.size s 1 2 := by rw [← hw2]; exact Blk.new W1 _ _
 have hb3 : Below W2.heap.size W2 W3 := by rw [← hw3]; exact (Below.refl _ W2).alloc (Nat.le_refl _) _
 have hX3 : OxX W3 W2.heap.size s 2 2 := by rw [← hw3]; exact Blk.new W2 _ _
 have hlt := hS.lts
 have hs12 : W1.heap.size < W2.heap.size := Blk.lt hX2
 have hs23 : W2.heap.size < W3.heap.size := Blk.lt hX3
 have hs01 := hb.size
 have hI3 : OxI W3 W1.heap.size W2.heap.size s 1 2 2 O 0 0 [] [] := ⟨Blk.below hX2 hb3 hs12, hX3, fun hm => by have := hlt _ hm; omega, fun hm => by have := hlt _ hm; omega, by omega, by omega, [], (hS.below hb2).below hb3, OxM.nil _ _, OxM.nil _ _, by simp [longs], by simp⟩
 refine ⟨W3.heap.size, W1.heap.size, W2.heap.size, s, O, rfl, hI3.below ((Below.refl _ W3).alloc (Nat.le_refl _) _), Blk.new W3 _ _, fun hm => ?_, ((hb.trans (hb2.mono hb.size)).trans (hb3.mono (by omega))).trans (((Below.refl _ W3).alloc (Nat.le_refl _) _).mono (by omega)), fun b hm => ?_⟩
 ·rcases List.mem_cons.1 hm with e | hm
  ·omega
  rcases List.mem_cons.1 hm with e | hm
  ·omega
  have := hlt _ hm; omega
 ·rcases List.mem_cons.1 hm with rfl | hm
  ·omega
  rcases List.mem_cons.1 hm with rfl | hm
  ·omega
  rcases List.mem_cons.1 hm with rfl | hm
  ·omega
  exact ho b hm
set_option maxHeartbeats 2000000 in
theorem item24_any (x : It) (w : World) : Calls Tryz.prog 35 #[itV x] w fun e w' => e = .returned (itV x) ∧ Below w.heap.size w w' := by
 unfold itV
 have HB := hid (fun o1 o2 => ((Below.refl _ w).alloc (Nat.le_refl _) o1).alloc (by simp) o2)
 go_enter Tryz.func35, Tryz.ntmps35
 go_wp2
 refine bodyPost_ret (v := .agg #[.string (S x.c), .int .i64 x.k, .float .f64 x.e.t, .int .i64 x.e.src, .int .i64 x.e.n, .int .i64 x.e.dst, .int .i64 x.e.pay]) (by simp [results, Tryz.results35, go_sem]) rfl ?_
 exact ⟨rfl, HB.out _ _⟩
def c24 : Bs := [48, 49, 50, 51, 52, 53, 54, 55, 56, 57, 48, 49, 50, 51, 52, 53, 54, 55, 56, 57, 48, 49, 50, 51, 52]
def aw1 : It := ⟨c24, 1, ⟨0, 0, 0, 0, 7⟩⟩
def aw2 : It := ⟨c24, 0, ⟨0, 0, 0, 0, 6⟩⟩
theorem aw1_ok : aw1.right ∧ aw1.e.ok := ⟨⟨by decide, by decide⟩, by unfold Ev.ok; decide⟩
theorem aw2_ok : aw2.right ∧ aw2.e.ok := ⟨⟨by decide, by decide⟩, by unfold Ev.ok; decide⟩
theorem aw_in : insideO (setO (setO [] aw1.nrm) aw2.nrm) c24 [] = [aw2, aw1] := by rfl
theorem aw_fold : [aw2, aw1].foldl setO [] = [aw2, aw1] := by rfl
theorem aw_all : insideO [aw2, aw1] [] [] = [aw2, aw1] := by rfl
set_option maxHeartbeats 8000000 in
theorem awake24_any (w : World) :
  Calls Tryz.prog 33 #[] w fun e w' => e = .returned (.bool true) ∧ Below w.heap.size w w' := by
 have HB := hid (begun24_any w)
 go_enter Tryz.func33, Tryz.ntmps33
 go_wp2_with fail
 (with_reducible refine HB.out.mono ?_)
 rintro r W1 ⟨tb, xb, yb, s, O, rfl, hT⟩
 have HT1 := hid hT
 have HP := hid (oput_any hT.i aw1 aw1_ok.1 aw1_ok.2 (.inl (by omega)))
 obtain ⟨t0, t1, _, _⟩ := hT.c
 clear hT
 rw [show itV aw1 = .agg #[.string { data := #[48, 49, 50, 51, 52, 53, 54, 55, 56, 57, 48, 49, 50, 51, 52, 53, 54, 55, 56, 57, 48, 49, 50, 51, 52] }, .int .i64 1, .float .f64 0, .int .i64 0, .int .i64 0, .int .i64 0, .int .i64 7] from rfl] at HP
 go_wp2_with fail
 (with_reducible refine HP.out.mono ?_)
 rintro r W2 ⟨O2, rfl, hI2, hk2, hg2⟩
 have HT2 := hid (HT1.out.turn hk2 hg2 hI2)
 have HP2 := hid (oput_any hI2 aw2 aw2_ok.1 aw2_ok.2 (.inl (by omega)))
 rw [show itV aw2 = .agg #[.string { data := #[48, 49, 50, 51, 52, 53, 54, 55, 56, 57, 48, 49, 50, 51, 52, 53, 54, 55, 56, 57, 48, 49, 50, 51, 52] }, .int .i64 0, .float .f64 0, .int .i64 0, .int .i64 0, .int .i64 0, .int .i64 6] from rfl] at HP2
 clear hI2 hk2 hg2 HT1 t0 t1
 obtain ⟨t0, t1, _, _⟩ := HT2.out.c
 go_wp2_with fail
 (with_reducible refine HP2.out.mono ?_)
 rintro r W3 ⟨O3, rfl, hI3, hk3, hg3⟩
 have HT3 := hid ((HT2.out.turn hk3 hg3 hI3).below (below_drewN (Below.refl W3.heap.size W3) 1))
 have HM := hid (omove_any HT3.out.i (Nat.le_trans HT3.out.i.len (by omega)) c24 (by decide) (fun j hj => by rw [aw_in] at hj; exact .inl (by simp at hj; omega)))
 rw [aw_in, aw_fold, show S c24 = { data := #[48, 49, 50, 51, 52, 53, 54, 55, 56, 57, 48, 49, 50, 51, 52, 53, 54, 55, 56, 57, 48, 49, 50, 51, 52] } from rfl] at HM
 obtain ⟨u0, u1, _, _⟩ := (HT2.out.turn hk3 hg3 hI3).c
 have HCK : Hid (∀ W', Kp O3 W3.drew W' → W'.cell? ⟨tb, 0, none⟩ = some (.pointer (some ⟨xb, 0, none⟩)) ∧ W'.cell? ⟨tb, 1, none⟩ = some (.pointer (some ⟨yb, 0, none⟩))) := hid fun W' hk => by
  have := HT3.out.t.kp hk HT3.out.ntO
  exact ⟨this.cell 0, this.cell 1⟩
 clear hI3 hk3 hg3 HT2 t0 t1
 go_wp2
 go_region_held3 (fun W => W.cell? ⟨tb, 0, none⟩ = some (.pointer (some ⟨xb, 0, none⟩)) ∧ W.cell? ⟨tb, 1, none⟩ = some (.pointer (some ⟨yb, 0, none⟩))) (first | exact hck5 | exact ⟨u0, u1⟩)
  (first
   | (go_at_call 37; refine HM.out.mono ?_; rintro r W4 ⟨O4, rfl, hI4, hk4, hg4⟩; have hck5 := HCK.out W4 hk4))
 all_goals
  have HT4 := hid (HT3.out.turn hk4 hg4 hI4)
  have HL := hid (olist_any hI4.swap (by simp) [] [] (by simp) (by simp))
  rw [aw_all, show S [] = { data := #[] } from rfl] at HL
  obtain ⟨t0, t1⟩ := hck5
  clear hI4 hk4 hg4 u0 u1
  go_wp2_with fail
  (with_reducible refine HL.out.mono ?_)
  rintro r W5 ⟨v5, rfl, hI5, hk5, hO5⟩
  have HF := hid (HT4.out.to hk5)
  obtain ⟨g, c5, rfl, hg1, hg2, hg3⟩ := own_form hO5 (by simp)
  have q0 : W5.cell? ⟨g, 6, none⟩ = some (.int .i64 6) := own_at hO5 rfl (j := 6) rfl
  have q1 : W5.cell? ⟨g, 8, none⟩ = some (.int .i64 1) := own_at hO5 rfl (j := 8) rfl
  clear hI5 hk5 hO5 t0 t1
  go_wp2
  go_ret
  exact ⟨rfl, HF.out⟩
end
section
open Go.ChangeShapes Go.WideShapes Go.ChangeAt Go.RowKit Go.Deep
theorem cellsStr : Tryz.prog.cellsOf 9 = 1 := by kernel_rfl
theorem cellsItem24 : Tryz.prog.cellsOf 72 = 7 := by kernel_rfl
theorem cellsAct24 : Tryz.prog.cellsOf 84 = 11 := by kernel_rfl
section
variable {H : Type} {enc : TypeId × Value → H} {w : World} {spare : Nat → Bool} {held : Bool} {fuel : Nat}
theorem leaf_str {P : Program} {base : Nat} {t : TypeId} {n : Nat} {c : Value} {x : DataW H × List MemPlace} (hu : P.underlying t = some .string) (h : DataW.trod enc P w base spare held n t [c] = some x) : ∃ k : Bs, c = .string (S k) := by
 cases n with
 | zero => cases h
 | succ n =>
  cases c <;> simp [DataW.trod, hu] at h
  rename_i z
  exact ⟨z.data.toList, rfl⟩
theorem open_item24 {cs : List Value} {x : DataW H × List MemPlace} (h : DataW.trod enc Tryz.prog w 0 spare held fuel 72 cs = some x) :
  ∃ y : It, cs = itC y ∧ y.e.ok ∧ -9223372036854775808 ≤ y.k ∧ y.k < 9223372036854775808 := by
 cases fuel with
 | zero => cases h
 | succ n =>
  obtain ⟨hl, hf⟩ := trod_fields Tryz.underlying72 h
  rw [cellsItem24] at hl
  match cs, hl with
  | [c0, c1, c2, c3, c4, c5, c6], _ =>
   simp [cellsStr, cellsInt, cellsEvent] at hf
   obtain ⟨⟨_, _, h0⟩, ⟨_, _, h1⟩, ⟨_, _, h2⟩⟩ := hf
   obtain ⟨k, rfl⟩ := leaf_str Tryz.underlying9 h0
   obtain ⟨z, rfl, hz⟩ := leaf_int Tryz.underlying3 h1
   obtain ⟨e, he, hok⟩ := open_event h2
   exact ⟨⟨k, z, e⟩, by rw [he]; rfl, hok, wf_int hz⟩
theorem open_act24 {cs : List Value} {x : DataW H × List MemPlace} (h : DataW.trod enc Tryz.prog w 0 spare held fuel 84 cs = some x) :
  ∃ (kd : Int) (bb : Bool) (y : It) (fr to : Bs), cs = [.int .i64 kd, .bool bb] ++ itC y ++ [.string (S fr), .string (S to)] ∧ y.e.ok ∧ -9223372036854775808 ≤ y.k ∧ y.k < 9223372036854775808 := by
 cases fuel with
 | zero => cases h
 | succ n =>
  obtain ⟨hl, hf⟩ := trod_fields Tryz.underlying84 h
  rw [cellsAct24] at hl
  match cs, hl with
  | [c0, c1, c2, c3, c4, c5, c6, c7, c8, c9, c10], _ =>
   simp [cellsStr, cellsInt, cellsBool, cellsItem24] at hf
   obtain ⟨⟨_, _, h0⟩, ⟨_, _, h1⟩, ⟨_, _, h2⟩, ⟨_, _, h3⟩, ⟨_, _, h4⟩⟩ := hf
   obtain ⟨kd, rfl, _⟩ := leaf_int Tryz.underlying3 h0
   obtain ⟨bb, rfl⟩ := leaf_bool Tryz.underlying4 h1
   obtain ⟨y, he, hok, hk⟩ := open_item24 h2
   obtain ⟨fr, rfl⟩ := leaf_str Tryz.underlying9 h3
   obtain ⟨to, rfl⟩ := leaf_str Tryz.underlying9 h4
   refine ⟨kd, bb, y, fr, to, ?_, hok, hk⟩
   rw [← he]
   rfl
end
end
section
open Go.RowKit Go.Lib
theorem number02_any (t : Nat) (w : World) :
  Calls Tryz.prog 150 #[.float .f64 t] w fun e w' => e = .returned (.bool (!fnan t)) ∧ w = w' := by
 have hq := feq_self t
 go_enter Tryz.func150, Tryz.ntmps150
 go_wp2
 go_ret
 exact ⟨rfl, rfl⟩
theorem norm02_any (b : Nat) (h : fnan b = false) (hb : b < 18446744073709551616) (w : World) :
  Calls Tryz.prog 97 #[.float .f64 b] w fun e w' => e = .returned (.tuple #[.float .f64 (tn b), .int .i64 0]) ∧ w = w' := by
 have h0 := feq_zero h hb
 have HN := hid (fun W => number02_any b W)
 rw [h] at HN
 by_cases hz : b = 0 ∨ b = 9223372036854775808
 ·have hq : feq b 0 = true := by rw [h0, decide_eq_true hz]
  have ht : tn b = 0 := by unfold tn; split <;> omega
  rw [ht]
  clear h0 hz ht
  go_enter Tryz.func97, Tryz.ntmps97
  go_wp2_with (go_at_call 150; refine (HN.out _).mono ?_; rintro e w' ⟨rfl, rfl⟩)
  go_ret2
  exact ⟨rfl, rfl⟩
 ·have hq : feq b 0 = false := by rw [h0, decide_eq_false hz]
  have ht : tn b = b := by unfold tn; rw [if_neg (by omega)]
  rw [ht]
  clear h0 hz ht
  go_enter Tryz.func97, Tryz.ntmps97
  go_wp2_with (go_at_call 150; refine (HN.out _).mono ?_; rintro e w' ⟨rfl, rfl⟩)
  go_ret2
  exact ⟨rfl, rfl⟩
theorem right_cases (e : Ev) : e.right ∨ fnan e.t = true ∨ (fnan e.t = false ∧ ¬ -1 ≤ e.src) ∨ (fnan e.t = false ∧ -1 ≤ e.src ∧ ¬ e.src < 6) ∨ (fnan e.t = false ∧ -1 ≤ e.src ∧ e.src < 6 ∧ ¬ 0 ≤ e.n) ∨ (fnan e.t = false ∧ -1 ≤ e.src ∧ e.src < 6 ∧ 0 ≤ e.n ∧ ¬ e.n ≤ 1099511627776)
  ∨ (fnan e.t = false ∧ -1 ≤ e.src ∧ e.src < 6 ∧ 0 ≤ e.n ∧ e.n ≤ 1099511627776 ∧ ¬ 0 ≤ e.dst) ∨ (fnan e.t = false ∧ -1 ≤ e.src ∧ e.src < 6 ∧ 0 ≤ e.n ∧ e.n ≤ 1099511627776 ∧ 0 ≤ e.dst ∧ ¬ e.dst < 6) := by
 unfold Ev.right
 cases h0 : fnan e.t
 ·by_cases c0 : -1 ≤ e.src <;> by_cases c1 : e.src < 6 <;> by_cases c2 : 0 ≤ e.n <;> by_cases c3 : e.n ≤ 1099511627776 <;> by_cases c4 : 0 ≤ e.dst <;> by_cases c5 : e.dst < 6 <;> simp [c0, c1, c2, c3, c4, c5]
 ·simp
set_option maxHeartbeats 8000000 in
theorem right20_any (e : Ev) (w : World) :
  Calls Tryz.prog 68 #[evV e] w fun r w' => r = .returned (.bool (decide e.right)) ∧ Below w.heap.size w w' := by
 unfold evV
 have hb1 : Below w.heap.size w (w.alloc (.cells #[.float .f64 e.t, .int .i64 e.src, .int .i64 e.n, .int .i64 e.dst, .int .i64 e.pay] 67)) := (Below.refl _ w).alloc (Nat.le_refl _) _
 have HB := hid hb1
 clear hb1
 have hq := feq_self e.t
 rcases right_cases e with h | h
 ·rw [decide_eq_true h]
  obtain ⟨h0, c0, c1, c2, c3, c4, c5⟩ := h
  rw [h0] at hq
  have d1 : e.src ≤ 5 := by omega
  have d5 : e.dst ≤ 5 := by omega
  clear c1 c5
  go_enter Tryz.func68, Tryz.ntmps68
  go_wp2
  go_ret
  refine ⟨?_, HB.out⟩
  first | rfl | exact congrArg (fun b => Ending.returned (.bool b)) (decide_eq_true (by omega))
 ·have hn : ¬ e.right := by
   rintro ⟨h0, c0, c1, c2, c3, c4, c5⟩
   simp [h0, c0, c1, c2, c3, c4, c5] at h
  rw [decide_eq_false hn]
  clear hn
  rcases h with h0 | ⟨h0, c0⟩ | ⟨h0, c0, c1⟩ | ⟨h0, c0, c1, c2⟩ | ⟨h0, c0, c1, c2, c3⟩ | ⟨h0, c0, c1, c2, c3, c4⟩ | ⟨h0, c0, c1, c2, c3, c4, c5⟩
  all_goals
   rw [h0] at hq
   try have d1 : e.src ≤ 5 := by omega
   try have d1' : ¬ e.src ≤ 5 := by omega
   try have d5' : ¬ e.dst ≤ 5 := by omega
   go_enter Tryz.func68, Tryz.ntmps68
   go_wp2
   go_ret
   refine ⟨?_, HB.out⟩
   first | rfl | exact congrArg (fun b => Ending.returned (.bool b)) (decide_eq_false (by omega))
end
section
open Go.RowKit Go.Lib
set_option maxHeartbeats 8000000 in
theorem same02_any (t : Nat) (src n : Int) (w : World) :
  Calls Tryz.prog 101 #[.agg #[.float .f64 t, .int .i64 src, .int .i64 n], .agg #[.float .f64 t, .int .i64 src, .int .i64 n]] w fun r w' => r = .returned (.bool true) ∧ Below w.heap.size w w' := by
 obtain ⟨W2, hW2⟩ : ∃ W2, W2 = (w.alloc (.cells #[.float .f64 t, .int .i64 src, .int .i64 n] 65)).alloc (.cells #[.float .f64 t, .int .i64 src, .int .i64 n] 65) := ⟨_, rfl⟩
 have hb2 : Below w.heap.size w W2 := by rw [hW2]; exact ((Below.refl _ w).alloc (Nat.le_refl _) _).alloc (by simp) _
 have k1 : Blk W2 w.heap.size 65 #[.float .f64 t, .int .i64 src, .int .i64 n] := by rw [hW2]; exact (Blk.new w _ _).alloc _
 have k2 : Blk W2 (w.heap.size + 1) 65 #[.float .f64 t, .int .i64 src, .int .i64 n] := by
  rw [hW2]
  have := Blk.new (w.alloc (.cells #[.float .f64 t, .int .i64 src, .int .i64 n] 65)) 65 #[.float .f64 t, .int .i64 src, .int .i64 n]
  simpa using this
 have HC : Hid (∀ W, BelC W2 W → W.cell? ⟨w.heap.size, 0, none⟩ = some (.float .f64 t) ∧ W.cell? ⟨w.heap.size, 1, none⟩ = some (.int .i64 src) ∧ W.cell? ⟨w.heap.size, 2, none⟩ = some (.int .i64 n) ∧ W.cell? ⟨w.heap.size + 1, 0, none⟩ = some (.float .f64 t) ∧ W.cell? ⟨w.heap.size + 1, 1, none⟩ = some (.int .i64 src) ∧ W.cell? ⟨w.heap.size + 1, 2, none⟩ = some (.int .i64 n)) := hid fun W hW => by
  have q1 := hW.blk k1
  have q2 := hW.blk k2
  exact ⟨q1.cell 0, q1.cell 1, q1.cell 2, q2.cell 0, q2.cell 1, q2.cell 2⟩
 have HX := hid (⟨hW2, hb2⟩ : _ ∧ _)
 clear hW2 hb2 k1 k2
 go_enter Tryz.func101, Tryz.ntmps101
 go_wp2
 rw [← HX.out.1]
 refine qC_region (by kernel_rfl) (by kernel_rfl) (BelC W2) (BelC.drew W2) ?_
 repeat (first | (refine qC_none rfl (fun K hK => ?_); apply Exists.intro; refine ⟨fun w0 hw0 => ?_, ?_⟩; (focus (obtain ⟨q0, q1, q2, r0, r1, r2⟩ := HC.out w0 hw0; go_simp; first | exact rfl | exact ⟨rfl, rfl⟩ | (fail))); go_simp; refine hK _ ?_; clear hK K) | (refine qC_yes _ _ _ rfl rfl (by rfl) (fun K hK => ?_); apply Exists.intro; refine ⟨fun w0 hw0 => ?_, ?_⟩; (focus (obtain ⟨q0, q1, q2, r0, r1, r2⟩ := HC.out w0 hw0; go_simp; first | exact rfl | exact ⟨rfl, rfl⟩ | (fail))); go_simp; refine hK _ ?_; clear hK K) | (refine qC_no _ _ _ rfl rfl (by rfl) (fun K hK => ?_); go_simp; refine hK _ ?_; clear hK K) | (refine qC_undef _ _ _ rfl rfl (by rfl) (fun K hK => ?_); go_simp; refine hK _ ?_; clear hK K))
 refine qC_nil ?_
 intro w5 hw5
 have HF := hid (HX.out.2.trans (hw5.out.mono HX.out.2.size))
 clear hw5
 go_wp2
 go_ret
 exact ⟨by first | rfl | simp, HF.out⟩
set_option maxHeartbeats 4000000 in
theorem same20_any (e : Ev) (w : World) :
  Calls Tryz.prog 39 #[evV e, evV e] w fun r w' => r = .returned (.bool true) ∧ Below w.heap.size w w' := by
 unfold evV
 obtain ⟨W2, hW2⟩ : ∃ W2, W2 = (w.alloc (.cells #[.float .f64 e.t, .int .i64 e.src, .int .i64 e.n, .int .i64 e.dst, .int .i64 e.pay] 67)).alloc (.cells #[.float .f64 e.t, .int .i64 e.src, .int .i64 e.n, .int .i64 e.dst, .int .i64 e.pay] 67) := ⟨_, rfl⟩
 have hb2 : Below w.heap.size w W2 := by rw [hW2]; exact ((Below.refl _ w).alloc (Nat.le_refl _) _).alloc (by simp) _
 have k1 : Blk W2 w.heap.size 67 #[.float .f64 e.t, .int .i64 e.src, .int .i64 e.n, .int .i64 e.dst, .int .i64 e.pay] := by rw [hW2]; exact (Blk.new w _ _).alloc _
 have k2 : Blk W2 (w.heap.size + 1) 67 #[.float .f64 e.t, .int .i64 e.src, .int .i64 e.n, .int .i64 e.dst, .int .i64 e.pay] := by
  rw [hW2]
  have := Blk.new (w.alloc (.cells #[.float .f64 e.t, .int .i64 e.src, .int .i64 e.n, .int .i64 e.dst, .int .i64 e.pay] 67)) 67 #[.float .f64 e.t, .int .i64 e.src, .int .i64 e.n, .int .i64 e.dst, .int .i64 e.pay]
  simpa using this
 have HS := hid (same02_any e.t e.src e.n W2)
 rw [hW2] at HS
 have HX := hid (⟨hW2, hb2, k1, k2⟩ : _ ∧ _ ∧ _ ∧ _)
 clear hW2 hb2 k1 k2
 go_enter Tryz.func39, Tryz.ntmps39
 go_wp2_with fail
 (with_reducible refine HS.out.mono ?_)
 rintro r W3 ⟨rfl, hb3⟩
 rw [← HX.out.1] at hb3
 have q1 := HX.out.2.2.1.below hb3 HX.out.2.2.1.lt
 have q2 := HX.out.2.2.2.below hb3 HX.out.2.2.2.lt
 have m3 : W3.cell? ⟨w.heap.size, 3, none⟩ = some (.int .i64 e.dst) := q1.cell 3
 have m4 : W3.cell? ⟨w.heap.size, 4, none⟩ = some (.int .i64 e.pay) := q1.cell 4
 have n3 : W3.cell? ⟨w.heap.size + 1, 3, none⟩ = some (.int .i64 e.dst) := q2.cell 3
 have n4 : W3.cell? ⟨w.heap.size + 1, 4, none⟩ = some (.int .i64 e.pay) := q2.cell 4
 have HF := hid (HX.out.2.1.trans (hb3.mono HX.out.2.1.size))
 clear hb3 q1 q2
 go_wp2
 go_ret
 exact ⟨by first | rfl | simp, HF.out⟩
set_option maxHeartbeats 4000000 in
theorem less24_any (x y : It) (w : World) :
  Calls Tryz.prog 98 #[itV x, itV y] w fun r w' => r = .returned (.bool (decide (x.lt y))) ∧ Below w.heap.size w w' := by
 unfold itV
 have HB := hid (fun o1 o2 => ((Below.refl _ w).alloc (Nat.le_refl _) o1).alloc (by simp) o2)
 by_cases h1 : x.c < y.c
 ·have hb : Op.bytesLess x.c y.c = true := by rw [bl]; exact decide_eq_true h1
  rw [decide_eq_true (show x.lt y from .inl h1)]
  clear h1
  go_enter Tryz.func98, Tryz.ntmps98
  go_wp2
  go_ret
  exact ⟨rfl, HB.out _ _⟩
 ·have hb : Op.bytesLess x.c y.c = false := by rw [bl]; exact decide_eq_false h1
  by_cases h2 : x.c = y.c
  ·have he : (x.c == y.c) = true := beq_iff_eq.2 h2
   have e : decide (x.lt y) = decide (x.k < y.k) := decide_eq_decide.2 ⟨fun h => h.elim (fun h => absurd h h1) (fun h => h.2), fun h => .inr ⟨h2, h⟩⟩
   rw [e]
   clear h1 h2 e
   go_enter Tryz.func98, Tryz.ntmps98
   go_wp2
   go_ret
   exact ⟨by first | rfl | simp, HB.out _ _⟩
  ·have he : (x.c == y.c) = false := by simpa using h2
   rw [decide_eq_false (show ¬ x.lt y from fun h => h.elim h1 (fun h => h2 h.1))]
   clear h1 h2
   go_enter Tryz.func98, Tryz.ntmps98
   go_wp2
   go_ret
   exact ⟨by first | rfl | simp, HB.out _ _⟩
set_option maxHeartbeats 4000000 in
theorem right24_any (x : It) (w : World) :
  Calls Tryz.prog 102 #[itV x] w fun r w' => r = .returned (.bool (decide x.right)) ∧ Below w.heap.size w w' := by
 have HR := hid (fun W => right20_any x.e W)
 unfold evV at HR
 unfold itV
 have hb1 : Below w.heap.size w (w.alloc (.cells #[.string (S x.c), .int .i64 x.k, .float .f64 x.e.t, .int .i64 x.e.src, .int .i64 x.e.n, .int .i64 x.e.dst, .int .i64 x.e.pay] 72)) := (Below.refl _ w).alloc (Nat.le_refl _) _
 have HB := hid hb1
 clear hb1
 have hcs : (¬ x.c.length = 25) ∨ (x.c.length = 25 ∧ ¬ 0 ≤ x.k) ∨ (x.c.length = 25 ∧ 0 ≤ x.k ∧ ¬ x.k ≤ 255) ∨ (x.c.length = 25 ∧ 0 ≤ x.k ∧ x.k ≤ 255) := by omega
 rcases hcs with h | ⟨h, h1⟩ | ⟨h, h1, h2⟩ | ⟨h, h1, h2⟩
 ·rw [decide_eq_false (show ¬ x.right from fun hr => h hr.1.1)]
  have hi : ¬ ((x.c.length : Int) = 25) := by omega
  clear h
  go_enter Tryz.func102, Tryz.ntmps102
  go_wp2
  go_ret
  exact ⟨by first | rfl | simp [hi], HB.out⟩
 ·rw [decide_eq_false (show ¬ x.right from fun hr => h1 hr.1.2.1)]
  have hi : ((x.c.length : Int) = 25) := by omega
  clear h
  go_enter Tryz.func102, Tryz.ntmps102
  go_wp2
  go_ret
  exact ⟨by first | rfl | simp [hi, h1], HB.out⟩
 ·rw [decide_eq_false (show ¬ x.right from fun hr => h2 hr.1.2.2)]
  have hi : ((x.c.length : Int) = 25) := by omega
  clear h
  go_enter Tryz.func102, Tryz.ntmps102
  go_wp2
  go_ret
  exact ⟨by first | rfl | simp [hi, h1, h2], HB.out⟩
 ·rw [show decide x.right = decide x.e.right from decide_eq_decide.2 ⟨fun hr => hr.2, fun hr => ⟨⟨h, h1, h2⟩, hr⟩⟩]
  have hi : ((x.c.length : Int) = 25) := by omega
  clear h
  go_enter Tryz.func102, Tryz.ntmps102
  go_wp2_with fail
  (with_reducible refine (HR.out _).mono ?_)
  rintro r W2 ⟨rfl, hb2⟩
  have HF := hid (HB.out.trans (hb2.mono (by simp)))
  clear hb2
  go_wp2
  go_ret
  exact ⟨by first | rfl | simp, HF.out⟩
end
end Go.Proofs.YtnnghcooidjlhaaGreat
