/- Parts of the proof: Zw Zx Zy. -/
import Derived.Test.YtnnghcooidjlhaaGreatE37
set_option linter.all false
set_option maxRecDepth 100000
namespace Go.Proofs.YtnnghcooidjlhaaGreat
section
open Go.RowKit Go.Lib
def ac24 (kd : Int) (bb : Bool) (x : It) (fr to : Bs) : Value := .agg #[.int .i64 kd, .bool bb, .string (S x.c), .int .i64 x.k, .float .f64 x.e.t, .int .i64 x.e.src, .int .i64 x.e.n, .int .i64 x.e.dst, .int .i64 x.e.pay, .string (S fr), .string (S to)]
section
variable {w W W' : World} {tb xb yb : Nat} {s : SL} {n k : Nat} {v1 v2 : Value} {kb : List (Nat × TypeId × Array Value)} {ex : List (Value × List It)} {all la lb : List It}
theorem MvD.adds (h : MvD w W tb xb yb s n k v1 v2 kb ex la lb) (hb : Below W.heap.size W W') (ex2 : List (Value × List It)) (ho : ∀ z ∈ ex2, ∃ T, W'.ownsRow W.heap.size T 7 z.1 z.2.length (rowV itC z.2)) : MvD w W' tb xb yb s n k v1 v2 kb (ex2 ++ ex) la lb := by
 obtain ⟨O, N, L, h1, h2, h3, h4, h5⟩ := h.below hb
 obtain ⟨O0, N0, L0, g1, g2, g3, g4, g5⟩ := h
 refine ⟨O0, N0, L0, g1.below hb, g2, g3, fun z hz => ?_, fun z hz => ⟨(g5 z hz).1.below hb (g5 z hz).1.lt, (g5 z hz).2⟩⟩
 rcases List.mem_append.1 hz with hz | hz
 ·obtain ⟨T, ho⟩ := ho z hz
  refine ⟨Vw.of_own itC_len ho rfl, fun b e => ⟨fun hm => ?_, (ho.lt b e).2⟩⟩
  have q1 := (ho.lt b e).1
  rcases List.mem_cons.1 hm with rfl | hm
  ·have := g1.t.lt; omega
  ·have q2 := g1.i.lts b (by simp [hm])
   omega
 ·exact ⟨(g4 z hz).1.below hb, fun b e => ⟨((g4 z hz).2 b e).1, Nat.lt_of_lt_of_le ((g4 z hz).2 b e).2 hb.size⟩⟩
theorem mvD_ref (h : MvD w W tb xb yb s n k v1 v2 kb ex la lb) {p : Option Addr} {m c : Nat} (hz : (Value.slice p m c, all) ∈ ex) (hm : m = all.length) (hl : m ≤ 1000) (a : It) (ho : a.e.ok) :
  Calls Tryz.prog 36 #[.slice p m c, itV a] W fun r w' => ∃ p' m' c', r = .returned (.slice p' m' c') ∧ m' = (put24 all a.n0).length ∧ MvD w w' tb xb yb s n k v1 v2 kb ((.slice p' m' c', put24 all a.n0) :: ex) la lb := by
 refine (put24_any (h.vw hz) hm hl a ho).mono ?_
 rintro r w' ⟨v', rfl, g1, g2⟩
 obtain ⟨p', c', rfl⟩ := own_slice2 g1
 exact ⟨_, _, _, rfl, rfl, h.add g2 g1⟩
end
set_option maxHeartbeats 16000000 in
theorem moves24_ab {w W : World} {tb xb yb : Nat} {s : SL} {n k : Nat} {p1 : Option Addr} {n1 c1 : Nat} {p0 : Option Addr} {n0 c0 : Nat} {la lb : List It} (h : MvD w W tb xb yb s n k (.slice p1 n1 c1) (.slice p0 n0 c0) [] [(.slice p1 n1 c1, la), (.slice p0 n0 c0, lb)] la lb) (hn1 : n1 = la.length) (hn0 : n0 = lb.length) (hk : k ≤ 100) (hr : ∀ N L j, N ≤ n → L ≤ k → j < k → roomO (N + j) L) (kd : Int) (x : It) (fr to : Bs) :
  Calls Tryz.prog 104 #[.pointer (some ⟨tb, 0, none⟩), ac24 kd false x fr to] W fun r w' => r = .returned (.bool true) ∧ ∃ (q1 : Option Addr) (m1 d1 : Nat) (q2 : Option Addr) (m2 d2 : Nat) (la' lb' : List It), m1 = la'.length ∧ m2 = lb'.length ∧ MvD w w' tb xb yb s (n + k) k (.slice q1 m1 d1) (.slice q2 m2 d2) [] [(.slice q1 m1 d1, la'), (.slice q2 m2 d2, lb')] la' lb' := by
 unfold ac24
 obtain ⟨W1, hW1⟩ : ∃ W1, W1 = W.alloc (.cells #[.int .i64 kd, .bool false, .string (S x.c), .int .i64 x.k, .float .f64 x.e.t, .int .i64 x.e.src, .int .i64 x.e.n, .int .i64 x.e.dst, .int .i64 x.e.pay, .string (S fr), .string (S to)] 84) := ⟨_, rfl⟩
 have hb1 : Below W.heap.size W W1 := by rw [hW1]; exact (Below.refl _ W).alloc (Nat.le_refl _) _
 have hB1 : Blk W1 W.heap.size 84 #[.int .i64 kd, .bool false, .string (S x.c), .int .i64 x.k, .float .f64 x.e.t, .int .i64 x.e.src, .int .i64 x.e.n, .int .i64 x.e.dst, .int .i64 x.e.pay, .string (S fr), .string (S to)] := by rw [hW1]; exact Blk.new W _ _
 have hM1 := h.box 84 #[.int .i64 kd, .bool false, .string (S x.c), .int .i64 x.k, .float .f64 x.e.t, .int .i64 x.e.src, .int .i64 x.e.n, .int .i64 x.e.dst, .int .i64 x.e.pay, .string (S fr), .string (S to)]
 rw [← hW1] at hM1
 have HM1 := hid hM1
 have HCT : Hid (∀ W', BelC W1 W' → W'.cell? ⟨tb, 0, none⟩ = some (.pointer (some ⟨xb, 0, none⟩)) ∧ W'.cell? ⟨tb, 1, none⟩ = some (.pointer (some ⟨yb, 0, none⟩)) ∧ W'.cell? ⟨tb, 2, none⟩ = some (.slice p1 n1 c1) ∧ W'.cell? ⟨tb, 3, none⟩ = some (.slice p0 n0 c0)) := hid fun W' hW => by
  have q := hW.blk HM1.out.t
  exact ⟨q.cell 0, q.cell 1, q.cell 2, q.cell 3⟩
 have HX := hid (⟨hW1, hb1, hB1, hn1, hn0, hk, hr⟩ : _ ∧ _ ∧ _ ∧ _ ∧ _ ∧ _ ∧ _)
 have HH := hid h
 clear h hM1 hW1 hb1 hB1 hn1 hn0 hk hr
 go_enter Tryz.func104, Tryz.ntmps104
 go_wp2
 rw [← HX.out.1]
 refine qC_region (by kernel_rfl) (by kernel_rfl) (BelC W1) (BelC.drew W1) ?_
 repeat (first | (refine qC_none rfl (fun K hK => ?_); apply Exists.intro; refine ⟨fun w0 hw0 => ?_, ?_⟩; (focus (obtain ⟨q0, q1, q2, q3⟩ := HCT.out w0 hw0; go_simp; first | exact rfl | exact ⟨rfl, rfl⟩ | (fail))); go_simp; refine hK _ ?_; clear hK K) | (refine qC_yes _ _ _ rfl rfl (by rfl) (fun K hK => ?_); apply Exists.intro; refine ⟨fun w0 hw0 => ?_, ?_⟩; (focus (obtain ⟨q0, q1, q2, q3⟩ := HCT.out w0 hw0; go_simp; first | exact rfl | exact ⟨rfl, rfl⟩ | (fail))); go_simp; refine hK _ ?_; clear hK K) | (refine qC_no _ _ _ rfl rfl (by rfl) (fun K hK => ?_); go_simp; refine hK _ ?_; clear hK K) | (refine qC_undef _ _ _ rfl rfl (by rfl) (fun K hK => ?_); go_simp; refine hK _ ?_; clear hK K))
 refine qC_nil ?_
 intro w2 hw2
 have H2 := hid hw2
 have b1 : w2.cell? ⟨W.heap.size, 1, none⟩ = some (.bool false) := (hw2.blk HX.out.2.2.1).cell 1
 have b9 : w2.cell? ⟨W.heap.size, 9, none⟩ = some (.string (S fr)) := (hw2.blk HX.out.2.2.1).cell 9
 have HM2 := hid (HM1.out.below hw2.out)
 clear hw2
 by_cases hf : fr.length ≤ 30
 case neg =>
  have HMV := hid (mvD_noab HM2.out fr hf)
  have hlong : (30 : Int) < (fr.length : Int) := by omega
  clear hf
  go_wp2_with fail
  (with_reducible refine HMV.out.mono ?_)
  rintro r W3 ⟨rfl, hb3⟩
  have HM3 := hid (HM2.out.below hb3)
  have d9 : W3.cell? ⟨W.heap.size, 9, none⟩ = some (.string (S fr)) := (HM3.out.blk (z := (W.heap.size, 84, #[.int .i64 kd, .bool false, .string (S x.c), .int .i64 x.k, .float .f64 x.e.t, .int .i64 x.e.src, .int .i64 x.e.n, .int .i64 x.e.dst, .int .i64 x.e.pay, .string (S fr), .string (S to)])) (by simp)).cell 9
  clear hb3 b1 b9
  go_wp2
  go_ret
  exact ⟨rfl, p1, n1, c1, p0, n0, c0, la, lb, HX.out.2.2.2.1, HX.out.2.2.2.2.1, (HM3.out.nobox).up (by omega) (Nat.le_refl _)⟩
 case pos =>
  have HMV := hid (mvD_moveab HM2.out (by have := HX.out.2.2.2.2.2.1; omega) HX.out.2.2.2.2.2.2 fr hf)
  have hlong : ¬ (30 : Int) < (fr.length : Int) := by omega
  have HOK := hid HH.out.ok
  have HINS : Hid (∀ y ∈ insideO la fr [], y.right ∧ y.e.ok ∧ y.e.nrm = y.e) := hid fun y hy => HOK.out.1 y (List.mem_filter.1 hy).1
  have HIL : Hid ((insideO la fr []).length ≤ 100) := hid (Nat.le_trans (List.length_filter_le _ _) (Nat.le_trans HOK.out.2.2.1 HX.out.2.2.2.2.2.1))
  have HLL : Hid (lb.length ≤ 100) := hid (Nat.le_trans HOK.out.2.2.2.1 HX.out.2.2.2.2.2.1)
  obtain ⟨ins, hins⟩ : ∃ ins, ins = insideO la fr [] := ⟨_, rfl⟩
  obtain ⟨ou, hou⟩ : ∃ ou, ou = outO la fr [] := ⟨_, rfl⟩
  obtain ⟨nin, hnin⟩ : ∃ nin, nin = ins.length := ⟨_, rfl⟩
  have HN := hid (⟨hins, hou, hnin⟩ : _ ∧ _ ∧ _)
  rw [← hins] at HINS HIL
  rw [← hins, ← hou, ← hnin] at HMV
  clear hf hins hou hnin
  go_wp2_with fail
  (with_reducible refine HMV.out.mono ?_)
  rintro r W3 ⟨rfl, hM3⟩
  have HM3 := hid hM3
  have d9 : W3.cell? ⟨W.heap.size, 9, none⟩ = some (.string (S fr)) := (hM3.blk (z := (W.heap.size, 84, #[.int .i64 kd, .bool false, .string (S x.c), .int .i64 x.k, .float .f64 x.e.t, .int .i64 x.e.src, .int .i64 x.e.n, .int .i64 x.e.dst, .int .i64 x.e.pay, .string (S fr), .string (S to)])) (by simp)).cell 9
  have hWI := within24_any (hM3.vw (z := (.slice p1 n1 c1, la)) (by simp)) HX.out.2.2.2.1 (by have h1 := HX.out.2.2.2.1; have h2 := HOK.out.2.2.1; have h3 := HX.out.2.2.2.2.2.1; omega) (fun y hy => (HOK.out.1 y hy).1.1) fr []
  rw [← HN.out.1, ← HN.out.2.1, show S [] = { data := #[] } from rfl] at hWI
  have HWI := hid hWI
  clear hM3 hWI b1 b9
  go_wp2_with fail
  (with_reducible refine HWI.out.mono ?_)
  rintro r W4 ⟨v4, v5, rfl, hT4⟩
  obtain ⟨f1, f2, f3, f4, f5⟩ := hT4
  rw [← HN.out.2.2] at f2
  obtain ⟨nou, hnou⟩ : ∃ nou, nou = ou.length := ⟨_, rfl⟩
  have HNO := hid hnou
  rw [← hnou] at f3
  obtain ⟨p4, c4, rfl⟩ := own_slice2 f2
  obtain ⟨p5, c5, rfl⟩ := own_slice2 f3
  have HI0 : Hid (n0 = (([] : List It).foldl setO lb).length ∧ MvD w W4 tb xb yb s (n + k) k (.slice p1 n1 c1) (.slice p0 n0 c0) [(W.heap.size, 84, #[.int .i64 kd, .bool false, .string (S x.c), .int .i64 x.k, .float .f64 x.e.t, .int .i64 x.e.src, .int .i64 x.e.n, .int .i64 x.e.dst, .int .i64 x.e.pay, .string (S fr), .string (S to)])] [(.slice p0 n0 c0, ([] : List It).foldl setO lb), (.slice p4 nin c4, ins), (.slice p5 nou c5, ou)] ou (ins.foldl setO lb)) := hid ⟨HX.out.2.2.2.2.1, (HM3.out.adds f1 [(.slice p4 nin c4, ins), (.slice p5 nou c5, ou)] (fun z hz => by
   simp only [List.mem_cons, List.mem_nil_iff, or_false] at hz
   rcases hz with rfl | rfl
   ·exact ⟨_, by rw [← HN.out.2.2]; exact f2⟩
   ·exact ⟨_, by rw [← HNO.out]; exact f3⟩)).sub (fun z hz => by
   simp only [List.mem_cons, List.mem_nil_iff, or_false] at hz
   rcases hz with rfl | rfl | rfl
   ·simp
   ·simp
   ·simp)⟩
  have hnini : nin ≤ 100 := by rw [HN.out.2.2]; exact HIL.out
  clear f1 f2 f3 f4 f5 d9 hnou
  go_wp2
  go_loopg [8, 13] nin (fun gg s8 s13 wr => ∃ (i : Nat) (q3 : Option Addr) (m3 d3 : Nat), i ≤ nin ∧ nin - i ≤ gg ∧ s13 = .int .i64 i ∧ s8 = .slice q3 m3 d3 ∧ Hid (m3 = ((ins.take i).foldl setO lb).length ∧ MvD w wr tb xb yb s (n + k) k (.slice p1 n1 c1) (.slice p0 n0 c0) [(W.heap.size, 84, #[.int .i64 kd, .bool false, .string (S x.c), .int .i64 x.k, .float .f64 x.e.t, .int .i64 x.e.src, .int .i64 x.e.n, .int .i64 x.e.dst, .int .i64 x.e.pay, .string (S fr), .string (S to)])] [(.slice q3 m3 d3, (ins.take i).foldl setO lb), (.slice p4 nin c4, ins), (.slice p5 nou c5, ou)] ou (ins.foldl setO lb)))
  case atStart => exact ⟨0, _, _, _, by omega, by omega, rfl, rfl, HI0⟩
  case round =>
   obtain ⟨i, q3, m3, d3, hi, hgg, rfl, rfl, HI⟩ := hrel
   by_cases hie : i < nin
   ·obtain ⟨y, hy⟩ : ∃ y, ins[i]? = some y := ⟨_, List.getElem?_eq_getElem (by rw [← HN.out.2.2]; exact hie)⟩
    obtain ⟨b, o, e1, hC⟩ := (HI.out.2.vw (z := (.slice p4 nin c4, ins)) (by simp)).itAt hy
    subst e1
    obtain ⟨r0, r1, r2, r3, r4, r5, r6⟩ := hC wr (Below.refl _ _)
    have hRF := mvD_ref HI.out.2 (List.mem_cons_self ..) HI.out.1 (by rw [HI.out.1]; have h1 := fold_len (ins.take i) lb; have h2 : (ins.take i).length ≤ i := List.length_take_le ..; have h3 := HLL.out; omega) y (HINS.out y (List.mem_of_getElem? hy)).2.1
    rw [fold_next hy HOK.out.2.2.2.2.2 (fun z hz => (HOK.out.2.1 z hz).1.1) HINS.out] at hRF
    unfold itV at hRF
    have HRF := hid hRF
    have hii : (i : Int) < (nin : Int) := by omega
    clear hy hC hRF
    obtain ⟨wo, hwo⟩ : ∃ wo, wo = wr := ⟨_, rfl⟩
    subst hwo
    go_wp2_with fail
    (with_reducible refine HRF.out.mono ?_)
    rintro r W5 ⟨p6, m6, c6, rfl, hm6, hM6⟩
    have H6 := hid (⟨hm6, hM6.sub (fun z hz => by
     simp only [List.mem_cons, List.mem_nil_iff, or_false] at hz
     rcases hz with rfl | rfl | rfl
     ·simp
     ·simp
     ·simp)⟩ : _ ∧ MvD w W5 tb xb yb s (n + k) k (.slice p1 n1 c1) (.slice p0 n0 c0) [(W.heap.size, 84, #[.int .i64 kd, .bool false, .string (S x.c), .int .i64 x.k, .float .f64 x.e.t, .int .i64 x.e.src, .int .i64 x.e.n, .int .i64 x.e.dst, .int .i64 x.e.pay, .string (S fr), .string (S to)])] [(.slice p6 m6 c6, (ins.take (i + 1)).foldl setO lb), (.slice (some ⟨b, o, none⟩) nin c4, ins), (.slice p5 nou c5, ou)] ou (ins.foldl setO lb))
    clear hm6 hM6 r0 r1 r2 r3 r4 r5 r6
    go_wp2
    go_roundg (nin - (i + 1))
    case measure => omega
    case rel => exact ⟨i + 1, _, _, _, by omega, by omega, by go_num, rfl, H6⟩
   ·have hin : i = nin := by omega
    have hii : ¬ (i : Int) < (nin : Int) := by omega
    have HE : Hid (m3 = (ins.foldl setO lb).length ∧ MvD w wr tb xb yb s (n + k) k (.slice p1 n1 c1) (.slice p0 n0 c0) [(W.heap.size, 84, #[.int .i64 kd, .bool false, .string (S x.c), .int .i64 x.k, .float .f64 x.e.t, .int .i64 x.e.src, .int .i64 x.e.n, .int .i64 x.e.dst, .int .i64 x.e.pay, .string (S fr), .string (S to)])] [(.slice p5 nou c5, ou), (.slice q3 m3 d3, ins.foldl setO lb)] ou (ins.foldl setO lb)) := hid (by
     have h := HI.out
     rw [hin, HN.out.2.2, List.take_length] at h
     refine ⟨h.1, h.2.sub (fun z hz => ?_)⟩
     simp only [List.mem_cons, List.mem_nil_iff, or_false] at hz
     rcases hz with rfl | rfl
     ·simp [HN.out.2.2]
     ·simp)
    clear hin
    have hB := HE.out.2.t
    have t2 : wr.cell? ⟨tb, 2, none⟩ = some (.slice p1 n1 c1) := hB.cell 2
    have t3 : wr.cell? ⟨tb, 3, none⟩ = some (.slice p0 n0 c0) := hB.cell 3
    have tf2 := hB.frozen 2
    have tf3 := hB.frozen 3
    have tl := hB.lt
    clear hB
    go_wp2_with (with_reducible refine stopLoad 4 rfl ?_)
    obtain ⟨W9, hW9⟩ : ∃ W9, W9 = (wr.setCell ⟨tb, 2, none⟩ (.slice p5 nou c5)).setCell ⟨tb, 3, none⟩ (.slice q3 m3 d3) := ⟨_, rfl⟩
    rw [← hW9]
    with_reducible refine goOn ?_
    have HM9 : Hid (MvD w W9 tb xb yb s (n + k) k (.slice p5 nou c5) (.slice q3 m3 d3) [(W.heap.size, 84, (#[.int .i64 kd, .bool false, .string (S x.c), .int .i64 x.k, .float .f64 x.e.t, .int .i64 x.e.src, .int .i64 x.e.n, .int .i64 x.e.dst, .int .i64 x.e.pay, .string (S fr), .string (S to)] : Array Value))] [(.slice p5 nou c5, ou), (.slice q3 m3 d3, ins.foldl setO lb)] ou (ins.foldl setO lb)) := hid (by rw [hW9]; exact (HE.out.2.set2 _).set3 _)
    have d1 : W9.cell? ⟨W.heap.size, 1, none⟩ = some (.bool false) := (HM9.out.blk (z := (W.heap.size, 84, (#[.int .i64 kd, .bool false, .string (S x.c), .int .i64 x.k, .float .f64 x.e.t, .int .i64 x.e.src, .int .i64 x.e.n, .int .i64 x.e.dst, .int .i64 x.e.pay, .string (S fr), .string (S to)] : Array Value))) (by simp)).cell 1
    clear t2 t3 tf2 tf3 tl hW9
    go_wp2
    go_ret
    refine ⟨rfl, p5, nou, c5, q3, m3, d3, ou, ins.foldl setO lb, HNO.out, HE.out.1, HM9.out.nobox⟩
end
section
open Go.RowKit Go.Lib
set_option maxHeartbeats 16000000 in
theorem moves24_ba {w W : World} {tb xb yb : Nat} {s : SL} {n k : Nat} {p1 : Option Addr} {n1 c1 : Nat} {p0 : Option Addr} {n0 c0 : Nat} {la lb : List It} (h : MvD w W tb xb yb s n k (.slice p1 n1 c1) (.slice p0 n0 c0) [] [(.slice p1 n1 c1, la), (.slice p0 n0 c0, lb)] la lb) (hn1 : n1 = la.length) (hn0 : n0 = lb.length) (hk : k ≤ 100) (hr : ∀ N L j, N ≤ n → L ≤ k → j < k → roomO (N + j) L) (kd : Int) (x : It) (fr to : Bs) :
  Calls Tryz.prog 104 #[.pointer (some ⟨tb, 0, none⟩), ac24 kd true x fr to] W fun r w' => r = .returned (.bool true) ∧ ∃ (q1 : Option Addr) (m1 d1 : Nat) (q2 : Option Addr) (m2 d2 : Nat) (la' lb' : List It), m1 = la'.length ∧ m2 = lb'.length ∧ MvD w w' tb xb yb s (n + k) k (.slice q1 m1 d1) (.slice q2 m2 d2) [] [(.slice q1 m1 d1, la'), (.slice q2 m2 d2, lb')] la' lb' := by
 unfold ac24
 obtain ⟨W1, hW1⟩ : ∃ W1, W1 = W.alloc (.cells #[.int .i64 kd, .bool true, .string (S x.c), .int .i64 x.k, .float .f64 x.e.t, .int .i64 x.e.src, .int .i64 x.e.n, .int .i64 x.e.dst, .int .i64 x.e.pay, .string (S fr), .string (S to)] 84) := ⟨_, rfl⟩
 have hb1 : Below W.heap.size W W1 := by rw [hW1]; exact (Below.refl _ W).alloc (Nat.le_refl _) _
 have hB1 : Blk W1 W.heap.size 84 #[.int .i64 kd, .bool true, .string (S x.c), .int .i64 x.k, .float .f64 x.e.t, .int .i64 x.e.src, .int .i64 x.e.n, .int .i64 x.e.dst, .int .i64 x.e.pay, .string (S fr), .string (S to)] := by rw [hW1]; exact Blk.new W _ _
 have hM1 := h.box 84 #[.int .i64 kd, .bool true, .string (S x.c), .int .i64 x.k, .float .f64 x.e.t, .int .i64 x.e.src, .int .i64 x.e.n, .int .i64 x.e.dst, .int .i64 x.e.pay, .string (S fr), .string (S to)]
 rw [← hW1] at hM1
 have HM1 := hid hM1
 have HCT : Hid (∀ W', BelC W1 W' → W'.cell? ⟨tb, 0, none⟩ = some (.pointer (some ⟨xb, 0, none⟩)) ∧ W'.cell? ⟨tb, 1, none⟩ = some (.pointer (some ⟨yb, 0, none⟩)) ∧ W'.cell? ⟨tb, 2, none⟩ = some (.slice p1 n1 c1) ∧ W'.cell? ⟨tb, 3, none⟩ = some (.slice p0 n0 c0)) := hid fun W' hW => by
  have q := hW.blk HM1.out.t
  exact ⟨q.cell 0, q.cell 1, q.cell 2, q.cell 3⟩
 have HX := hid (⟨hW1, hb1, hB1, hn1, hn0, hk, hr⟩ : _ ∧ _ ∧ _ ∧ _ ∧ _ ∧ _ ∧ _)
 have HH := hid h
 clear h hM1 hW1 hb1 hB1 hn1 hn0 hk hr
 go_enter Tryz.func104, Tryz.ntmps104
 go_wp2
 rw [← HX.out.1]
 refine qC_region (by kernel_rfl) (by kernel_rfl) (BelC W1) (BelC.drew W1) ?_
 repeat (first | (refine qC_none rfl (fun K hK => ?_); apply Exists.intro; refine ⟨fun w0 hw0 => ?_, ?_⟩; (focus (obtain ⟨q0, q1, q2, q3⟩ := HCT.out w0 hw0; go_simp; first | exact rfl | exact ⟨rfl, rfl⟩ | (fail))); go_simp; refine hK _ ?_; clear hK K) | (refine qC_yes _ _ _ rfl rfl (by rfl) (fun K hK => ?_); apply Exists.intro; refine ⟨fun w0 hw0 => ?_, ?_⟩; (focus (obtain ⟨q0, q1, q2, q3⟩ := HCT.out w0 hw0; go_simp; first | exact rfl | exact ⟨rfl, rfl⟩ | (fail))); go_simp; refine hK _ ?_; clear hK K) | (refine qC_no _ _ _ rfl rfl (by rfl) (fun K hK => ?_); go_simp; refine hK _ ?_; clear hK K) | (refine qC_undef _ _ _ rfl rfl (by rfl) (fun K hK => ?_); go_simp; refine hK _ ?_; clear hK K))
 refine qC_nil ?_
 intro w1 hw1
 have b1 : w1.cell? ⟨W.heap.size, 1, none⟩ = some (.bool true) := (hw1.blk HX.out.2.2.1).cell 1
 have HD1 := hid (BelC.of (below_drewN hw1.out 1))
 clear hw1
 go_wp2
 refine qC_region (by kernel_rfl) (by kernel_rfl) (BelC W1) HD1.out ?_
 repeat (first | (refine qC_none rfl (fun K hK => ?_); apply Exists.intro; refine ⟨fun w0 hw0 => ?_, ?_⟩; (focus (obtain ⟨q0, q1, q2, q3⟩ := HCT.out w0 hw0; go_simp; first | exact rfl | exact ⟨rfl, rfl⟩ | (fail))); go_simp; refine hK _ ?_; clear hK K) | (refine qC_yes _ _ _ rfl rfl (by rfl) (fun K hK => ?_); apply Exists.intro; refine ⟨fun w0 hw0 => ?_, ?_⟩; (focus (obtain ⟨q0, q1, q2, q3⟩ := HCT.out w0 hw0; go_simp; first | exact rfl | exact ⟨rfl, rfl⟩ | (fail))); go_simp; refine hK _ ?_; clear hK K) | (refine qC_no _ _ _ rfl rfl (by rfl) (fun K hK => ?_); go_simp; refine hK _ ?_; clear hK K) | (refine qC_undef _ _ _ rfl rfl (by rfl) (fun K hK => ?_); go_simp; refine hK _ ?_; clear hK K))
 refine qC_nil ?_
 clear b1
 intro w2 hw2
 have H2 := hid hw2
 have b1 : w2.cell? ⟨W.heap.size, 1, none⟩ = some (.bool true) := (hw2.blk HX.out.2.2.1).cell 1
 have b9 : w2.cell? ⟨W.heap.size, 9, none⟩ = some (.string (S fr)) := (hw2.blk HX.out.2.2.1).cell 9
 have HM2 := hid (HM1.out.below hw2.out)
 clear hw2
 by_cases hf : fr.length ≤ 30
 case neg =>
  have HMV := hid (mvD_noba HM2.out fr hf)
  have hlong : (30 : Int) < (fr.length : Int) := by omega
  clear hf
  go_wp2_with fail
  (with_reducible refine HMV.out.mono ?_)
  rintro r W3 ⟨rfl, hb3⟩
  have HM3 := hid (HM2.out.below hb3)
  have d9 : W3.cell? ⟨W.heap.size, 9, none⟩ = some (.string (S fr)) := (HM3.out.blk (z := (W.heap.size, 84, #[.int .i64 kd, .bool true, .string (S x.c), .int .i64 x.k, .float .f64 x.e.t, .int .i64 x.e.src, .int .i64 x.e.n, .int .i64 x.e.dst, .int .i64 x.e.pay, .string (S fr), .string (S to)])) (by simp)).cell 9
  clear hb3 b1 b9
  go_wp2
  go_ret
  exact ⟨rfl, p1, n1, c1, p0, n0, c0, la, lb, HX.out.2.2.2.1, HX.out.2.2.2.2.1, (HM3.out.nobox).up (by omega) (Nat.le_refl _)⟩
 case pos =>
  have HMV := hid (mvD_moveba HM2.out (by have := HX.out.2.2.2.2.2.1; omega) HX.out.2.2.2.2.2.2 fr hf)
  have hlong : ¬ (30 : Int) < (fr.length : Int) := by omega
  have HOK := hid HH.out.ok
  have HINS : Hid (∀ y ∈ insideO lb fr [], y.right ∧ y.e.ok ∧ y.e.nrm = y.e) := hid fun y hy => HOK.out.2.1 y (List.mem_filter.1 hy).1
  have HIL : Hid ((insideO lb fr []).length ≤ 100) := hid (Nat.le_trans (List.length_filter_le _ _) (Nat.le_trans HOK.out.2.2.2.1 HX.out.2.2.2.2.2.1))
  have HLL : Hid (la.length ≤ 100) := hid (Nat.le_trans HOK.out.2.2.1 HX.out.2.2.2.2.2.1)
  obtain ⟨ins, hins⟩ : ∃ ins, ins = insideO lb fr [] := ⟨_, rfl⟩
  obtain ⟨ou, hou⟩ : ∃ ou, ou = outO lb fr [] := ⟨_, rfl⟩
  obtain ⟨nin, hnin⟩ : ∃ nin, nin = ins.length := ⟨_, rfl⟩
  have HN := hid (⟨hins, hou, hnin⟩ : _ ∧ _ ∧ _)
  rw [← hins] at HINS HIL
  rw [← hins, ← hou, ← hnin] at HMV
  clear hf hins hou hnin
  go_wp2_with fail
  (with_reducible refine HMV.out.mono ?_)
  rintro r W3 ⟨rfl, hM3⟩
  have HM3 := hid hM3
  have d9 : W3.cell? ⟨W.heap.size, 9, none⟩ = some (.string (S fr)) := (hM3.blk (z := (W.heap.size, 84, #[.int .i64 kd, .bool true, .string (S x.c), .int .i64 x.k, .float .f64 x.e.t, .int .i64 x.e.src, .int .i64 x.e.n, .int .i64 x.e.dst, .int .i64 x.e.pay, .string (S fr), .string (S to)])) (by simp)).cell 9
  have hWI := within24_any (hM3.vw (z := (.slice p0 n0 c0, lb)) (by simp)) HX.out.2.2.2.2.1 (by have h1 := HX.out.2.2.2.2.1; have h2 := HOK.out.2.2.2.1; have h3 := HX.out.2.2.2.2.2.1; omega) (fun y hy => (HOK.out.2.1 y hy).1.1) fr []
  rw [← HN.out.1, ← HN.out.2.1, show S [] = { data := #[] } from rfl] at hWI
  have HWI := hid hWI
  clear hM3 hWI b1 b9
  go_wp2_with fail
  (with_reducible refine HWI.out.mono ?_)
  rintro r W4 ⟨v4, v5, rfl, hT4⟩
  obtain ⟨f1, f2, f3, f4, f5⟩ := hT4
  rw [← HN.out.2.2] at f2
  obtain ⟨nou, hnou⟩ : ∃ nou, nou = ou.length := ⟨_, rfl⟩
  have HNO := hid hnou
  rw [← hnou] at f3
  obtain ⟨p4, c4, rfl⟩ := own_slice2 f2
  obtain ⟨p5, c5, rfl⟩ := own_slice2 f3
  have HI0 : Hid (n1 = (([] : List It).foldl setO la).length ∧ MvD w W4 tb xb yb s (n + k) k (.slice p1 n1 c1) (.slice p0 n0 c0) [(W.heap.size, 84, #[.int .i64 kd, .bool true, .string (S x.c), .int .i64 x.k, .float .f64 x.e.t, .int .i64 x.e.src, .int .i64 x.e.n, .int .i64 x.e.dst, .int .i64 x.e.pay, .string (S fr), .string (S to)])] [(.slice p1 n1 c1, ([] : List It).foldl setO la), (.slice p4 nin c4, ins), (.slice p5 nou c5, ou)] (ins.foldl setO la) ou) := hid ⟨HX.out.2.2.2.1, (HM3.out.adds f1 [(.slice p4 nin c4, ins), (.slice p5 nou c5, ou)] (fun z hz => by
   simp only [List.mem_cons, List.mem_nil_iff, or_false] at hz
   rcases hz with rfl | rfl
   ·exact ⟨_, by rw [← HN.out.2.2]; exact f2⟩
   ·exact ⟨_, by rw [← HNO.out]; exact f3⟩)).sub (fun z hz => by
   simp only [List.mem_cons, List.mem_nil_iff, or_false] at hz
   rcases hz with rfl | rfl | rfl
   ·simp
   ·simp
   ·simp)⟩
  have hnini : nin ≤ 100 := by rw [HN.out.2.2]; exact HIL.out
  clear f1 f2 f3 f4 f5 d9 hnou
  go_wp2
  go_loopg [8, 13] nin (fun gg s8 s13 wr => ∃ (i : Nat) (q3 : Option Addr) (m3 d3 : Nat), i ≤ nin ∧ nin - i ≤ gg ∧ s13 = .int .i64 i ∧ s8 = .slice q3 m3 d3 ∧ Hid (m3 = ((ins.take i).foldl setO la).length ∧ MvD w wr tb xb yb s (n + k) k (.slice p1 n1 c1) (.slice p0 n0 c0) [(W.heap.size, 84, #[.int .i64 kd, .bool true, .string (S x.c), .int .i64 x.k, .float .f64 x.e.t, .int .i64 x.e.src, .int .i64 x.e.n, .int .i64 x.e.dst, .int .i64 x.e.pay, .string (S fr), .string (S to)])] [(.slice q3 m3 d3, (ins.take i).foldl setO la), (.slice p4 nin c4, ins), (.slice p5 nou c5, ou)] (ins.foldl setO la) ou))
  case atStart => exact ⟨0, _, _, _, by omega, by omega, rfl, rfl, HI0⟩
  case round =>
   obtain ⟨i, q3, m3, d3, hi, hgg, rfl, rfl, HI⟩ := hrel
   by_cases hie : i < nin
   ·obtain ⟨y, hy⟩ : ∃ y, ins[i]? = some y := ⟨_, List.getElem?_eq_getElem (by rw [← HN.out.2.2]; exact hie)⟩
    obtain ⟨b, o, e1, hC⟩ := (HI.out.2.vw (z := (.slice p4 nin c4, ins)) (by simp)).itAt hy
    subst e1
    obtain ⟨r0, r1, r2, r3, r4, r5, r6⟩ := hC wr (Below.refl _ _)
    have hRF := mvD_ref HI.out.2 (List.mem_cons_self ..) HI.out.1 (by rw [HI.out.1]; have h1 := fold_len (ins.take i) la; have h2 : (ins.take i).length ≤ i := List.length_take_le ..; have h3 := HLL.out; omega) y (HINS.out y (List.mem_of_getElem? hy)).2.1
    rw [fold_next hy HOK.out.2.2.2.2.1 (fun z hz => (HOK.out.1 z hz).1.1) HINS.out] at hRF
    unfold itV at hRF
    have HRF := hid hRF
    have hii : (i : Int) < (nin : Int) := by omega
    clear hy hC hRF
    obtain ⟨wo, hwo⟩ : ∃ wo, wo = wr := ⟨_, rfl⟩
    subst hwo
    go_wp2_with fail
    (with_reducible refine HRF.out.mono ?_)
    rintro r W5 ⟨p6, m6, c6, rfl, hm6, hM6⟩
    have H6 := hid (⟨hm6, hM6.sub (fun z hz => by
     simp only [List.mem_cons, List.mem_nil_iff, or_false] at hz
     rcases hz with rfl | rfl | rfl
     ·simp
     ·simp
     ·simp)⟩ : _ ∧ MvD w W5 tb xb yb s (n + k) k (.slice p1 n1 c1) (.slice p0 n0 c0) [(W.heap.size, 84, #[.int .i64 kd, .bool true, .string (S x.c), .int .i64 x.k, .float .f64 x.e.t, .int .i64 x.e.src, .int .i64 x.e.n, .int .i64 x.e.dst, .int .i64 x.e.pay, .string (S fr), .string (S to)])] [(.slice p6 m6 c6, (ins.take (i + 1)).foldl setO la), (.slice (some ⟨b, o, none⟩) nin c4, ins), (.slice p5 nou c5, ou)] (ins.foldl setO la) ou)
    clear hm6 hM6 r0 r1 r2 r3 r4 r5 r6
    go_wp2
    go_roundg (nin - (i + 1))
    case measure => omega
    case rel => exact ⟨i + 1, _, _, _, by omega, by omega, by go_num, rfl, H6⟩
   ·have hin : i = nin := by omega
    have hii : ¬ (i : Int) < (nin : Int) := by omega
    have HE : Hid (m3 = (ins.foldl setO la).length ∧ MvD w wr tb xb yb s (n + k) k (.slice p1 n1 c1) (.slice p0 n0 c0) [(W.heap.size, 84, #[.int .i64 kd, .bool true, .string (S x.c), .int .i64 x.k, .float .f64 x.e.t, .int .i64 x.e.src, .int .i64 x.e.n, .int .i64 x.e.dst, .int .i64 x.e.pay, .string (S fr), .string (S to)])] [(.slice p5 nou c5, ou), (.slice q3 m3 d3, ins.foldl setO la)] (ins.foldl setO la) ou) := hid (by
     have h := HI.out
     rw [hin, HN.out.2.2, List.take_length] at h
     refine ⟨h.1, h.2.sub (fun z hz => ?_)⟩
     simp only [List.mem_cons, List.mem_nil_iff, or_false] at hz
     rcases hz with rfl | rfl
     ·simp [HN.out.2.2]
     ·simp)
    clear hin
    have hB := HE.out.2.t
    have t2 : wr.cell? ⟨tb, 2, none⟩ = some (.slice p1 n1 c1) := hB.cell 2
    have t3 : wr.cell? ⟨tb, 3, none⟩ = some (.slice p0 n0 c0) := hB.cell 3
    have tf2 := hB.frozen 2
    have tf3 := hB.frozen 3
    have tl := hB.lt
    clear hB
    go_wp2_with (with_reducible refine stopLoad 4 rfl ?_)
    clear t2 t3 tf2 tf3 tl
    obtain ⟨W9, hW9⟩ : ∃ W9, W9 = (wr.setCell ⟨tb, 2, none⟩ (.slice p5 nou c5)).setCell ⟨tb, 3, none⟩ (.slice q3 m3 d3) := ⟨_, rfl⟩
    rw [← hW9]
    with_reducible refine goOn ?_
    have HM9 : Hid (MvD w W9 tb xb yb s (n + k) k (.slice p5 nou c5) (.slice q3 m3 d3) [(W.heap.size, 84, (#[.int .i64 kd, .bool true, .string (S x.c), .int .i64 x.k, .float .f64 x.e.t, .int .i64 x.e.src, .int .i64 x.e.n, .int .i64 x.e.dst, .int .i64 x.e.pay, .string (S fr), .string (S to)] : Array Value))] [(.slice p5 nou c5, ou), (.slice q3 m3 d3, ins.foldl setO la)] (ins.foldl setO la) ou) := hid (by rw [hW9]; exact (HE.out.2.set2 _).set3 _)
    have d1 : W9.cell? ⟨W.heap.size, 1, none⟩ = some (.bool true) := (HM9.out.blk (z := (W.heap.size, 84, (#[.int .i64 kd, .bool true, .string (S x.c), .int .i64 x.k, .float .f64 x.e.t, .int .i64 x.e.src, .int .i64 x.e.n, .int .i64 x.e.dst, .int .i64 x.e.pay, .string (S fr), .string (S to)] : Array Value))) (by simp)).cell 1
    have hB9 := HM9.out.t
    have t2 : W9.cell? ⟨tb, 2, none⟩ = some (.slice p5 nou c5) := hB9.cell 2
    have t3 : W9.cell? ⟨tb, 3, none⟩ = some (.slice q3 m3 d3) := hB9.cell 3
    have tf2 := hB9.frozen 2
    have tf3 := hB9.frozen 3
    have tl := hB9.lt
    clear hW9 hB9
    go_wp2
    go_ret
    refine ⟨rfl, q3, m3, d3, p5, nou, c5, ins.foldl setO la, ou, HE.out.1, HNO.out, (((HM9.out.set2 _).set3 _).nobox).sub (fun z hz => ?_)⟩
    simp only [List.mem_cons, List.mem_nil_iff, or_false] at hz
    rcases hz with rfl | rfl
    ·simp
    ·simp
end
section
open Go.RowKit Go.Lib
def DoQ (w : World) (tb xb yb : Nat) (s : SL) (n k : Nat) (r : Ending) (w' : World) : Prop :=
 r = .returned (.bool true) ∧ ∃ (q1 : Option Addr) (m1 d1 : Nat) (q2 : Option Addr) (m2 d2 : Nat) (la' lb' : List It), m1 = la'.length ∧ m2 = lb'.length ∧ MvD w w' tb xb yb s n k (.slice q1 m1 d1) (.slice q2 m2 d2) [] [(.slice q1 m1 d1, la'), (.slice q2 m2 d2, lb')] la' lb'
set_option maxHeartbeats 16000000 in
theorem do24_moves_ab {w W : World} {tb xb yb : Nat} {s : SL} {n k : Nat} {p1 : Option Addr} {n1 c1 : Nat} {p0 : Option Addr} {n0 c0 : Nat} {la lb : List It} (h : MvD w W tb xb yb s n k (.slice p1 n1 c1) (.slice p0 n0 c0) [] [(.slice p1 n1 c1, la), (.slice p0 n0 c0, lb)] la lb) (hn1 : n1 = la.length) (hn0 : n0 = lb.length) (hk : k ≤ 100) (hr : ∀ N L j, N ≤ n → L ≤ k → j < k → roomO (N + j) L) (kd : Int) (x : It) (fr to : Bs) (hkd : kd = 7 ∨ kd = 8) :
  Calls Tryz.prog 42 #[.pointer (some ⟨tb, 0, none⟩), ac24 kd false x fr to] W fun r w' => DoQ w tb xb yb s (n + k) k r w' := by
 unfold ac24
 obtain ⟨W1, hW1⟩ : ∃ W1, W1 = W.alloc (.cells #[.int .i64 kd, .bool false, .string (S x.c), .int .i64 x.k, .float .f64 x.e.t, .int .i64 x.e.src, .int .i64 x.e.n, .int .i64 x.e.dst, .int .i64 x.e.pay, .string (S fr), .string (S to)] 84) := ⟨_, rfl⟩
 have hb1 : Below W.heap.size W W1 := by rw [hW1]; exact (Below.refl _ W).alloc (Nat.le_refl _) _
 have hM1 := h.box 84 #[.int .i64 kd, .bool false, .string (S x.c), .int .i64 x.k, .float .f64 x.e.t, .int .i64 x.e.src, .int .i64 x.e.n, .int .i64 x.e.dst, .int .i64 x.e.pay, .string (S fr), .string (S to)]
 rw [← hW1] at hM1
 have HM1 := hid hM1
 have HCT : Hid (∀ W', BelC W1 W' → W'.cell? ⟨tb, 0, none⟩ = some (.pointer (some ⟨xb, 0, none⟩)) ∧ W'.cell? ⟨tb, 1, none⟩ = some (.pointer (some ⟨yb, 0, none⟩))) := hid fun W' hW => by
  have q := hW.blk HM1.out.t
  exact ⟨q.cell 0, q.cell 1⟩
 have HX := hid (⟨hW1, hb1, hn1, hn0, hk⟩ : _ ∧ _ ∧ _ ∧ _ ∧ _)
 have HOK := hid h.ok
 have HR := hid hr
 clear h hM1 hW1 hb1 hn1 hn0 hk hr
 go_enter Tryz.func42, Tryz.ntmps42
 go_wp2
 rw [← HX.out.1]
 refine qC_region (by kernel_rfl) (by kernel_rfl) (BelC W1) (BelC.drew W1) ?_
 repeat (first | (refine qC_none rfl (fun K hK => ?_); apply Exists.intro; refine ⟨fun w0 hw0 => ?_, ?_⟩; (focus (obtain ⟨q0, q1⟩ := HCT.out w0 hw0; go_simp; first | exact rfl | exact ⟨rfl, rfl⟩ | (fail))); go_simp; refine hK _ ?_; clear hK K) | (refine qC_yes _ _ _ rfl rfl (by rfl) (fun K hK => ?_); apply Exists.intro; refine ⟨fun w0 hw0 => ?_, ?_⟩; (focus (obtain ⟨q0, q1⟩ := HCT.out w0 hw0; go_simp; first | exact rfl | exact ⟨rfl, rfl⟩ | (fail))); go_simp; refine hK _ ?_; clear hK K) | (refine qC_no _ _ _ rfl rfl (by rfl) (fun K hK => ?_); go_simp; refine hK _ ?_; clear hK K) | (refine qC_undef _ _ _ rfl rfl (by rfl) (fun K hK => ?_); go_simp; refine hK _ ?_; clear hK K))
 refine qC_nil ?_
 intro w2 hw2
 have HM2 := hid (HM1.out.below hw2.out)
 obtain ⟨t0, t1⟩ := HCT.out w2 hw2
 have hBx := HM2.out.blk (z := (W.heap.size, 84, (#[.int .i64 kd, .bool false, .string (S x.c), .int .i64 x.k, .float .f64 x.e.t, .int .i64 x.e.src, .int .i64 x.e.n, .int .i64 x.e.dst, .int .i64 x.e.pay, .string (S fr), .string (S to)] : Array Value))) (by simp)
 have b0 : w2.cell? ⟨W.heap.size, 0, none⟩ = some (.int .i64 kd) := hBx.cell 0
 have b1 : w2.cell? ⟨W.heap.size, 1, none⟩ = some (.bool false) := hBx.cell 1
 have b2 : w2.cell? ⟨W.heap.size, 2, none⟩ = some (.string (S x.c)) := hBx.cell 2
 have b3 : w2.cell? ⟨W.heap.size, 3, none⟩ = some (.int .i64 x.k) := hBx.cell 3
 have b4 : w2.cell? ⟨W.heap.size, 4, none⟩ = some (.float .f64 x.e.t) := hBx.cell 4
 have b5 : w2.cell? ⟨W.heap.size, 5, none⟩ = some (.int .i64 x.e.src) := hBx.cell 5
 have b6 : w2.cell? ⟨W.heap.size, 6, none⟩ = some (.int .i64 x.e.n) := hBx.cell 6
 have b7 : w2.cell? ⟨W.heap.size, 7, none⟩ = some (.int .i64 x.e.dst) := hBx.cell 7
 have b8 : w2.cell? ⟨W.heap.size, 8, none⟩ = some (.int .i64 x.e.pay) := hBx.cell 8
 have b9 : w2.cell? ⟨W.heap.size, 9, none⟩ = some (.string (S fr)) := hBx.cell 9
 have b10 : w2.cell? ⟨W.heap.size, 10, none⟩ = some (.string (S to)) := hBx.cell 10
 clear hw2 hBx
 have HMV := hid (moves24_ab (HM2.out.nobox) HX.out.2.2.1 HX.out.2.2.2.1 HX.out.2.2.2.2 HR.out kd x fr to)
 unfold ac24 at HMV
 rcases hkd with rfl | rfl
 all_goals
  go_wp2_with fail
  (with_reducible refine HMV.out.mono ?_)
  rintro r W3 ⟨rfl, hQ⟩
  have HQ := hid hQ
  clear hQ t0 t1 b0 b1 b2 b3 b4 b5 b6 b7 b8 b9 b10
  go_wp2
  go_ret
  exact ⟨rfl, HQ.out⟩
set_option maxHeartbeats 16000000 in
theorem do24_moves_ba {w W : World} {tb xb yb : Nat} {s : SL} {n k : Nat} {p1 : Option Addr} {n1 c1 : Nat} {p0 : Option Addr} {n0 c0 : Nat} {la lb : List It} (h : MvD w W tb xb yb s n k (.slice p1 n1 c1) (.slice p0 n0 c0) [] [(.slice p1 n1 c1, la), (.slice p0 n0 c0, lb)] la lb) (hn1 : n1 = la.length) (hn0 : n0 = lb.length) (hk : k ≤ 100) (hr : ∀ N L j, N ≤ n → L ≤ k → j < k → roomO (N + j) L) (kd : Int) (x : It) (fr to : Bs) (hkd : kd = 7 ∨ kd = 8) :
  Calls Tryz.prog 42 #[.pointer (some ⟨tb, 0, none⟩), ac24 kd true x fr to] W fun r w' => DoQ w tb xb yb s (n + k) k r w' := by
 unfold ac24
 obtain ⟨W1, hW1⟩ : ∃ W1, W1 = W.alloc (.cells #[.int .i64 kd, .bool true, .string (S x.c), .int .i64 x.k, .float .f64 x.e.t, .int .i64 x.e.src, .int .i64 x.e.n, .int .i64 x.e.dst, .int .i64 x.e.pay, .string (S fr), .string (S to)] 84) := ⟨_, rfl⟩
 have hb1 : Below W.heap.size W W1 := by rw [hW1]; exact (Below.refl _ W).alloc (Nat.le_refl _) _
 have hM1 := h.box 84 #[.int .i64 kd, .bool true, .string (S x.c), .int .i64 x.k, .float .f64 x.e.t, .int .i64 x.e.src, .int .i64 x.e.n, .int .i64 x.e.dst, .int .i64 x.e.pay, .string (S fr), .string (S to)]
 rw [← hW1] at hM1
 have HM1 := hid hM1
 have HCT : Hid (∀ W', BelC W1 W' → W'.cell? ⟨tb, 0, none⟩ = some (.pointer (some ⟨xb, 0, none⟩)) ∧ W'.cell? ⟨tb, 1, none⟩ = some (.pointer (some ⟨yb, 0, none⟩))) := hid fun W' hW => by
  have q := hW.blk HM1.out.t
  exact ⟨q.cell 0, q.cell 1⟩
 have HX := hid (⟨hW1, hb1, hn1, hn0, hk⟩ : _ ∧ _ ∧ _ ∧ _ ∧ _)
 have HOK := hid h.ok
 have HR := hid hr
 clear h hM1 hW1 hb1 hn1 hn0 hk hr
 go_enter Tryz.func42, Tryz.ntmps42
 go_wp2
 rw [← HX.out.1]
 refine qC_region (by kernel_rfl) (by kernel_rfl) (BelC W1) (BelC.drew W1) ?_
 repeat (first | (refine qC_none rfl (fun K hK => ?_); apply Exists.intro; refine ⟨fun w0 hw0 => ?_, ?_⟩; (focus (obtain ⟨q0, q1⟩ := HCT.out w0 hw0; go_simp; first | exact rfl | exact ⟨rfl, rfl⟩ | (fail))); go_simp; refine hK _ ?_; clear hK K) | (refine qC_yes _ _ _ rfl rfl (by rfl) (fun K hK => ?_); apply Exists.intro; refine ⟨fun w0 hw0 => ?_, ?_⟩; (focus (obtain ⟨q0, q1⟩ := HCT.out w0 hw0; go_simp; first | exact rfl | exact ⟨rfl, rfl⟩ | (fail))); go_simp; refine hK _ ?_; clear hK K) | (refine qC_no _ _ _ rfl rfl (by rfl) (fun K hK => ?_); go_simp; refine hK _ ?_; clear hK K) | (refine qC_undef _ _ _ rfl rfl (by rfl) (fun K hK => ?_); go_simp; refine hK _ ?_; clear hK K))
 refine qC_nil ?_
 intro w2 hw2
 have HM2 := hid (HM1.out.below hw2.out)
 obtain ⟨t0, t1⟩ := HCT.out w2 hw2
 have hBx := HM2.out.blk (z := (W.heap.size, 84, (#[.int .i64 kd, .bool true, .string (S x.c), .int .i64 x.k, .float .f64 x.e.t, .int .i64 x.e.src, .int .i64 x.e.n, .int .i64 x.e.dst, .int .i64 x.e.pay, .string (S fr), .string (S to)] : Array Value))) (by simp)
 have b0 : w2.cell? ⟨W.heap.size, 0, none⟩ = some (.int .i64 kd) := hBx.cell 0
 have b1 : w2.cell? ⟨W.heap.size, 1, none⟩ = some (.bool true) := hBx.cell 1
 have b2 : w2.cell? ⟨W.heap.size, 2, none⟩ = some (.string (S x.c)) := hBx.cell 2
 have b3 : w2.cell? ⟨W.heap.size, 3, none⟩ = some (.int .i64 x.k) := hBx.cell 3
 have b4 : w2.cell? ⟨W.heap.size, 4, none⟩ = some (.float .f64 x.e.t) := hBx.cell 4
 have b5 : w2.cell? ⟨W.heap.size, 5, none⟩ = some (.int .i64 x.e.src) := hBx.cell 5
 have b6 : w2.cell? ⟨W.heap.size, 6, none⟩ = some (.int .i64 x.e.n) := hBx.cell 6
 have b7 : w2.cell? ⟨W.heap.size, 7, none⟩ = some (.int .i64 x.e.dst) := hBx.cell 7
 have b8 : w2.cell? ⟨W.heap.size, 8, none⟩ = some (.int .i64 x.e.pay) := hBx.cell 8
 have b9 : w2.cell? ⟨W.heap.size, 9, none⟩ = some (.string (S fr)) := hBx.cell 9
 have b10 : w2.cell? ⟨W.heap.size, 10, none⟩ = some (.string (S to)) := hBx.cell 10
 clear hw2 hBx
 have HMV := hid (moves24_ba (HM2.out.nobox) HX.out.2.2.1 HX.out.2.2.2.1 HX.out.2.2.2.2 HR.out kd x fr to)
 unfold ac24 at HMV
 rcases hkd with rfl | rfl
 all_goals
  go_wp2_with fail
  (with_reducible refine HMV.out.mono ?_)
  rintro r W3 ⟨rfl, hQ⟩
  have HQ := hid hQ
  clear hQ t0 t1 b0 b1 b2 b3 b4 b5 b6 b7 b8 b9 b10
  go_wp2
  go_ret
  exact ⟨rfl, HQ.out⟩
end
end Go.Proofs.YtnnghcooidjlhaaGreat
