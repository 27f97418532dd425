/- Parts of the proof: Ey Lna. -/
import Derived.Test.YtfkoaooceickiaaGreatH03
set_option linter.all false
set_option maxRecDepth 100000
namespace Go.Proofs.YtfkoaooceickiaaGreat
section
open Go.RowKit Go.Lib
theorem infIns : (Tryz.prog.info? 192).map (fun i => (i.zero, i.size, i.bytes)) = some (some (.agg #[.int .i64 0, .int .i64 0, .int .i64 0, .int .i64 0]), 4, 32) := by kernel_rfl
theorem infFlt : (Tryz.prog.info? 22).map (fun i => (i.zero, i.size, i.bytes)) = some (some (.float .f64 0), 1, 8) := by kernel_rfl
theorem infPrg : (Tryz.prog.info? 113).map (fun i => (i.zero, i.size, i.bytes)) = some (some (.slice none 0 0), 1, 24) := by kernel_rfl
theorem infLP : (Tryz.prog.info? 115).map (fun i => (i.zero, i.size, i.bytes)) = some (some (.agg #[.int .i64 0, .slice none 0 0]), 2, 32) := by kernel_rfl
theorem infIni : (Tryz.prog.info? 152).map (fun i => (i.zero, i.size, i.bytes)) = some (some (.agg #[.float .f64 0, .int .i64 0, .int .i64 0]), 3, 24) := by kernel_rfl
theorem inC_one (x : In) : ∀ u ∈ inC x, u.oneCell' = true := by intro u hu; simp [inC] at hu; rcases hu with rfl | rfl | rfl | rfl <;> rfl
theorem flC_one (x : Nat) : ∀ u ∈ flC x, u.oneCell' = true := by intro u hu; simp [flC] at hu; rw [hu]; rfl
theorem wdC_one (x : Int) : ∀ u ∈ wdC x, u.oneCell' = true := by intro u hu; simp [wdC] at hu; rw [hu]; rfl
theorem prC_one (x : Prg) : ∀ u ∈ prC x, u.oneCell' = true := by intro u hu; simp [prC] at hu; rw [hu]; rfl
theorem lpC_one (x : LpR) : ∀ u ∈ lpC x, u.oneCell' = true := by intro u hu; simp [lpC] at hu; rcases hu with rfl | rfl <;> rfl
theorem iniC_one (x : Ini) : ∀ u ∈ iniC x, u.oneCell' = true := by intro u hu; simp [iniC] at hu; rcases hu with rfl | rfl | rfl <;> rfl
theorem own_nil (W : World) (B : Nat) (T : TypeId) (s : Nat) : W.ownsRow B T s (.slice none 0 0) 0 [] := ⟨by simp, .inl ⟨rfl, rfl⟩⟩
theorem own_kept {W W' : World} {B B' n m k k' : Nat} {T U : TypeId} {v u : Value} {xs ys : List Value} (h : W.ownsRow B T k v n xs) (hu : W.ownsRow B' U k' u m ys) (hk : Kp u.ownBlock.toList W W') (ht : T ≠ U) : W'.ownsRow B T k v n xs :=
 row_of h fun b hb => hk.block b (h.lt b hb).2 fun hm => own_ne2 h hu ht hb (Option.mem_toList.1 hm)
theorem own_below {W W' : World} {B n k : Nat} {T : TypeId} {v : Value} {xs : List Value} (h : W.ownsRow B T k v n xs) (hb : Below W.heap.size W W') : W'.ownsRow B T k v n xs := row_of h fun b hg => hb.block b (h.lt b hg).2
theorem own_set {W : World} {B n k g i : Nat} {T U : TypeId} {v u : Value} {xs : List Value} {cs : Array Value} (h : W.ownsRow B T k v n xs) (hb : Blk W g U cs) (ht : T ≠ U) : (W.setCell ⟨g, i, none⟩ u).ownsRow B T k v n xs := ownsRow_setCell_other h (own_neb (u := v) (m := 0) (ys := []) h hb ht) u
structure CpI (B : Nat) (w1 : World) (ob : Nat) (x : MdV) (dv v u t : Value) (qs : List Prg) (rs : List LpR) (is : List Ini) (W : World) : Prop where
 blk : Blk W ob 28 #[.int .i64 x.seed, .float .f64 x.en, dv, v, u, t]
 d : W.ownsRow B 22 1 dv x.dl.length (rowV flC x.dl)
 p : W.ownsRow B 113 1 v qs.length (rowV prC qs)
 pi : ∀ q ∈ qs, q.n = q.l.length ∧ W.ownsRow B 192 4 (.slice q.p q.n q.c) q.n (rowV inC q.l)
 l : W.ownsRow B 115 2 u rs.length (rowV lpC rs)
 li : ∀ q ∈ rs, q.n = q.l.length ∧ W.ownsRow B 3 1 (.slice q.p q.n q.c) q.n (rowV wdC q.l)
 i : W.ownsRow B 152 3 t is.length (rowV iniC is)
 bel : Kp [ob] w1 W
 lo : B = w1.heap.size
section
variable {B ob : Nat} {w1 W W' : World} {x : MdV} {dv v u t : Value} {qs : List Prg} {rs : List LpR} {is : List Ini}
theorem CpI.below (h : CpI B w1 ob x dv v u t qs rs is W) (hB : B ≤ W.heap.size) (hb : Below W.heap.size W W') : CpI B w1 ob x dv v u t qs rs is W' :=
 ⟨h.blk.below hb h.blk.lt, own_below h.d hb, own_below h.p hb, fun q hq => ⟨(h.pi q hq).1, own_below (h.pi q hq).2 hb⟩, own_below h.l hb, fun q hq => ⟨(h.li q hq).1, own_below (h.li q hq).2 hb⟩, own_below h.i hb, h.bel.trans (Kp.of_below hb), h.lo⟩
theorem CpI.pushP (h : CpI B w1 ob x dv v u t qs rs is W) (hB : B ≤ W.heap.size) {w5 w6 : World} (hb : Below W.heap.size W w5) {q : Prg} (hq : q.n = q.l.length) (hO5 : w5.ownsRow B 192 4 (.slice q.p q.n q.c) q.n (rowV inC q.l)) {v2 : Value} (hO6 : w6.ownsRow B 113 1 v2 (qs.length + 1) (rowV prC (qs ++ [q]))) (hk : Kp v.ownBlock.toList w5 w6) :
  CpI B w1 ob x dv v2 u t (qs ++ [q]) rs is (w6.setCell ⟨ob, 3, none⟩ v2) := by
 have h5 := h.below hB hb
 have hob : Blk w6 ob 28 #[.int .i64 x.seed, .float .f64 x.en, dv, v, u, t] := h5.blk.kp hk fun hm => own_neb (u := v) (m := 0) (ys := []) h5.p h5.blk (by decide) (Option.mem_toList.1 hm)
 have kp : ∀ {T n k xs a}, w5.ownsRow B T k a n xs → T ≠ 113 → T ≠ 28 → (w6.setCell ⟨ob, 3, none⟩ v2).ownsRow B T k a n xs := fun ho h1 h2 => own_set (own_kept ho h5.p hk h1) hob h2
 refine ⟨hob.set_ 3 _, kp h5.d (by decide) (by decide), ?_, fun q' hq' => ?_, kp h5.l (by decide) (by decide), fun q' hq' => ⟨(h5.li q' hq').1, kp (h5.li q' hq').2 (by decide) (by decide)⟩, kp h5.i (by decide) (by decide), (h5.bel.trans_gr (fun g hg => .inr (by have := (h5.p.lt g (Option.mem_toList.1 hg)).1; have := h.lo; omega)) hk).setCell (.inl (by simp)) _, h.lo⟩
 ·rw [List.length_append]
  exact own_set hO6 hob (by decide)
 ·rcases List.mem_append.1 hq' with hq' | hq'
  ·exact ⟨(h5.pi q' hq').1, kp (h5.pi q' hq').2 (by decide) (by decide)⟩
  ·rw [List.mem_singleton.1 hq']
   exact ⟨hq, kp hO5 (by decide) (by decide)⟩
theorem CpI.pushL (h : CpI B w1 ob x dv v u t qs rs is W) (hB : B ≤ W.heap.size) {w5 w6 : World} (hb : Below W.heap.size W w5) {q : LpR} (hq : q.n = q.l.length) (hO5 : w5.ownsRow B 3 1 (.slice q.p q.n q.c) q.n (rowV wdC q.l)) {v2 : Value} (hO6 : w6.ownsRow B 115 2 v2 (rs.length + 1) (rowV lpC (rs ++ [q]))) (hk : Kp u.ownBlock.toList w5 w6) :
  CpI B w1 ob x dv v v2 t qs (rs ++ [q]) is (w6.setCell ⟨ob, 4, none⟩ v2) := by
 have h5 := h.below hB hb
 have hob : Blk w6 ob 28 #[.int .i64 x.seed, .float .f64 x.en, dv, v, u, t] := h5.blk.kp hk fun hm => own_neb (u := v) (m := 0) (ys := []) h5.l h5.blk (by decide) (Option.mem_toList.1 hm)
 have kp : ∀ {T n k xs a}, w5.ownsRow B T k a n xs → T ≠ 115 → T ≠ 28 → (w6.setCell ⟨ob, 4, none⟩ v2).ownsRow B T k a n xs := fun ho h1 h2 => own_set (own_kept ho h5.l hk h1) hob h2
 refine ⟨hob.set_ 4 _, kp h5.d (by decide) (by decide), kp h5.p (by decide) (by decide), fun q' hq' => ⟨(h5.pi q' hq').1, kp (h5.pi q' hq').2 (by decide) (by decide)⟩, ?_, fun q' hq' => ?_, kp h5.i (by decide) (by decide), (h5.bel.trans_gr (fun g hg => .inr (by have := (h5.l.lt g (Option.mem_toList.1 hg)).1; have := h.lo; omega)) hk).setCell (.inl (by simp)) _, h.lo⟩
 ·rw [List.length_append]
  exact own_set hO6 hob (by decide)
 ·rcases List.mem_append.1 hq' with hq' | hq'
  ·exact ⟨(h5.li q' hq').1, kp (h5.li q' hq').2 (by decide) (by decide)⟩
  ·rw [List.mem_singleton.1 hq']
   exact ⟨hq, kp hO5 (by decide) (by decide)⟩
theorem CpI.md (h : CpI B w1 ob x dv v u t qs rs is W) (he : ∀ b, B ≤ b → W'.heap[b]? = W.heap[b]?) {dp pp lp ip : Option Addr} {dc pc lc ic : Nat} (e1 : dv = .slice dp x.dl.length dc) (e2 : v = .slice pp qs.length pc) (e3 : u = .slice lp rs.length lc) (e4 : t = .slice ip is.length ic) :
  MdAt W' ⟨x.seed, x.en, dp, x.dl.length, dc, x.dl, pp, qs.length, pc, qs, lp, rs.length, lc, rs, ip, is.length, ic, is⟩ := by
 subst e1 e2 e3 e4
 have k : ∀ {T n s xs a}, W.ownsRow B T s a n xs → W'.ownsRow B T s a n xs := fun ho => row_of ho fun b hb => he b (ho.lt b hb).1
 exact ⟨.of_own flC_len (k h.d) rfl, rfl, .of_own prC_len (k h.p) rfl, rfl, fun q hq => ⟨(h.pi q hq).1, .of_own inC_len (k (h.pi q hq).2) (h.pi q hq).1⟩, .of_own lpC_len (k h.l) rfl, rfl, fun q hq => ⟨(h.li q hq).1, .of_own wdC_len (k (h.li q hq).2) (h.li q hq).1⟩, .of_own iniC_len (k h.i) rfl, rfl⟩
theorem Blk.put6 {g : Nat} {T : TypeId} {a b c d e f : Value} (h : Blk W g T #[a, b, c, d, e, f]) (u0 u1 u2 u3 u4 u5 : Value) : Blk ((((((W.setCell ⟨g, 0, none⟩ u0).setCell ⟨g, 1, none⟩ u1).setCell ⟨g, 2, none⟩ u2).setCell ⟨g, 3, none⟩ u3).setCell ⟨g, 4, none⟩ u4).setCell ⟨g, 5, none⟩ u5) g T #[u0, u1, u2, u3, u4, u5] :=
 (((((h.set_ 0 u0).set_ 1 u1).set_ 2 u2).set_ 3 u3).set_ 4 u4).set_ 5 u5
theorem heap_put6 (W : World) (g b : Nat) (hn : b ≠ g) (u0 u1 u2 u3 u4 u5 : Value) : ((((((W.setCell ⟨g, 0, none⟩ u0).setCell ⟨g, 1, none⟩ u1).setCell ⟨g, 2, none⟩ u2).setCell ⟨g, 3, none⟩ u3).setCell ⟨g, 4, none⟩ u4).setCell ⟨g, 5, none⟩ u5).heap[b]? = W.heap[b]? := by
 rw [Below.heap_setCell _ _ _ _ hn, Below.heap_setCell _ _ _ _ hn, Below.heap_setCell _ _ _ _ hn, Below.heap_setCell _ _ _ _ hn, Below.heap_setCell _ _ _ _ hn, Below.heap_setCell _ _ _ _ hn]
theorem below_put6 {B' g : Nat} {w : World} (h : Below B' w W) (hg : B' ≤ g) (u0 u1 u2 u3 u4 u5 : Value) : Below B' w ((((((W.setCell ⟨g, 0, none⟩ u0).setCell ⟨g, 1, none⟩ u1).setCell ⟨g, 2, none⟩ u2).setCell ⟨g, 3, none⟩ u3).setCell ⟨g, 4, none⟩ u4).setCell ⟨g, 5, none⟩ u5) :=
 (((((h.setCell hg u0).setCell hg u1).setCell hg u2).setCell hg u3).setCell hg u4).setCell hg u5
end
def CopP (W : World) (m : Mdl) (e : Ending) (w' : World) : Prop := ∃ y : MdV, e = .returned (.agg (mdC y).toArray) ∧ MdAt w' y ∧ y.m = m ∧ Below W.heap.size W w'
set_option maxHeartbeats 32000000 in
theorem mcopy_any {W : World} {x : MdV} (h : MdAt W x) (hd : x.dn ≤ 1000) (hp : x.pn ≤ 1000) (hl : x.ln ≤ 1000) (hi : x.im ≤ 1000) (hq : ∀ q ∈ x.ps, q.n ≤ 1000) (hr : ∀ q ∈ x.ls, q.n ≤ 1000) :
  Calls Tryz.prog 66 #[.agg (mdC x).toArray] W (CopP W x.m) := by
 obtain ⟨W1, hW1⟩ : ∃ W1, W1 = ((W.alloc (.cells (mdC x).toArray 28)).alloc (.cells #[.int .i64 0, .float .f64 0, .slice none 0 0, .slice none 0 0, .slice none 0 0, .slice none 0 0] 28)).alloc (.cells #[.int .i64 x.seed, .float .f64 x.en, .slice none 0 0, .slice none 0 0, .slice none 0 0, .slice none 0 0] 28) := ⟨_, rfl⟩
 have hb1 : Below W.heap.size W W1 := by rw [hW1]; exact (((Below.refl _ W).alloc (Nat.le_refl _) _).alloc (by simp) _).alloc (by simp; omega) _
 have hxb : Blk W1 W.heap.size 28 (mdC x).toArray := by rw [hW1]; exact ((Blk.new W _ _).alloc _).alloc _
 have hrb : Blk W1 (W.heap.size + 1) 28 #[.int .i64 0, .float .f64 0, .slice none 0 0, .slice none 0 0, .slice none 0 0, .slice none 0 0] := by rw [hW1]; simpa using (Blk.new (W.alloc (.cells (mdC x).toArray 28)) _ _).alloc _
 have hob : Blk W1 (W.heap.size + 1 + 1) 28 #[.int .i64 x.seed, .float .f64 x.en, .slice none 0 0, .slice none 0 0, .slice none 0 0, .slice none 0 0] := by
  rw [hW1]
  have := Blk.new ((W.alloc (.cells (mdC x).toArray 28)).alloc (.cells #[.int .i64 0, .float .f64 0, .slice none 0 0, .slice none 0 0, .slice none 0 0, .slice none 0 0] 28)) 28 #[.int .i64 x.seed, .float .f64 x.en, .slice none 0 0, .slice none 0 0, .slice none 0 0, .slice none 0 0]
  simpa using this
 obtain ⟨ob, hobe⟩ : ∃ ob, ob = W.heap.size + 1 + 1 := ⟨_, rfl⟩
 rw [← hobe] at hob
 obtain ⟨rb, hrbe⟩ : ∃ rb, rb = W.heap.size + 1 := ⟨_, rfl⟩
 rw [← hrbe] at hrb hobe
 obtain ⟨dp, hdp⟩ : ∃ p, p = x.dp := ⟨_, rfl⟩
 obtain ⟨pp, hpp⟩ : ∃ p, p = x.pp := ⟨_, rfl⟩
 obtain ⟨lp, hlp⟩ : ∃ p, p = x.lp := ⟨_, rfl⟩
 obtain ⟨ip, hip⟩ : ∃ p, p = x.ip := ⟨_, rfl⟩
 have HC : Hid (∀ W', Kp [ob] W1 W' → (W'.cell? ⟨W.heap.size, 2, none⟩ = some (.slice dp x.dn x.dc) ∧ W'.cell? ⟨W.heap.size, 3, none⟩ = some (.slice pp x.pn x.pc) ∧ W'.cell? ⟨W.heap.size, 4, none⟩ = some (.slice lp x.ln x.lc) ∧ W'.cell? ⟨W.heap.size, 5, none⟩ = some (.slice ip x.im x.ic)) ∧ MdAt W' x ∧ Blk W' rb 28 #[.int .i64 0, .float .f64 0, .slice none 0 0, .slice none 0 0, .slice none 0 0, .slice none 0 0]) := hid fun W' hk => by
  have h1 := hxb.kp hk (by simp; omega)
  have hW : Below W.heap.size W W' := hb1.trans (hk.to_below hb1.size (by simp; omega))
  rw [hdp, hpp, hlp, hip]
  exact ⟨⟨h1.cell 2, h1.cell 3, h1.cell 4, h1.cell 5⟩, h.below hW, hrb.kp hk (by simp; omega)⟩
 have HH := hid (⟨h, hq, hr⟩ : _ ∧ _ ∧ _)
 have HO := hid (⟨hob, hb1, hobe, hrbe⟩ : _ ∧ _ ∧ _ ∧ _)
 have HD := hid hdp
 have HP := hid hpp
 have HL := hid hlp
 have HI := hid hip
 obtain ⟨⟨k2, _, _, _⟩, hm1, _⟩ := HC.out W1 (Kp.refl _ _)
 have o2 : W1.cell? ⟨ob, 2, none⟩ = some (.slice none 0 0) := hob.cell 2
 have f2 := hob.frozen 2
 have l2 := hob.lt
 have HM1 := hid hm1
 unfold mdC at hW1 ⊢
 rw [← hdp, ← hpp, ← hlp, ← hip] at hW1 ⊢
 have HW1 := hid hW1
 clear hW1 hb1 hxb hrb hob h hq hr hdp hpp hlp hip hm1
 go_enter Tryz.func66, Tryz.ntmps66
 go_upto_region 2 with fail
 rw [← HW1.out, ← HO.out.2.2.2, ← HO.out.2.2.1]
 clear hobe hrbe
 go_wp2_with (with_reducible refine stopAt .append rfl ?_)
 refine goOn ?_
 refine app_all rfl (.tmp 14) (.tmp 16) 23 rfl flC infFlt Tryz.underlying23 rfl (by decide) (by decide) flC_len flC_one (l := []) (l2 := x.dl) (n := 0) (B := W1.heap.size) (own_nil _ _ _ _) (show Vw 1 flC W1 (.slice dp x.dn x.dc) x.dl by rw [HD.out]; exact HM1.out.d) (by have := HM1.out.dn; omega) (Nat.le_refl _) (by rfl) (by rfl) ?_
 intro dv W2 hO2 hk2
 rw [Nat.zero_add, List.nil_append] at hO2
 obtain ⟨dq, dc, rfl⟩ := own_slice2 hO2
 have hb2 : Below W1.heap.size W1 W2 := hk2.nil_below
 have hob2 := HO.out.1.below hb2 HO.out.1.lt
 have o2 : W2.cell? ⟨ob, 2, none⟩ = some (.slice none 0 0) := hob2.cell 2
 have f2 := hob2.frozen 2
 have l2 := hob2.lt
 have HS2 : Hid (CpI W1.heap.size W1 ob x (.slice dq x.dl.length dc) (.slice none 0 0) (.slice none 0 0) (.slice none 0 0) [] [] [] (W2.setCell ⟨ob, 2, none⟩ (.slice dq x.dl.length dc))) := hid
  ⟨hob2.set_ 2 _, own_set hO2 hob2 (by decide), own_nil _ _ _ _, by simp, own_nil _ _ _ _, by simp, own_nil _ _ _ _, (Kp.of_below hb2).setCell (.inl (by simp)) _, rfl⟩
 clear hO2 hk2 hb2 hob2
 go_upto_region 3 with fail
 obtain ⟨W3, hW3⟩ : ∃ W3, W3 = W2.setCell ⟨ob, 2, none⟩ (.slice dq x.dl.length dc) := ⟨_, rfl⟩
 rw [← hW3] at HS2 ⊢
 obtain ⟨⟨_, k3, _, _⟩, _, _⟩ := HC.out W3 HS2.out.bel
 clear hW3 k2 o2 f2 l2
 go_wp2
 go_loopg [5, 22] x.pn (fun gg s5 s22 wr => ∃ (j : Nat), j ≤ x.pn ∧ x.pn - j ≤ gg ∧ s22 = .int .i64 j ∧ Hid (∃ v qs, CpI W1.heap.size W1 ob x (.slice dq x.dl.length dc) v (.slice none 0 0) (.slice none 0 0) qs [] [] wr ∧ qs.length = j ∧ qs.map Prg.l = (x.ps.take j).map Prg.l))
 case atStart => exact ⟨0, by omega, by omega, rfl, hid ⟨_, [], HS2.out, rfl, rfl⟩⟩
 case round =>
  obtain ⟨j, hj, hgg, rfl, HR⟩ := hrel
  by_cases hjn : j < x.pn
  ·obtain ⟨q, hq'⟩ : ∃ q, x.ps[j]? = some q := ⟨_, List.getElem?_eq_getElem (by rw [← HM1.out.pn]; exact hjn)⟩
   obtain ⟨v, qs, hci, hqj, hqe⟩ := HR.out
   obtain ⟨_, hmr, _⟩ := HC.out wr hci.bel
   obtain ⟨g, o, e1, m0⟩ := hmr.prg hq'
   obtain rfl : pp = some ⟨g, o, none⟩ := HP.out.trans e1
   have hqm := List.mem_of_getElem? hq'
   obtain ⟨vp, vc, rfl⟩ := own_slice2 hci.p
   rw [hqj] at hci
   have hji : (j : Int) < (x.pn : Int) := by omega
   have hjz : (x.pn : Int) ≤ 1000 := by omega
   have o3 : wr.drew.cell? ⟨ob, 3, none⟩ = some (.slice vp j vc) := hci.blk.drew.cell 3
   have HQ := hid (⟨hq', hmr.pi q hqm, HH.out.2.1 q hqm, hqj, hqe, hci⟩ : _ ∧ _ ∧ _ ∧ _ ∧ _ ∧ _)
   have HJN := hid hjn
   clear hq' e1 hqm hmr hqj hqe hci
   go_wp2
   refine eRegion (fun W' => W'.cell? ⟨ob, 3, none⟩ = some (.slice vp j vc)) 7 (by kernel_rfl) (by exact o3) (fun hHeld => ?_)
   refine eTk (i := 0) (v := ?_) (by (simp only [gEa, gEb, gEc]; try rfl)) (by kernel_rfl) ?_ (Or.inl ⟨by rfl, ?_⟩) hHeld ?_; rotate_left 2; (focus (intro wz hSw; (try dsimp only at hSw); go_simp; first | done | with_reducible rfl)); rotate_left; (focus exact fun _ _ _ h => h); (try simp only [Act.put, sEa, sEb, sEc]); refine eTk (i := 1) (v := ?_) (by (simp only [gEa, gEb, gEc]; try rfl)) (by kernel_rfl) ?_ (Or.inl ⟨by rfl, ?_⟩) hHeld ?_; rotate_left 2; (focus (intro wz hSw; (try dsimp only at hSw); go_simp; first | done | with_reducible rfl)); rotate_left; (focus exact fun _ _ _ h => h); (try simp only [Act.put, sEa, sEb, sEc]); refine eTk (i := 2) (v := ?_) (by (simp only [gEa, gEb, gEc]; try rfl)) (by kernel_rfl) ?_ (Or.inl ⟨by rfl, ?_⟩) hHeld ?_; rotate_left 2; (focus (intro wz hSw; (try dsimp only at hSw); go_simp; first | done | with_reducible rfl)); rotate_left; (focus exact fun _ _ _ h => h); (try simp only [Act.put, sEa, sEb, sEc])
   refine eRn (i := 3) (by (simp only [gEa, gEb, gEc]; try rfl)) (by kernel_rfl) (by rfl) (fun K hK => ?_)
   refine step_app_all rfl _ _ 113 rfl inC infIns Tryz.underlying113 rfl (by decide) (by decide) inC_len inC_one (l := []) (l2 := q.l) (n := 0) (B := W1.heap.size) (W := wr.drew) (own_nil _ _ _ _) (HQ.out.2.1.2.below (below_drewN (Below.refl _ _) 1)) (by have := HQ.out.2.1.1; have := HQ.out.2.2.1; omega) (by have := HQ.out.2.2.2.2.2.bel.size; exact this) rfl (by rw [HQ.out.2.1.1]; rfl) ?_
   intro v1 w5 hO5 hk5
   rw [Nat.zero_add, List.nil_append] at hO5
   obtain ⟨p1, c1, rfl⟩ := own_slice2 hO5
   have hb5 : Below wr.heap.size wr w5 := (below_drewN (Below.refl _ wr) 1).trans hk5.nil_below
   have hc5 := HQ.out.2.2.2.2.2.below HQ.out.2.2.2.2.2.bel.size hb5
   refine hK.out _ _ (hc5.blk.cell 3) (fun hHeld => ?_)
   clear hK K
   (try simp only [Act.put, sEa, sEb, sEc])
   refine eRn (i := 4) (by (simp only [gEa, gEb, gEc]; try rfl)) (by kernel_rfl) (by rfl) (fun K hK => ?_)
   go_simp
   refine hK.out _ _ ((hc5.blk.alloc _).cell 3) (fun hHeld => ?_)
   clear hK K
   (try simp only [Act.put, sEa, sEb, sEc])
   refine eRn (i := 5) (by (simp only [gEa, gEb, gEc]; try rfl)) (by kernel_rfl) (by rfl) (fun K hK => ?_)
   have hO3 := hc5.p
   rw [HQ.out.2.2.2.1] at hO3
   refine step_app_one rfl _ _ 24 rfl prC infPrg Tryz.underlying24 rfl (by decide) (by decide) prC_len prC_one (⟨p1, q.l.length, c1, q.l⟩ : Prg) hO3 (by omega) (Nat.le_trans HQ.out.2.2.2.2.2.bel.size hb5.size) rfl rfl ?_
   intro v2 w6 hO6 hk6 _
   obtain ⟨p2, c2, rfl⟩ := own_slice2 hO6
   have hob6 := hc5.blk.kp hk6 fun hm => own_neb (u := (.slice none 0 0 : Value)) (m := 0) (ys := []) hO3 hc5.blk (by decide) (Option.mem_toList.1 hm)
   have o3 : w6.cell? ⟨ob, 3, none⟩ = some (.slice vp j vc) := hob6.cell 3
   have f3 := hob6.frozen 3
   have l3 := hob6.lt
   refine hK.out _ _ o3 (fun hHeld => ?_)
   clear hK K
   (try simp only [Act.put, sEa, sEb, sEc])
   have HF : Hid (CpI W1.heap.size W1 ob x (.slice dq x.dl.length dc) (.slice p2 (j + 1) c2) (.slice none 0 0) (.slice none 0 0) (qs ++ [⟨p1, q.l.length, c1, q.l⟩]) [] [] (w6.setCell ⟨ob, 3, none⟩ (.slice p2 (j + 1) c2))) := hid (by
    exact HQ.out.2.2.2.2.2.pushP HQ.out.2.2.2.2.2.bel.size hb5 (q := ⟨p1, q.l.length, c1, q.l⟩) rfl hO5 (by rw [HQ.out.2.2.2.1]; exact hO6) hk6)
   clear hO5 hk5 hb5 hc5 hO3 hO6 hk6 hob6
   refine eTk (i := 6) (v := ?_) (by (simp only [gEa, gEb, gEc]; try rfl)) (by kernel_rfl) ?_ (Or.inl ⟨by rfl, ?_⟩) hHeld ?_; rotate_left 2; (focus (intro wz hSw; (try dsimp only at hSw); go_simp; first | done | with_reducible rfl)); rotate_left; (focus exact fun _ _ _ h => h); (try simp only [Act.put, sEa, sEb, sEc]); refine eLast (by (simp only [gEa, gEb, gEc]; try rfl)) (by kernel_rfl) (by kernel_rfl) (fun K hK => ?_); go_simp; refine hK.out _ _ ?_; clear hK K; (try simp only [Act.put, sEa, sEb, sEc])
   clear hHeld o3 f3 l3
   go_wp2
   go_roundg (x.pn - (j + 1))
   case measure => omega
   case rel => exact ⟨j + 1, by have := HJN.out; omega, by omega, by go_num, hid ⟨_, _, HF.out, by simp [HQ.out.2.2.2.1], by rw [List.map_append, HQ.out.2.2.2.2.1, List.take_add_one, HQ.out.1]; simp⟩⟩
  ·have hji : ¬ (j : Int) < (x.pn : Int) := by omega
   obtain ⟨v, qs, hci, hqj, hqe⟩ := HR.out
   have hje : j = x.pn := by omega
   rw [List.take_of_length_le (by rw [← HM1.out.pn]; omega)] at hqe
   obtain ⟨vp, vc, rfl⟩ := own_slice2 hci.p
   obtain ⟨⟨_, _, k4, _⟩, _, _⟩ := HC.out wr hci.bel
   have HQ := hid (⟨hqj.trans hje, hqe, hci⟩ : _ ∧ _ ∧ _)
   obtain ⟨w3, rfl⟩ : ∃ w2, w2 = wr := ⟨_, rfl⟩
   clear hqj hje hqe hci HR HS2 k3
   go_wp2
   go_loopg [7, 37] x.ln (fun gg s7 s37 wr => ∃ (j : Nat), j ≤ x.ln ∧ x.ln - j ≤ gg ∧ s37 = .int .i64 j ∧ Hid (∃ u rs, CpI W1.heap.size W1 ob x (.slice dq x.dl.length dc) (.slice vp qs.length vc) u (.slice none 0 0) qs rs [] wr ∧ rs.length = j ∧ rs.map (fun q => (q.k, q.l)) = (x.ls.take j).map fun q => (q.k, q.l)))
   case atStart => exact ⟨0, by omega, by omega, rfl, hid ⟨_, [], HQ.out.2.2, rfl, rfl⟩⟩
   case round =>
    obtain ⟨j, hj, hgg, rfl, HR⟩ := hrel
    by_cases hjn : j < x.ln
    ·obtain ⟨q, hq'⟩ : ∃ q, x.ls[j]? = some q := ⟨_, List.getElem?_eq_getElem (by rw [← HM1.out.ln]; exact hjn)⟩
     obtain ⟨u, rs, hci, hqj, hqe⟩ := HR.out
     obtain ⟨_, hmr, _⟩ := HC.out wr hci.bel
     obtain ⟨g, o, e1, m0, m1⟩ := hmr.lpr hq'
     obtain rfl : lp = some ⟨g, o, none⟩ := HL.out.trans e1
     have hqm := List.mem_of_getElem? hq'
     obtain ⟨up, uc, rfl⟩ := own_slice2 hci.l
     rw [hqj] at hci
     have hji : (j : Int) < (x.ln : Int) := by omega
     have hjz : (x.ln : Int) ≤ 1000 := by omega
     obtain ⟨wo, hwo⟩ : ∃ wo, wo = wr.alloc (.cells #[.int .i64 q.k, .slice q.p q.n q.c] 115) := ⟨_, rfl⟩
     have hbo : Below wr.heap.size wr wo := by rw [hwo]; exact (Below.refl _ wr).alloc (Nat.le_refl _) _
     have hBo : Blk wo wr.heap.size 115 #[.int .i64 q.k, .slice q.p q.n q.c] := by rw [hwo]; exact Blk.new wr _ _
     have hco := hci.below hci.bel.size hbo
     have HUL : Hid (∀ g, (Value.slice up j uc).ownBlock = some g → g < wr.heap.size) := hid fun g hg => (hci.l.lt g hg).2
     have HQ2 := hid (⟨hq', ⟨(hmr.li q hqm).1, (hmr.li q hqm).2.below hbo⟩, HH.out.2.2 q hqm, hqj, hqe, hco, hBo, hwo⟩ : _ ∧ (_ ∧ _) ∧ _ ∧ _ ∧ _ ∧ _ ∧ _ ∧ _)
     have HJN := hid hjn
     have o4 : wo.drew.cell? ⟨ob, 4, none⟩ = some (.slice up j uc) := hco.blk.drew.cell 4
     have y0 : wo.drew.cell? ⟨wr.heap.size, 0, none⟩ = some (.int .i64 q.k) := hBo.drew.cell 0
     have y1 : wo.drew.cell? ⟨wr.heap.size, 1, none⟩ = some (.slice q.p q.n q.c) := hBo.drew.cell 1
     have HSK : Hid (∀ W', Kp [] wo W' → W'.cell? ⟨ob, 4, none⟩ = some (.slice up j uc) ∧ W'.cell? ⟨wr.heap.size, 0, none⟩ = some (.int .i64 q.k) ∧ W'.cell? ⟨wr.heap.size, 1, none⟩ = some (.slice q.p q.n q.c)) := hid fun W' hk => ⟨(hco.blk.kp hk (by simp)).cell 4, (hBo.kp hk (by simp)).cell 0, (hBo.kp hk (by simp)).cell 1⟩
     clear hq' e1 hqm hmr hqj hqe hci hwo hbo hBo hco
     go_upto_region 11 with fail
     rw [← HQ2.out.2.2.2.2.2.2.2]
     refine eRegion (fun W' => W'.cell? ⟨ob, 4, none⟩ = some (.slice up j uc) ∧ W'.cell? ⟨wr.heap.size, 0, none⟩ = some (.int .i64 q.k) ∧ W'.cell? ⟨wr.heap.size, 1, none⟩ = some (.slice q.p q.n q.c)) 11 (by kernel_rfl) (by exact ⟨o4, y0, y1⟩) (fun hHeld => ?_)
     refine eTk (i := 0) (v := ?_) (by (simp only [gEa, gEb, gEc]; try rfl)) (by kernel_rfl) ?_ (Or.inl ⟨by rfl, ?_⟩) hHeld ?_; rotate_left 2; (focus (intro wz hSw; (try dsimp only at hSw); go_simp; first | done | with_reducible rfl)); rotate_left; (focus exact fun _ _ _ h => h); (try simp only [Act.put, sEa, sEb, sEc]); refine eTk (i := 1) (v := ?_) (by (simp only [gEa, gEb, gEc]; try rfl)) (by kernel_rfl) ?_ (Or.inl ⟨by rfl, ?_⟩) hHeld ?_; rotate_left 2; (focus (intro wz hSw; (try dsimp only at hSw); go_simp; first | done | with_reducible rfl)); rotate_left; (focus exact fun _ _ _ h => h); (try simp only [Act.put, sEa, sEb, sEc]); refine eTk (i := 2) (v := ?_) (by (simp only [gEa, gEb, gEc]; try rfl)) (by kernel_rfl) ?_ (Or.inl ⟨by rfl, ?_⟩) hHeld ?_; rotate_left 2; (focus (intro wz hSw; (try dsimp only at hSw); go_simp; first | done | with_reducible rfl)); rotate_left; (focus exact fun _ _ _ h => h); (try simp only [Act.put, sEa, sEb, sEc]); refine eTk (i := 3) (v := ?_) (by (simp only [gEa, gEb, gEc]; try rfl)) (by kernel_rfl) ?_ (Or.inl ⟨by rfl, ?_⟩) hHeld ?_; rotate_left 2; (focus (intro wz hSw; (try dsimp only at hSw); go_simp; first | done | with_reducible rfl)); rotate_left; (focus exact fun _ _ _ h => h); (try simp only [Act.put, sEa, sEb, sEc]); refine eTk (i := 4) (v := ?_) (by (simp only [gEa, gEb, gEc]; try rfl)) (by kernel_rfl) ?_ (Or.inl ⟨by rfl, ?_⟩) hHeld ?_; rotate_left 2; (focus (intro wz hSw; (try dsimp only at hSw); go_simp; first | done | with_reducible rfl)); rotate_left; (focus exact fun _ _ _ h => h); (try simp only [Act.put, sEa, sEb, sEc]); refine eTk (i := 5) (v := ?_) (by (simp only [gEa, gEb, gEc]; try rfl)) (by kernel_rfl) ?_ (Or.inl ⟨by rfl, ?_⟩) hHeld ?_; rotate_left 2; (focus (intro wz hSw; (try dsimp only at hSw); go_simp; first | done | with_reducible rfl)); rotate_left; (focus exact fun _ _ _ h => h); (try simp only [Act.put, sEa, sEb, sEc])
     refine eRn (i := 6) (by (simp only [gEa, gEb, gEc]; try rfl)) (by kernel_rfl) (by rfl) (fun K hK => ?_)
     refine step_app_all rfl _ _ 32 rfl wdC infInt Tryz.underlying32 rfl (by decide) (by decide) wdC_len wdC_one (l := []) (l2 := q.l) (n := 0) (B := W1.heap.size) (W := wo.drew) (own_nil _ _ _ _) (HQ2.out.2.1.2.below (below_drewN (Below.refl _ _) 1)) (by have := HQ2.out.2.1.1; have := HQ2.out.2.2.1; omega) (by have := HQ2.out.2.2.2.2.2.1.bel.size; exact this) rfl (by rw [HQ2.out.2.1.1]; rfl) ?_
     intro v1 w5 hO5 hk5
     rw [Nat.zero_add, List.nil_append] at hO5
     obtain ⟨p1, c1, rfl⟩ := own_slice2 hO5
     have hk05 : Kp [] wo w5 := (Kp.refl [] wo).drew.trans hk5
     have hc5 := HQ2.out.2.2.2.2.2.1.below HQ2.out.2.2.2.2.2.1.bel.size hk05.nil_below
     refine hK.out _ _ (HSK.out _ hk05) (fun hHeld => ?_)
     clear hK K
     (try simp only [Act.put, sEa, sEb, sEc])
     refine eTk (i := 7) (v := ?_) (by (simp only [gEa, gEb, gEc]; try rfl)) (by kernel_rfl) ?_ (Or.inl ⟨by rfl, ?_⟩) hHeld ?_; rotate_left 2; (focus (intro wz hSw; (try dsimp only at hSw); go_simp; first | done | with_reducible rfl)); rotate_left; (focus exact fun _ _ _ h => h); (try simp only [Act.put, sEa, sEb, sEc])
     refine eRn (i := 8) (by (simp only [gEa, gEb, gEc]; try rfl)) (by kernel_rfl) (by rfl) (fun K hK => ?_)
     go_simp
     refine hK.out _ _ (HSK.out _ (hk05.alloc _)) (fun hHeld => ?_)
     clear hK K
     (try simp only [Act.put, sEa, sEb, sEc])
     refine eRn (i := 9) (by (simp only [gEa, gEb, gEc]; try rfl)) (by kernel_rfl) (by rfl) (fun K hK => ?_)
     have hO3 := hc5.l
     rw [HQ2.out.2.2.2.1] at hO3
     refine step_app_one rfl _ _ 25 rfl lpC infLP Tryz.underlying25 rfl (by decide) (by decide) lpC_len lpC_one (⟨q.k, p1, q.l.length, c1, q.l⟩ : LpR) hO3 (by omega) hc5.bel.size rfl rfl ?_
     intro v2 w6 hO6 hk6 _
     obtain ⟨p2, c2, rfl⟩ := own_slice2 hO6
     have hob6 := hc5.blk.kp hk6 fun hm => own_neb (u := (.slice none 0 0 : Value)) (m := 0) (ys := []) hO3 hc5.blk (by decide) (Option.mem_toList.1 hm)
     have o3 : w6.cell? ⟨ob, 4, none⟩ = some (.slice up j uc) := hob6.cell 4
     have f3 := hob6.frozen 4
     have l3 := hob6.lt
     have hx6 : ∀ i, w6.cell? ⟨wr.heap.size, i, none⟩ = w5.cell? ⟨wr.heap.size, i, none⟩ := fun i => by
      refine hk6.cell (p := ⟨wr.heap.size, i, none⟩) (Nat.lt_of_lt_of_le HQ2.out.2.2.2.2.2.2.1.lt hk05.size) fun hm => ?_
      exact absurd (HUL.out _ (Option.mem_toList.1 hm)) (Nat.lt_irrefl _)
     refine hK.out _ _ ⟨o3, by rw [hx6]; exact (HSK.out _ hk05).2.1, by rw [hx6]; exact (HSK.out _ hk05).2.2⟩ (fun hHeld => ?_)
     clear hK K
     (try simp only [Act.put, sEa, sEb, sEc])
     have HF : Hid (CpI W1.heap.size W1 ob x (.slice dq x.dl.length dc) (.slice vp qs.length vc) (.slice p2 (j + 1) c2) (.slice none 0 0) qs (rs ++ [⟨q.k, p1, q.l.length, c1, q.l⟩]) [] (w6.setCell ⟨ob, 4, none⟩ (.slice p2 (j + 1) c2))) := hid
      (HQ2.out.2.2.2.2.2.1.pushL HQ2.out.2.2.2.2.2.1.bel.size hk05.nil_below (q := ⟨q.k, p1, q.l.length, c1, q.l⟩) rfl hO5 (by rw [HQ2.out.2.2.2.1]; exact hO6) hk6)
     clear hO5 hk5 hk05 hc5 hO3 hO6 hk6 hob6 hx6
     refine eTk (i := 10) (v := ?_) (by (simp only [gEa, gEb, gEc]; try rfl)) (by kernel_rfl) ?_ (Or.inl ⟨by rfl, ?_⟩) hHeld ?_; rotate_left 2; (focus (intro wz hSw; (try dsimp only at hSw); go_simp; first | done | with_reducible rfl)); rotate_left; (focus exact fun _ _ _ h => h); (try simp only [Act.put, sEa, sEb, sEc]); refine eLast (by (simp only [gEa, gEb, gEc]; try rfl)) (by kernel_rfl) (by kernel_rfl) (fun K hK => ?_); go_simp; refine hK.out _ _ ?_; clear hK K; (try simp only [Act.put, sEa, sEb, sEc])
     clear hHeld o3 f3 l3 o4 y0 y1
     go_wp2
     go_roundg (x.ln - (j + 1))
     case measure => omega
     case rel => exact ⟨j + 1, by have := HJN.out; omega, by omega, by go_num, hid ⟨_, _, HF.out, by simp [HQ2.out.2.2.2.1], by rw [List.map_append, HQ2.out.2.2.2.2.1, List.take_add_one, HQ2.out.1]; simp⟩⟩
    ·have hji : ¬ (j : Int) < (x.ln : Int) := by omega
     obtain ⟨u, rs, hci, hqj, hqe⟩ := HR.out
     have hje : j = x.ln := by omega
     rw [List.take_of_length_le (by rw [← HM1.out.ln]; omega)] at hqe
     obtain ⟨up, uc, rfl⟩ := own_slice2 hci.l
     obtain ⟨⟨_, _, _, k5⟩, hmr, _⟩ := HC.out wr hci.bel
     have o5 : wr.cell? ⟨ob, 5, none⟩ = some (.slice none 0 0) := hci.blk.cell 5
     have HQ2 := hid (⟨hqj.trans hje, hqe, hci, hmr⟩ : _ ∧ _ ∧ _ ∧ _)
     obtain ⟨w4, rfl⟩ : ∃ w2, w2 = wr := ⟨_, rfl⟩
     clear hqj hje hqe hci HR hmr k4
     go_wp2_with (with_reducible refine stopAt .append rfl ?_)
     refine goOn ?_
     refine app_all rfl (.tmp 54) (.tmp 56) 26 rfl iniC infIni Tryz.underlying26 rfl (by decide) (by decide) iniC_len iniC_one (l := []) (l2 := x.is) (n := 0) (B := W1.heap.size) (own_nil _ _ _ _) (show Vw 3 iniC w4 (.slice ip x.im x.ic) x.is by rw [HI.out]; exact HQ2.out.2.2.2.i) (by have := HM1.out.im; omega) HQ2.out.2.2.1.bel.size (by rfl) (by rfl) ?_
     intro tv w5 hO5 hk5
     rw [Nat.zero_add, List.nil_append] at hO5
     obtain ⟨tp, tc, rfl⟩ := own_slice2 hO5
     have hc5 := HQ2.out.2.2.1.below HQ2.out.2.2.1.bel.size hk5.nil_below
     have hob6 := hc5.blk.set_ 5 (.slice tp x.is.length tc)
     have HF : Hid (CpI W1.heap.size W1 ob x (.slice dq x.dl.length dc) (.slice vp qs.length vc) (.slice up rs.length uc) (.slice tp x.is.length tc) qs rs x.is (w5.setCell ⟨ob, 5, none⟩ (.slice tp x.is.length tc))) := hid
      ⟨hob6, own_set hc5.d hc5.blk (by decide), own_set hc5.p hc5.blk (by decide), fun q' hq' => ⟨(hc5.pi q' hq').1, own_set (hc5.pi q' hq').2 hc5.blk (by decide)⟩, own_set hc5.l hc5.blk (by decide), fun q' hq' => ⟨(hc5.li q' hq').1, own_set (hc5.li q' hq').2 hc5.blk (by decide)⟩, own_set hO5 hc5.blk (by decide), hc5.bel.setCell (.inl (by simp)) _, rfl⟩
     have o5 : w5.cell? ⟨ob, 5, none⟩ = some (.slice none 0 0) := hc5.blk.cell 5
     have f5 := hc5.blk.frozen 5
     have l5 := hc5.blk.lt
     clear hO5 hk5 hc5 hob6 k5
     go_upto_region 14 with fail
     obtain ⟨w6, hw6⟩ : ∃ w6, w6 = w5.setCell ⟨ob, 5, none⟩ (.slice tp x.is.length tc) := ⟨_, rfl⟩
     rw [← hw6] at HF ⊢
     obtain ⟨_, _, hrb⟩ := HC.out w6 HF.out.bel
     have hob := HF.out.blk
     have a0 : w6.cell? ⟨ob, 0, none⟩ = some (.int .i64 x.seed) := hob.cell 0
     have a1 : w6.cell? ⟨ob, 1, none⟩ = some (.float .f64 x.en) := hob.cell 1
     have a2 : w6.cell? ⟨ob, 2, none⟩ = some (.slice dq x.dl.length dc) := hob.cell 2
     have a3 : w6.cell? ⟨ob, 3, none⟩ = some (.slice vp qs.length vc) := hob.cell 3
     have a4 : w6.cell? ⟨ob, 4, none⟩ = some (.slice up rs.length uc) := hob.cell 4
     have a5 : w6.cell? ⟨ob, 5, none⟩ = some (.slice tp x.is.length tc) := hob.cell 5
     have b0 : w6.cell? ⟨rb, 0, none⟩ = some (.int .i64 0) := hrb.cell 0
     have b1 : w6.cell? ⟨rb, 1, none⟩ = some (.float .f64 0) := hrb.cell 1
     have b2 : w6.cell? ⟨rb, 2, none⟩ = some (.slice none 0 0) := hrb.cell 2
     have b3 : w6.cell? ⟨rb, 3, none⟩ = some (.slice none 0 0) := hrb.cell 3
     have b4 : w6.cell? ⟨rb, 4, none⟩ = some (.slice none 0 0) := hrb.cell 4
     have b5 : w6.cell? ⟨rb, 5, none⟩ = some (.slice none 0 0) := hrb.cell 5
     have g0 := hrb.frozen 0
     have g1 := hrb.frozen 1
     have g2 := hrb.frozen 2
     have g3 := hrb.frozen 3
     have g4 := hrb.frozen 4
     have g5 := hrb.frozen 5
     have g6 := hrb.lt
     have HRB := hid hrb
     clear hw6 hob hrb o5 f5 l5
     go_wp2
     have hR := HRB.out.put6 (.int .i64 x.seed) (.float .f64 x.en) (.slice dq x.dl.length dc) (.slice vp qs.length vc) (.slice up rs.length uc) (.slice tp x.is.length tc)
     have r0 := hR.cell 0
     have r1 := hR.cell 1
     have r2 := hR.cell 2
     have r3 := hR.cell 3
     have r4 := hR.cell 4
     have r5 := hR.cell 5
     simp only [List.getElem?_toArray, List.getElem?_cons_zero, List.getElem?_cons_succ] at r0 r1 r2 r3 r4 r5
     refine bodyPost_ret (v := .agg #[.int .i64 x.seed, .float .f64 x.en, .slice dq x.dl.length dc, .slice vp qs.length vc, .slice up rs.length uc, .slice tp x.is.length tc]) (by simp [results, Tryz.results66, go_sem, r0, r1, r2, r3, r4, r5]) rfl ?_
     have hB := HO.out
     refine ⟨⟨x.seed, x.en, dq, x.dl.length, dc, x.dl, vp, qs.length, vc, qs, up, rs.length, uc, rs, tp, x.is.length, tc, x.is⟩, rfl, HF.out.md (fun b hb => heap_put6 w6 rb b (by omega) _ _ _ _ _ _) rfl rfl rfl rfl, ?_, ?_⟩
     ·unfold MdV.m
      simp only
      rw [HQ.out.2.1, HQ2.out.2.1]
     ·exact below_put6 (hB.2.1.trans (HF.out.bel.to_below hB.2.1.size (by simp; omega))) (by omega) _ _ _ _ _ _
end
section
open Go.RowKit Go.Lib
theorem ibof (p : Addr) (lp : Int) (h : 0 ≤ lp ∧ lp < 6) (w : World) : Calls Tryz.prog 67 #[.pointer (some p), .int .i64 lp] w fun e w' => (∃ q, e = .returned (.tuple #[.pointer (some q), .int .i64 0])) ∧ Below w.heap.size w w' := by
 have h1 : ¬ lp < 0 := by omega
 have h2 : ¬ (6 : Int) ≤ lp := by omega
 clear h
 go_enter Tryz.func67, Tryz.ntmps67
 go_wp2
 go_ret2
 exact ⟨⟨_, rfl⟩, (Below.refl _ w).alloc (Nat.le_refl _) _⟩
theorem snof (p : Addr) (lp : Int) (h : 0 ≤ lp ∧ lp < 6) (w : World) : Calls Tryz.prog 68 #[.pointer (some p), .int .i64 lp] w fun e w' => (∃ q, e = .returned (.tuple #[.pointer (some q), .int .i64 0])) ∧ Below w.heap.size w w' := by
 have h1 : ¬ lp < 0 := by omega
 have h2 : ¬ (6 : Int) ≤ lp := by omega
 clear h
 go_enter Tryz.func68, Tryz.ntmps68
 go_wp2
 go_ret2
 exact ⟨⟨_, rfl⟩, (Below.refl _ w).alloc (Nat.le_refl _) _⟩
theorem lpof_nil (x : MdV) (n : Int) (w : World) : Calls Tryz.prog 13 #[.pointer none, .agg (mdC x).toArray, .int .i64 n] w fun e w' => e = .returned (.tuple #[.pointer none, .int .i64 1]) ∧ Below w.heap.size w w' := by
 unfold mdC
 go_enter Tryz.func13, Tryz.ntmps13
 go_wp2
 go_ret2
 refine ⟨rfl, ?_⟩
 first | exact ((Below.refl _ w).alloc (Nat.le_refl _) _).alloc (by simp) _ | exact (Below.refl _ w).alloc (Nat.le_refl _) _ | exact Below.refl _ w
def lpE (m : Mdl) (n : Int) : Int := if checkB m = true then (if n < 0 ∨ (m.lp.length : Int) ≤ n then 2 else 0) else 15
def LpOfP (W : World) (x : MdV) (n : Int) (e : Ending) (w' : World) : Prop := (∃ q : Value, e = .returned (.tuple #[q, .int .i64 (lpE x.m n)]) ∧ (lpE x.m n = 0 → ∃ a, q = .pointer (some a)) ∧ (lpE x.m n ≠ 0 → q = .pointer none)) ∧ Below W.heap.size W w'
theorem check_counts {m : Mdl} (h : checkB m = true) : m.lp.length ≤ 6 := by
 unfold checkB countsB at h
 simp only [Bool.and_eq_true, decide_eq_true_eq] at h
 exact h.1.1.2.1
set_option maxHeartbeats 8000000 in
theorem lpof_any {W : World} {x : MdV} (h : MdAt W x) (hd : x.dn ≤ 1000) (hp : x.pn ≤ 1000) (hl : x.ln ≤ 1000) (hi : x.im ≤ 1000) (hq : ∀ q ∈ x.ps, q.n ≤ 1000) (hr : ∀ q ∈ x.ls, q.n ≤ 1000) (p : Addr) (n : Int) :
  Calls Tryz.prog 13 #[.pointer (some p), .agg (mdC x).toArray, .int .i64 n] W (LpOfP W x n) := by
 have hml : x.m.lp.length = x.ln := by unfold MdV.m; rw [List.length_map, ← h.ln]
 obtain ⟨ec, hec⟩ : ∃ e : Int, e = if checkB x.m = true then 0 else 15 := ⟨_, rfl⟩
 have HC := hid (fun W1 (hb : Below W.heap.size W W1) => mcheck_any (h.below hb) hd hp hl hi hq)
 have HY := hid (fun W1 (hb : Below W.heap.size W W1) => mcopy_any (h.below hb) hd hp hl hi hq hr)
 rw [← hec] at HC
 obtain ⟨r0, hr0⟩ : ∃ r, r = lpE x.m n := ⟨_, rfl⟩
 have HR : Hid (∀ q W', (r0 = 0 → ∃ a, q = .pointer (some a)) → (r0 ≠ 0 → q = .pointer none) → Below W.heap.size W W' → LpOfP W x n (.returned (.tuple #[q, .int .i64 r0])) W') := hid fun q W' h1 h2 h3 => by rw [hr0] at h1 h2 ⊢; exact ⟨⟨q, rfl, h1, h2⟩, h3⟩
 generalize hP : LpOfP W x n = PP at HR ⊢
 unfold lpE at hr0
 rw [hml] at hr0
 have hbw : Hid (∀ o, Below W.heap.size W (W.alloc o)) := hid fun o => (Below.refl _ W).alloc (Nat.le_refl _) _
 by_cases hc : checkB x.m = true
 ·have hln : x.ln ≤ 6 := by have := check_counts hc; omega
  rw [if_pos hc] at hr0 hec
  rw [hec] at HC
  by_cases hn : n < 0 ∨ (x.ln : Int) ≤ n
  ·rw [if_pos hn] at hr0
   rw [hr0] at HR
   have hn2 : n < 0 ∨ (¬ n < 0 ∧ (x.ln : Int) ≤ n) := by omega
   clear hP hml h hec hr0 hc hn
   unfold mdC at HC HY ⊢
   rcases hn2 with h1 | ⟨h1, h2⟩
   all_goals
    go_enter Tryz.func13, Tryz.ntmps13
    go_wp2_with (go_at_call 65; refine (HC.out _ (hbw.out _)).mono ?_; rintro e W2 ⟨rfl, hb2⟩; have hB2 := (Blk.new W 28 #[.int .i64 x.seed, .float .f64 x.en, .slice x.dp x.dn x.dc, .slice x.pp x.pn x.pc, .slice x.lp x.ln x.lc, .slice x.ip x.im x.ic]).below hb2 (by simp); have c0 : W2.cell? ⟨W.heap.size, 0, none⟩ = some (.int .i64 x.seed) := hB2.cell 0; have c1 : W2.cell? ⟨W.heap.size, 1, none⟩ = some (.float .f64 x.en) := hB2.cell 1; have c2 : W2.cell? ⟨W.heap.size, 2, none⟩ = some (.slice x.dp x.dn x.dc) := hB2.cell 2; have c3 : W2.cell? ⟨W.heap.size, 3, none⟩ = some (.slice x.pp x.pn x.pc) := hB2.cell 3; have c4 : W2.cell? ⟨W.heap.size, 4, none⟩ = some (.slice x.lp x.ln x.lc) := hB2.cell 4; have c5 : W2.cell? ⟨W.heap.size, 5, none⟩ = some (.slice x.ip x.im x.ic) := hB2.cell 5; clear hB2; have HB2 := hid ((hbw.out _).trans (hb2.mono (by simp))); clear hb2)
    try go_ret2
    exact HR.out (.pointer none) _ (fun h => absurd h (by decide)) (fun _ => rfl) HB2.out
  ·rw [if_neg hn] at hr0
   rw [hr0] at HR
   have h1 : ¬ n < 0 := by omega
   have h2 : ¬ (x.ln : Int) ≤ n := by omega
   have h6 := hid (show 0 ≤ n ∧ n < 6 by omega)
   clear hP hml h hn hec hr0 hc
   unfold mdC at HC HY ⊢
   go_enter Tryz.func13, Tryz.ntmps13
   go_wp2_with (first
    | (go_at_call 65; refine (HC.out _ (hbw.out _)).mono ?_; rintro e W2 ⟨rfl, hb2⟩; have hB2 := (Blk.new W 28 #[.int .i64 x.seed, .float .f64 x.en, .slice x.dp x.dn x.dc, .slice x.pp x.pn x.pc, .slice x.lp x.ln x.lc, .slice x.ip x.im x.ic]).below hb2 (by simp); have c0 : W2.cell? ⟨W.heap.size, 0, none⟩ = some (.int .i64 x.seed) := hB2.cell 0; have c1 : W2.cell? ⟨W.heap.size, 1, none⟩ = some (.float .f64 x.en) := hB2.cell 1; have c2 : W2.cell? ⟨W.heap.size, 2, none⟩ = some (.slice x.dp x.dn x.dc) := hB2.cell 2; have c3 : W2.cell? ⟨W.heap.size, 3, none⟩ = some (.slice x.pp x.pn x.pc) := hB2.cell 3; have c4 : W2.cell? ⟨W.heap.size, 4, none⟩ = some (.slice x.lp x.ln x.lc) := hB2.cell 4; have c5 : W2.cell? ⟨W.heap.size, 5, none⟩ = some (.slice x.ip x.im x.ic) := hB2.cell 5; clear hB2; have HB2 := hid ((hbw.out _).trans (hb2.mono (by simp))); clear hb2)
    | (go_at_call 66; refine (HY.out _ HB2.out).mono ?_; rintro e W3 ⟨y, rfl, hy, hm, hb3⟩; clear hy hm; have HB3 := hid (HB2.out.trans (hb3.mono HB2.out.size)); clear hb3; unfold mdC)
    | (go_at_call 67; refine (ibof p n h6.out _).mono ?_; rintro e W4 ⟨⟨qi, rfl⟩, hb4⟩; have B4 := (Blk.new W3 _ _).below hb4 (by simp); have d8 := B4.cell 8; have z8 := B4.frozen 8; have z9 := B4.frozen 9; have l4 := B4.lt; have d9 := B4.cell 9; have HB4 := hid (HB3.out.trans (((Below.refl _ W3).alloc (Nat.le_refl _) _).mono HB3.out.size |>.trans (hb4.mono (by simp; have := HB3.out.size; omega)))); simp at d8 d9; clear B4 hb4)
    | (go_at_call 68; (refine (snof p n h6.out _).mono ?_; rintro e W5 ⟨⟨qs, rfl⟩, hb5⟩; have d9' : W5.cell? ⟨W3.heap.size, 9, none⟩ = some (.pointer none) := (hb5.cell (p := ⟨W3.heap.size, 9, none⟩) (by simpa using l4)).trans ((World.cell?_setCell_other _ _ _ _ (by simp)).trans d9); have z9' : W5.frozen? ⟨W3.heap.size, 9, none⟩ = false := (hb5.frozen (p := ⟨W3.heap.size, 9, none⟩) (by simpa using l4)).trans (by simpa using z9); have HB5 := hid ((HB4.out.setCell (p := ⟨W3.heap.size, 8, none⟩) (by exact HB3.out.size) (.pointer (some qi))).trans (hb5.mono (by simpa using HB4.out.size))); clear hb5 d9 z9)))
   try go_ret2
   exact HR.out (.pointer (some ⟨W3.heap.size, 0, none⟩)) _ (fun _ => ⟨_, rfl⟩) (fun h => absurd rfl h) (HB5.out.setCell (by exact HB3.out.size) _)
 ·rw [if_neg hc] at hr0 hec
  rw [hec] at HC
  rw [hr0] at HR
  clear hP hml h hec hr0 hc
  unfold mdC at HC HY ⊢
  go_enter Tryz.func13, Tryz.ntmps13
  go_wp2_with (go_at_call 65; refine (HC.out _ (hbw.out _)).mono ?_; rintro e W2 ⟨rfl, hb2⟩)
  try go_ret2
  exact HR.out (.pointer none) _ (fun h => absurd h (by decide)) (fun _ => rfl) ((hbw.out _).trans (hb2.mono (by simp)))
end
end Go.Proofs.YtfkoaooceickiaaGreat
