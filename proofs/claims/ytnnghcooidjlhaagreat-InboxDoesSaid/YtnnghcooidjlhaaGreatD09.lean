/- Parts of the proof: Pt Ta Tb Tc. -/
import Derived.Deep.LoopGhost
import Derived.Lib.Hide
import Derived.Test.YtnnghcooidjlhaaGreatD01
import Derived.Test.YtnnghcooidjlhaaGreatD02
import Derived.Test.YtnnghcooidjlhaaGreatD08
set_option linter.all false
set_option maxRecDepth 100000
namespace Go.Proofs.YtnnghcooidjlhaaGreat
section
open Go.RowKit Go.Lib
section
variable {w w' : World} {P : PL} {G : ShG} {l : List Fr} {hand : Nat} {p0 pgs : List (Option Bs)}
theorem pi_put1 {O : List Nat} {q : Nat} (h : PoH w P O q pgs) (b b0 : Bs) (hb : b.length ≤ 232) {B1 B2 B3 : Nat} (h1 : w.cell? ⟨B1, 0, none⟩ = some (.pointer (some ⟨P.p, 0, none⟩))) (h2 : w.cell? ⟨B2, 0, none⟩ = some (.int .i64 q)) (h3 : w.cell? ⟨B3, 0, none⟩ = some (.string (S b))) :
  Calls Tryz.prog 254 #[.string (S b0), .pointer (some ⟨B1, 0, none⟩), .pointer (some ⟨B2, 0, none⟩), .pointer (some ⟨B3, 0, none⟩)] w fun e w' => e = .returned (.int .i64 0) ∧ Kp O w w' ∧ PoH w' P O q (pgs.set q (some (pad b))) := by
 have HS := hid (pi_set h b hb)
 clear h
 go_enter Tryz.func254, Tryz.ntmps254
 go_wp2_with fail
 refine HS.out.mono ?_
 rintro e W1 ⟨rfl, hk1, h1⟩
 have H1 := hid h1
 have HK1 := hid hk1
 clear h1 hk1
 go_wp2
 go_ret
 exact ⟨rfl, HK1.out, H1.out⟩
theorem pi_with_put {O : List Nat} (h : PoI w P O pgs) {q : Nat} {b0 : Bs} (hq : pgs[q]? = some (some b0)) (b : Bs) (hb : b.length ≤ 232) {B1 B2 B3 : Nat} (h1 : w.cell? ⟨B1, 0, none⟩ = some (.pointer (some ⟨P.p, 0, none⟩))) (h2 : w.cell? ⟨B2, 0, none⟩ = some (.int .i64 q)) (h3 : w.cell? ⟨B3, 0, none⟩ = some (.string (S b)))
  (o1 : B1 ∉ O) (o2 : B2 ∉ O) (o3 : B3 ∉ O) :
  Calls Tryz.prog 243 #[.pointer (some ⟨P.p, 0, none⟩), .int .i64 q, .func (.func 254) #[] #[.pointer (some ⟨B1, 0, none⟩), .pointer (some ⟨B2, 0, none⟩), .pointer (some ⟨B3, 0, none⟩)]] w fun e w' => e = .returned (.int .i64 0) ∧ Kp O w w' ∧ PoI w' P O (pgs.set q (some (pad b))) := by
 have HH := hid (pi_hold h hq)
 have H1 := hid h1
 have H2 := hid h2
 have H3 := hid h3
 clear h h1 h2 h3
 go_enter Tryz.func243, Tryz.ntmps243
 go_wp2_with fail
 refine HH.out.mono ?_
 rintro e W1 ⟨rfl, hk1, h1⟩
 have HG := hid (pi_put1 h1 b b0 hb ((hk1.cell (p := ⟨B1, 0, none⟩) (block_lt_of_cell H1.out) o1).trans H1.out) ((hk1.cell (p := ⟨B2, 0, none⟩) (block_lt_of_cell H2.out) o2).trans H2.out) ((hk1.cell (p := ⟨B3, 0, none⟩) (block_lt_of_cell H3.out) o3).trans H3.out))
 have HK1 := hid hk1
 clear hk1 h1
 go_wp2_with fail
 refine HG.out.mono ?_
 rintro e W2 ⟨rfl, hk2, h2⟩
 have HL := hid (pi_let h2)
 have HK2 := hid hk2
 clear h2 hk2
 go_wp2_with fail
 refine HL.out.mono ?_
 rintro e W3 ⟨rfl, hk3, h3⟩
 have H3 := hid h3
 have HK3 := hid hk3
 clear h3 hk3
 go_wp2
 go_ret
 exact ⟨rfl, (HK1.out.trans HK2.out).trans HK3.out, H3.out⟩
theorem pi_put {O : List Nat} (h : PoI w P O pgs) {q : Nat} {b0 : Bs} (hq : pgs[q]? = some (some b0)) (b : Bs) (hb : b.length ≤ 232) :
  Calls Tryz.prog 234 #[.pointer (some ⟨P.p, 0, none⟩), .int .i64 q, .string (S b)] w fun e w' => e = .returned (.int .i64 0) ∧ Kp O w w' ∧ PoI w' P O (pgs.set q (some (pad b))) := by
 have hB : Below w.heap.size w (((w.alloc (.cells #[.pointer (some ⟨P.p, 0, none⟩)] 189)).alloc (.cells #[.int .i64 q] 3)).alloc (.cells #[.string (S b)] 9)) :=
  (((Below.refl _ w).alloc (Nat.le_refl _) _).alloc (by simp) _).alloc (by simp; omega) _
 have hno : ∀ k, w.heap.size + k ∉ O := fun k hx => by have := h.lts _ hx; omega
 have b1 : (((w.alloc (.cells #[.pointer (some ⟨P.p, 0, none⟩)] 189)).alloc (.cells #[.int .i64 q] 3)).alloc (.cells #[.string (S b)] 9)).cell? ⟨w.heap.size, 0, none⟩ = some (.pointer (some ⟨P.p, 0, none⟩)) := by simp [go_sem]
 have b2 : (((w.alloc (.cells #[.pointer (some ⟨P.p, 0, none⟩)] 189)).alloc (.cells #[.int .i64 q] 3)).alloc (.cells #[.string (S b)] 9)).cell? ⟨w.heap.size + 1, 0, none⟩ = some (.int .i64 q) := by simp [go_sem]
 have b3 : (((w.alloc (.cells #[.pointer (some ⟨P.p, 0, none⟩)] 189)).alloc (.cells #[.int .i64 q] 3)).alloc (.cells #[.string (S b)] 9)).cell? ⟨w.heap.size + 1 + 1, 0, none⟩ = some (.string (S b)) := by simp [go_sem]
 have HW := hid (pi_with_put (h.below hB) hq b hb b1 b2 b3 (hno 0) (hno 1) (hno 2))
 have HB := hid hB
 have hb' : ¬ (232 : Int) < (b.length : Int) := by omega
 clear hB b1 b2 b3 h hq
 go_enter Tryz.func234, Tryz.ntmps234
 go_wp2_with fail
 refine HW.out.mono ?_
 rintro e W1 ⟨rfl, hk1, h1⟩
 have H1 := hid h1
 have HK1 := hid hk1
 clear h1 hk1
 go_wp2
 go_ret
 exact ⟨rfl, (Kp.of_below HB.out).trans HK1.out, H1.out⟩
theorem pi_new {O : List Nat} (h : PoI w P O pgs) (b : Bs) (hb : b.length ≤ 232) (hsm : somes pgs < 300) :
  Calls Tryz.prog 185 #[.pointer (some ⟨P.p, 0, none⟩), .string (S b)] w fun e w' => ∃ (q : Nat) (O' : List Nat), e = .returned (.tuple #[.int .i64 q, .int .i64 0]) ∧ q ≤ pgs.length ∧ (pgs[q]? = some none ∨ q = pgs.length) ∧
   PoI w' P O' (newAt pgs q (pad b)) ∧ Kp O w w' ∧ Gr O w.heap.size O' := by
 obtain ⟨G, l, hand, p0, rfl, h, h0⟩ := h
 have HN := hid (sh_new h.sh b hb (by rw [← h.rl.somes]; exact hsm))
 have c0 := h.fr.c0
 have H := hid h
 have H0 := hid h0
 clear h h0
 go_enter Tryz.func185, Tryz.ntmps185
 go_wp2_with fail
 refine HN.out.mono ?_
 rintro e W1 ⟨q, G', rfl, hq1, hq2, h1, hk1, hg1⟩
 have H1 := hid h1
 have HK1 := hid hk1
 clear h1 hk1
 go_wp2
 go_ret2
 have hp : P.p ∉ shOwn P.S G' := hg1.out H.out.fr.c.lt H.out.np
 have hf : P.f ∉ shOwn P.S G' := hg1.out H.out.fr.f_lt H.out.nf
 refine ⟨q, poOwn P G', rfl, by rw [H.out.rl.len]; exact hq1, ?_, ⟨G', l, hand, newAt p0 q (pad b), rfl, ⟨H.out.fr.kp HK1.out H.out.np H.out.nf, H1.out, hp, hf, H.out.rl.new_ hq2⟩, H0.out⟩, HK1.out.mono (fun x hx => .inl (by simp [poOwn, hx])), fun x hx => ?_⟩
 ·rcases hq2 with h2 | h2
  ·exact .inl ((H.out.rl.none_iff q).2 h2)
  ·exact .inr (by rw [H.out.rl.len]; exact h2)
 ·simp only [poOwn, List.mem_cons] at hx ⊢
  rcases hx with rfl | rfl | hx
  ·exact .inl (.inl rfl)
  ·exact .inl (.inr (.inl rfl))
  ·rcases hg1 x hx with h2 | h2
   ·exact .inl (.inr (.inr h2))
   ·exact .inr h2
theorem pi_store {O : List Nat} (h : PoI w P O pgs) :
  Calls Tryz.prog 144 #[.pointer (some ⟨P.p, 0, none⟩)] w fun e w' => e = .returned (.pointer (some ⟨P.S.s, 0, none⟩)) ∧ w = w' := by
 obtain ⟨G, l, hand, p0, rfl, h, h0⟩ := h
 have c0 := h.fr.c0
 clear h h0
 go_enter Tryz.func144, Tryz.ntmps144
 go_wp2
 go_ret
 exact ⟨rfl, rfl⟩
theorem po_empty (w : World) :
  Calls Tryz.prog 143 #[] w fun e w' => e = .returned (.agg #[.int .i64 (-1), .string ⟨#[]⟩, .int .i64 0, .bool false, .bool false]) ∧ Below w.heap.size w w' := by
 go_enter Tryz.func143, Tryz.ntmps143
 go_wp2
 exact bodyPost_ret (v := .agg #[.int .i64 (-1), .string ⟨#[]⟩, .int .i64 0, .bool false, .bool false]) (by simp [results, Tryz.results143, go_sem]) rfl ⟨rfl, (Below.refl _ w).alloc (Nat.le_refl _) _⟩
set_option maxHeartbeats 1000000 in
theorem pi_drop {O : List Nat} (h : PoI w P O pgs) {q : Nat} {b0 : Bs} (hq : pgs[q]? = some (some b0)) :
  Calls Tryz.prog 221 #[.pointer (some ⟨P.p, 0, none⟩), .int .i64 q] w fun e w' => e = .returned (.int .i64 0) ∧ Kp O w w' ∧ PoI w' P O (pgs.set q none) := by
 obtain ⟨G, l, hand, p0, rfl, h, h0⟩ := h
 have HFI := hid (po_find h.fr q)
 obtain ⟨b1, hb1⟩ := h.rl.below_some hq
 have HD := hid (fun W (hW : Below w.heap.size w W) => sh_drop (h.sh.below hW) q b1 hb1)
 have H := hid h
 have H0 := hid h0
 have HQ := hid hq
 clear h h0 hq hb1
 go_enter Tryz.func221, Tryz.ntmps221
 go_wp2_with fail
 refine HFI.out.mono ?_
 rintro e W1 ⟨hb1, ⟨rfl, hx⟩ | ⟨k, y, hk, rfl, hx, hx2⟩⟩
 ·have H1 := hid (H.out.below hb1)
  have d0 := H1.out.fr.c0
  have d1 := H1.out.fr.c1
  have HD1 := hid (HD.out W1 hb1)
  have HB1 := hid hb1
  have HX := hid hx
  clear hb1 hx
  go_wp2_with fail
  refine HD1.out.mono ?_
  rintro e W2 ⟨rfl, hk2, p, T, h2⟩
  have HK2 := hid hk2
  have H2 := hid h2
  clear hk2 h2
  go_wp2
  go_ret
  exact ⟨rfl, (Kp.of_below HB1.out).trans (HK2.out.mono (fun x hx => .inl (by simp [poOwn, hx]))), ⟨{ G with K := G.K.set p 0, T := T }, l, hand, _, rfl, ⟨H1.out.fr.kp HK2.out H1.out.np H1.out.nf, H2.out, H1.out.np, H1.out.nf, H1.out.rl.drop_ HX.out⟩, H0.out⟩⟩
 ·have H1 := hid (H.out.below hb1)
  have d0 := H1.out.fr.c0
  have d1 := H1.out.fr.c1
  have e2 : W1.cell? ⟨P.f, k * 5 + 2, none⟩ = some (.int .i64 y.held) := H1.out.fr.cell hx (j := 2) (by omega) rfl
  rw [H0.out k y hx] at e2
  have hk0 : (0 : Int) ≤ (k : Int) := by omega
  have hk1 : (k : Int) < 5 := by omega
  have HD1 := hid (HD.out W1 hb1)
  have HB1 := hid hb1
  have HX := hid hx
  clear hb1 hx
  go_wp2_with fail
  refine HD1.out.mono ?_
  rintro e W2 ⟨rfl, hk2, p, T, h2⟩
  have HF2 := hid (H1.out.fr.kp hk2 H1.out.np H1.out.nf)
  have c1 := HF2.out.c1
  have HK2 := hid hk2
  have H2 := hid h2
  have HE := hid (po_empty W2.drew)
  have hpl := HF2.out.c.lt
  clear hk2 h2 d0 d1 e2
  have C1 := hid c1
  have C1d : Hid (W2.drew.cell? ⟨P.p, 1, none⟩ = some (.slice (some ⟨P.f, 0, none⟩) 5 P.cap)) := hid c1
  go_wp2
  go_region_held3 (fun w' => w'.cell? ⟨P.p, 1, none⟩ = some (.slice (some ⟨P.f, 0, none⟩) 5 P.cap)) (first | with_reducible exact C1.out | with_reducible exact C1d.out | with_reducible exact HFB.out.c1 | with_reducible exact (World.cell?_of_block (frame_heap _ _ _ _ _ _ _ _ P.p HF2.out.ne)).trans HFB.out.c1) (first | (go_at_call 143; refine HE.out.mono ?_; rintro e w1 ⟨rfl, hb1⟩; have hB1 : Below W2.heap.size W2 w1 := (Below.refl W2.heap.size W2).drew.trans hb1; have HFB := hid (HF2.out.below hB1); have r0 : w1.cell? ⟨P.f, k * 5, none⟩ = some (.int .i64 y.page) := HFB.out.cell HX.out (j := 0) (by omega) rfl; have r1 : w1.cell? ⟨P.f, k * 5 + 1, none⟩ = some (.string (S y.pay)) := HFB.out.cell HX.out (j := 1) (by omega) rfl; have r2 : w1.cell? ⟨P.f, k * 5 + 2, none⟩ = some (.int .i64 y.held) := HFB.out.cell HX.out (j := 2) (by omega) rfl; have r3 : w1.cell? ⟨P.f, k * 5 + 3, none⟩ = some (.bool y.dirty) := HFB.out.cell HX.out (j := 3) (by omega) rfl; have r4 : w1.cell? ⟨P.f, k * 5 + 4, none⟩ = some (.bool y.used) := HFB.out.cell HX.out (j := 4) (by omega) rfl; have f0 := HFB.out.frozen (k * 5); have f1 := HFB.out.frozen (k * 5 + 1); have f2 := HFB.out.frozen (k * 5 + 2); have f3 := HFB.out.frozen (k * 5 + 3); have f4 := HFB.out.frozen (k * 5 + 4)))
  go_wp2
  go_ret
  have hk3 : Kp (poOwn P G) w w1 := ((Kp.of_below HB1.out).trans (HK2.out.mono (fun x hx => .inl (by simp [poOwn, hx])))).trans (Kp.of_below hB1)
  refine ⟨rfl, frame_kp hk3 (by simp [poOwn]) k _ _ _ _ _, ⟨{ G with K := G.K.set p 0, T := T }, _, hand, _, rfl, ⟨HFB.out.lay HX.out ⟨-1, [], 0, false, false⟩, (H2.out.below hB1).of_blocks (fun c hc => frame_heap _ _ _ _ _ _ _ _ c (fun e => H1.out.nf (by rwa [e] at hc))), H1.out.np, H1.out.nf, H1.out.rl.drop2 HX.out hx2 (by show (-1 : Int) < 0; omega) rfl⟩, fun j z hj => ?_⟩⟩
  rcases set_get hj with ⟨rfl, rfl⟩ | ⟨hne, h1⟩
  ·rfl
  ·exact H0.out j z h1
end
end
section
open Go.RowKit Go.Lib
theorem i64_or_nat (a b : Nat) (ha : a < 4611686018427387904) (hb : b < 4611686018427387904) : bits .or .i64 (a : Int) (b : Int) = ((a ||| b : Nat) : Int) := by
 have hx : a ||| b < 2 ^ 62 := Nat.or_lt_two_pow (by omega) (by omega)
 show IntKind.i64.wrap ((BitVec.ofInt 64 (a : Int) ||| BitVec.ofInt 64 (b : Int)).toNat : Int) = _
 rw [BitVec.toNat_or, ofInt_u64 a (by omega), ofInt_u64 b (by omega), IntKind.wrap_i64]
 omega
theorem or_two (x y : UInt8) : bits .or .i64 ((x.toNat : Int) * 256) (y.toNat : Int) = (un2 x y : Int) := by
 have hx := x.toNat_lt
 have hy := y.toNat_lt
 have e : ((x.toNat : Int) * 256) = ((x.toNat * 256 : Nat) : Int) := by omega
 rw [e, i64_or_nat _ _ (by omega) (by omega), nat_join8 _ _ (by omega) (by omega)]
 rfl
theorem two_any (w : World) (l : Bs) (i : Nat) (x y : UInt8) (hx : l[i]? = some x) (hy : l[i + 1]? = some y) (hl : l.length ≤ 1000000) :
  Calls Tryz.prog 261 #[.string (S l), .int .i64 i] w fun e w' => e = .returned (.int .i64 (un2 x y)) ∧ ∃ n, w.drewN n = w' := by
 have h1 := (List.getElem?_eq_some_iff.1 hx)
 have h2 := (List.getElem?_eq_some_iff.1 hy)
 have b0 : (0 : Int) ≤ (i : Int) := by omega
 have b1 : (i : Int) < (l.length : Int) := by have := h1.1; omega
 have b2 : (0 : Int) ≤ (i : Int) + 1 := by omega
 have b3 : (i : Int) + 1 < (l.length : Int) := by have := h2.1; omega
 have t1 : ((i : Int) + 1).toNat = i + 1 := by omega
 have d1 : l.getD i 0 = x := by simp [List.getD, hx]
 have d2 : l.getD (i + 1) 0 = y := by simp [List.getD, hy]
 have hx8 : x.toNat < 256 := x.toNat_lt
 have hy8 : y.toNat < 256 := y.toNat_lt
 have w1 : IntKind.i64.wrap ((i : Int) + 1) = (i : Int) + 1 := by rw [IntKind.wrap_i64]; omega
 have w2 : IntKind.i64.wrap (x.toNat : Int) = (x.toNat : Int) := by rw [IntKind.wrap_i64]; omega
 have w3 : IntKind.i64.wrap (y.toNat : Int) = (y.toNat : Int) := by rw [IntKind.wrap_i64]; omega
 have w4 : IntKind.i64.wrap ((x.toNat : Int) * 256) = (x.toNat : Int) * 256 := by rw [IntKind.wrap_i64]; omega
 go_enter Tryz.func261, Tryz.ntmps261
 go_wp2
 go_quiet (fail)
 go_wp2
 go_ret
 exact ⟨by rw [← or_two]; rfl, nq, rfl⟩
theorem setAt_two (cur : Bs) (i : Nat) (a b : UInt8) (h : i + 2 ≤ cur.length) : setAt cur i [a, b] = (cur.set i a).set (i + 1) b := by
 apply List.ext_getElem?
 intro j
 rw [List.getElem?_set, List.getElem?_set]
 unfold setAt
 rcases Nat.lt_trichotomy j i with hj | hj | hj
 ·rw [if_neg (by omega), if_neg (by omega), List.append_assoc, List.getElem?_append_left (by simp; omega), List.getElem?_take, if_pos hj]
 ·subst hj
  rw [if_neg (by omega), if_pos rfl, if_pos (by omega), List.append_assoc, List.getElem?_append_right (by simp; omega)]
  simp [Nat.min_eq_left (show j ≤ cur.length by omega)]
 ·by_cases h1 : j = i + 1
  ·subst h1
   rw [if_pos rfl, if_pos (by simp; omega), List.append_assoc, List.getElem?_append_right (by simp; omega)]
   simp [Nat.min_eq_left (show i ≤ cur.length by omega)]
  ·rw [if_neg (by omega), if_neg (by omega), List.append_assoc, List.getElem?_append_right (by simp; omega)]
   simp only [List.length_take, Nat.min_eq_left (show i ≤ cur.length by omega)]
   rw [List.getElem?_append_right (by simp; omega), List.getElem?_drop]
   congr 1
   simp; omega
theorem putB_any {w : World} {g : Nat} {cur : Bs} (h : Bk w g cur) (i n : Nat) (hi : i + 2 ≤ cur.length) (hl : cur.length ≤ 1000000) (hn : n < 65536) (ln cp : Nat) (hln : ln = cur.length) :
  Calls Tryz.prog 257 #[.slice (some ⟨g, 0, none⟩) ln cp, .int .i64 i, .int .i64 n] w fun e w' => e = .returned (.tuple #[]) ∧ Bk w' g (setAt cur i (two n)) ∧ Kp [g] w w' := by
 subst hln
 have b0 : (0 : Int) ≤ (i : Int) := by omega
 have b1 : (i : Int) < (cur.length : Int) := by omega
 have b2 : (0 : Int) ≤ (i : Int) + 1 := by omega
 have b3 : (i : Int) + 1 < (cur.length : Int) := by omega
 have c0 : w.cell? ⟨g, i, none⟩ = some (.int .u8 ((cur.getD i 0).toNat : Int)) := h.cell i (by omega)
 have c1 : w.cell? ⟨g, i + 1, none⟩ = some (.int .u8 ((cur.getD (i + 1) 0).toNat : Int)) := h.cell (i + 1) (by omega)
 have f0 := h.fr i (by omega)
 have f1 := h.fr (i + 1) (by omega)
 have w1 : IntKind.i64.wrap ((i : Int) + 1) = (i : Int) + 1 := by rw [IntKind.wrap_i64]; omega
 have t1 : ((i : Int) + 1).toNat = i + 1 := by omega
 have H := hid h
 clear h
 go_enter Tryz.func257, Tryz.ntmps257
 go_wp2
 go_end0
 refine ⟨rfl, ?_, ((Kp.refl _ _).setCell (.inl (by simp)) _).setCell (.inl (by simp)) _⟩
 have := (H.out.set_ (i := i) (by omega) (UInt8.ofNat (n / 256))).set_ (i := i + 1) (by simp; omega) (UInt8.ofNat n)
 have e1 : ((UInt8.ofNat (n / 256)).toNat : Int) = (n : Int) / 256 := by simp; omega
 have e2 : ((UInt8.ofNat n).toNat : Int) = (n : Int) % 256 := by simp
 rw [e1, e2, ← setAt_two _ _ _ _ hi] at this
 exact this
theorem lay_nil : lay [] = two 0 ++ two 232 ++ List.replicate 228 0 := by
 simp [lay, used, slotsOf, heapB]
theorem setAt_empty : setAt (List.replicate 232 0) 2 (two 232) = lay [] := by
 rw [lay_nil]; decide
theorem empty_any (w : World) : Calls Tryz.prog 239 #[] w fun e w' => e = .returned (.string (S (lay []))) ∧ Below w.heap.size w w' := by
 go_enter Tryz.func239, Tryz.ntmps239
 go_wp2_with (refine wpL_make rfl _ _ rfl 232 rfl rfl (by omega) ?_; intro W2 hB2 hb2)
 have HP := hid (putB_any (Bk.of_blk hB2) 2 232 (by simp) (by simp) (by omega) 232 232 (by simp))
 have HB2 := hid hb2
 clear hB2 hb2
 go_wp2_with fail
 refine HP.out.mono ?_
 rintro e W3 ⟨rfl, hB3, hk3⟩
 have hstr := bk_string (n := 232) (c := 232) hB3 (by rw [setAt_empty, lay_length (by decide)])
 rw [setAt_empty] at hstr
 have HK3 := hid hk3
 clear hB3 hk3
 go_wp2
 go_ret
 exact ⟨rfl, HB2.out.trans (HK3.out.to_below (by have := HB2.out.size; omega) (by simp))⟩
end
section
open Go.RowKit Go.Lib
def At (l : Bs) (p v : Nat) : Prop := ∃ x y, l[p]? = some x ∧ l[p + 1]? = some y ∧ un2 x y = v
theorem At.of {a b : Bs} {v p : Nat} (hv : v < 65536) (hp : p = a.length) : At (a ++ two v ++ b) p v := by
 subst hp
 refine ⟨UInt8.ofNat (v / 256), UInt8.ofNat v, ?_, ?_, un2_two hv⟩
 ·rw [List.append_assoc, List.getElem?_append_right (Nat.le_refl _)]; simp [two]
 ·rw [List.append_assoc, List.getElem?_append_right (by omega)]; simp [two]
theorem two_at {l : Bs} {p v : Nat} (h : At l p v) (hl : l.length ≤ 1000000) (w : World) (i : Int) (hi : i = (p : Int)) :
  Calls Tryz.prog 261 #[.string (S l), .int .i64 i] w fun e w' => e = .returned (.int .i64 v) ∧ ∃ n, w.drewN n = w' := by
 subst hi
 obtain ⟨x, y, hx, hy, rfl⟩ := h
 exact two_any w l p x y hx hy hl
theorem flatS_append (a b : List (Nat × Nat)) : flatS (a ++ b) = flatS a ++ flatS b := by simp [flatS]
section
variable {rs : List Bs}
theorem lay_at0 (h : used rs ≤ 232) : At (lay rs) 0 rs.length := by
 unfold used at h
 have e : lay rs = [] ++ two rs.length ++ (two (232 - rlen rs) ++ flatS (slotsOf 232 rs) ++ List.replicate (232 - used rs) 0 ++ heapB rs) := by simp [lay]
 rw [e]; exact At.of (by omega) rfl
theorem lay_at2 : At (lay rs) 2 (232 - rlen rs) := by
 have e : lay rs = two rs.length ++ two (232 - rlen rs) ++ (flatS (slotsOf 232 rs) ++ List.replicate (232 - used rs) 0 ++ heapB rs) := by simp [lay]
 rw [e]; exact At.of (by omega) rfl
theorem lay_slot {k : Nat} {x : Nat × Nat} (hk : (slotsOf 232 rs)[k]? = some x) (h1 : x.1 < 65536) (h2 : x.2 < 65536) : At (lay rs) (4 + 4 * k) x.1 ∧ At (lay rs) (4 + 4 * k + 2) x.2 := by
 obtain ⟨hlt, hx⟩ := List.getElem?_eq_some_iff.1 hk
 have hsp : slotsOf 232 rs = (slotsOf 232 rs).take k ++ x :: (slotsOf 232 rs).drop (k + 1) := by
  conv => lhs; rw [← List.take_append_drop k (slotsOf 232 rs), List.drop_eq_getElem_cons hlt, hx]
 have ef : flatS (slotsOf 232 rs) = flatS ((slotsOf 232 rs).take k) ++ two x.1 ++ two x.2 ++ flatS ((slotsOf 232 rs).drop (k + 1)) := by
  conv => lhs; rw [hsp]
  rw [flatS_append, flatS_cons]; simp
 have hl : (flatS ((slotsOf 232 rs).take k)).length = 4 * k := by rw [flatS_length, List.length_take]; omega
 constructor
 ·have e : lay rs = (two rs.length ++ two (232 - rlen rs) ++ flatS ((slotsOf 232 rs).take k)) ++ two x.1 ++ (two x.2 ++ flatS ((slotsOf 232 rs).drop (k + 1)) ++ List.replicate (232 - used rs) 0 ++ heapB rs) := by
   unfold lay; rw [ef]; simp
  rw [e]; exact At.of h1 (by simp [hl]; omega)
 ·have e : lay rs = (two rs.length ++ two (232 - rlen rs) ++ flatS ((slotsOf 232 rs).take k) ++ two x.1) ++ two x.2 ++ (flatS ((slotsOf 232 rs).drop (k + 1)) ++ List.replicate (232 - used rs) 0 ++ heapB rs) := by
   unfold lay; rw [ef]; simp
  rw [e]; exact At.of h2 (by simp [hl]; omega)
theorem slot_facts (h : used rs ≤ 232) {k : Nat} {x : Nat × Nat} (hk : (slotsOf 232 rs)[k]? = some x) : 232 - rlen rs ≤ x.1 ∧ x.1 + x.2 ≤ 232 ∧ x.1 + x.2 = 232 - rlen (rs.take k) ∧ x.1 = 232 - rlen (rs.take (k + 1)) ∧ rlen (rs.take (k + 1)) ≤ rlen rs := by
 have hlt : k < rs.length := by have := (List.getElem?_eq_some_iff.1 hk).1; simpa using this
 rw [slotsOf_get rs 232 k hlt] at hk
 injection hk with hk
 have h1 := rlen_take_succ rs k hlt
 have h2 := rlen_take_le rs (k + 1)
 unfold used at h
 subst hk
 show 232 - rlen rs ≤ 232 - rlen (rs.take (k + 1)) ∧ 232 - rlen (rs.take (k + 1)) + (rs[k]).length ≤ 232 ∧ 232 - rlen (rs.take (k + 1)) + (rs[k]).length = 232 - rlen (rs.take k) ∧ 232 - rlen (rs.take (k + 1)) = 232 - rlen (rs.take (k + 1)) ∧ rlen (rs.take (k + 1)) ≤ rlen rs
 refine ⟨?_, ?_, ?_, rfl, h2⟩ <;> omega
end
def slC (x : Nat × Nat) : List Value := [.int .i64 x.1, .int .i64 x.2]
theorem slC_len (x : Nat × Nat) : (slC x).length = 2 := rfl
theorem slC_one (x : Nat × Nat) : ∀ u ∈ slC x, u.oneCell' = true := by
 intro u hu
 simp [slC] at hu
 rcases hu with rfl | rfl <;> rfl
theorem infSl : (Tryz.prog.info? 384).map (fun i => (i.zero, i.size, i.bytes)) = some (some (.agg #[.int .i64 0, .int .i64 0]), 2, 16) := by kernel_rfl
set_option maxHeartbeats 1000000 in
theorem list_any {rs : List Bs} (h : used rs ≤ 232) (w : World) :
  Calls Tryz.prog 259 #[.string (S (lay rs))] w fun e w' => ∃ v, e = .returned v ∧ w'.ownsRow w.heap.size 384 2 v rs.length (rowV slC (slotsOf 232 rs)) ∧ Below w.heap.size w w' := by
 have hll := lay_length h
 have HL := hid (two_at (lay_at0 h) (by omega) w 0 rfl)
 have H := hid h
 have hn : rs.length ≤ 57 := by unfold used at h; omega
 go_enter Tryz.func259, Tryz.ntmps259
 go_wp2_with (go_at_call 261; refine HL.out.mono ?_; rintro e w' ⟨rfl, n, rfl⟩)
 go_loopg [3, 8] rs.length (fun gg s3 s8 wr => ∃ kk : Nat, kk ≤ rs.length ∧ rs.length - kk ≤ gg ∧ s8 = .int .i64 kk ∧ Hid (wr.ownsRow w.heap.size 384 2 s3 kk (rowV slC ((slotsOf 232 rs).take kk))) ∧ Hid (Below w.heap.size w wr))
 case atStart => exact ⟨0, Nat.zero_le _, by omega, rfl, hid (by simpa using World.ownsRow_nil _ _ _ _), hid (below_drewN (Below.refl _ w) _)⟩
 case round =>
  obtain ⟨kk, hkk, hg, rfl, hO, hB⟩ := hrel
  by_cases hlt : kk < rs.length
  ·obtain ⟨x, hx⟩ : ∃ x, (slotsOf 232 rs)[kk]? = some x := ⟨_, List.getElem?_eq_getElem (by simpa using hlt)⟩
   have hf := slot_facts H.out hx
   have hat := lay_slot hx (by omega) (by omega)
   have HT1 := hid (two_at hat.1 (by omega) wr (4 + 4 * (kk : Int)) (by omega))
   have HT2 := hid (fun n => two_at hat.2 (by omega) (wr.drewN n) (4 + 4 * (kk : Int) + 2) (by omega))
   have HX := hid hx
   have hltz : (kk : Int) < (rs.length : Int) := by omega
   clear hf hat hx
   go_wp2_with (first | (go_at_call 261; with_reducible refine HT1.out.mono ?_; rintro e w' ⟨rfl, n1, rfl⟩) | (go_at_call 261; with_reducible refine (HT2.out _).mono ?_; rintro e w' ⟨rfl, n2, rfl⟩) | (with_reducible refine stopAt .append rfl ?_))
   with_reducible refine goOn ?_
   obtain ⟨i0, hi, hz0, hz1, hz2⟩ := info_parts infSl
   refine wpList_append_own _ rfl _ _ 379 rfl w.heap.size 384 i0 (.agg #[.int .i64 0, .int .i64 0]) 2 16 Tryz.underlying379 hi hz0 hz1 hz2 rfl (by decide) _ _ _ rfl (((row_of hO.out (fun _ _ => rfl)) : (wr.drewN (n1 + n2)).ownsRow _ _ _ _ _ _).alloc _) ⟨wr.heap.size, 0, none⟩ 1 1 (slC x) rfl rfl (news_of (Blk.new (wr.drewN (n1 + n2)) 384 (slC x).toArray)) (slC_one x) (by unfold maxLen; omega) (by omega) (by have := hB.out.size; simp; omega) ?_
   intro v' W' hO' hgr _
   have hB' : Below w.heap.size w W' := ((below_drewN hB.out (n1 + n2)).alloc (by exact hB.out.size) _).grown hgr (by have := hB.out.size; simp; omega) (fun b hb => (hO.out.lt b hb).1)
   have HO' := hid hO'
   have HB' := hid hB'
   clear hO' hB' hgr
   go_wp2
   go_roundg (rs.length - (kk + 1))
   case measure => omega
   case rel =>
    refine ⟨kk + 1, by omega, by omega, by go_num, hid ?_, HB'⟩
    have hO' := HO'.out
    have e : rowV slC ((slotsOf 232 rs).take (kk + 1)) = rowV slC ((slotsOf 232 rs).take kk) ++ slC x := by
     rw [List.take_succ_eq_append_getElem (by simpa using hlt), rowV_append]
     have := (List.getElem?_eq_some_iff.1 HX.out).2
     rw [this]; simp
    rw [e]
    exact hO'
  ·have hkk2 : kk = rs.length := by omega
   subst hkk2
   go_wp2
   go_ret
   refine ⟨_, rfl, ?_, hB.out⟩
   have := hO.out
   rwa [List.take_of_length_le (by simp)] at this
theorem apart_any (w : World) (x y : Nat × Nat) (h : x.1 + x.2 ≤ y.1) (hy : y.1 + y.2 ≤ 232) :
  Calls Tryz.prog 274 #[.agg #[.int .i64 x.1, .int .i64 x.2], .agg #[.int .i64 y.1, .int .i64 y.2]] w fun e w' => e = .returned (.bool true) ∧ Below w.heap.size w w' := by
 have h1 : (x.1 : Int) + (x.2 : Int) ≤ (y.1 : Int) := by omega
 have w1 : IntKind.i64.wrap ((x.1 : Int) + (x.2 : Int)) = (x.1 : Int) + (x.2 : Int) := by rw [IntKind.wrap_i64]; omega
 have d1 : decide ((x.1 : Int) + (x.2 : Int) ≤ (y.1 : Int)) = true := by simpa using h1
 go_enter Tryz.func274, Tryz.ntmps274
 go_wp2
 all_goals
  go_ret
  exact ⟨rfl, ((Below.refl _ w).alloc (Nat.le_refl _) _).alloc (by simp) _⟩
set_option maxHeartbeats 1000000 in
theorem check_any {rs : List Bs} (h : used rs ≤ 232) (w : World) :
  Calls Tryz.prog 258 #[.string (S (lay rs))] w fun e w' => e = .returned (.int .i64 0) ∧ Below w.heap.size w w' := by
 have hll := lay_length h
 have HL0 := hid (two_at (lay_at0 h) (by omega) w 0 rfl)
 have HL2 := hid (fun n => two_at (lay_at2 (rs := rs)) (by omega) (w.drewN n) 2 rfl)
 have HLI := hid (fun n => list_any h (w.drewN n))
 have H := hid h
 have hn : rs.length ≤ 57 := by unfold used at h; omega
 have hr : rlen rs ≤ 228 := by unfold used at h; omega
 have hh : ((232 - rlen rs : Nat) : Int) ≤ 232 := by omega
 have hh2 : 4 + 4 * (rs.length : Int) ≤ ((232 - rlen rs : Nat) : Int) := by unfold used at h; omega
 generalize hhp : 232 - rlen rs = hp at HL2 hh hh2
 have HHP := hid hhp
 clear h hhp
 go_enter Tryz.func258, Tryz.ntmps258
 go_wp2_with (first | (go_at_call 261; with_reducible refine HL0.out.mono ?_; rintro e w' ⟨rfl, n1, rfl⟩) | (go_at_call 261; with_reducible refine (HL2.out _).mono ?_; rintro e w' ⟨rfl, n2, rfl⟩) | (go_at_call 259; with_reducible refine (HLI.out _).mono ?_; rintro e W ⟨v, rfl, hO, hB⟩))
 obtain ⟨tp, tc, rfl⟩ := own_slice2 hO
 have HO := hid hO
 have HB := hid hB
 have HW : Hid (w.heap.size ≤ W.heap.size) := hid hB.size
 clear hO hB
 go_wp2
 have hlen : (Builtin.len_ #[379] 3 #[.slice tp rs.length tc]).run Tryz.prog W = .ok (goInt rs.length) W := by
  simp [go_sem]
 rw [hlen]
 go_wp2
 go_loopg [31] rs.length (fun gg s31 wr => ∃ i : Nat, i ≤ rs.length ∧ rs.length - i ≤ gg ∧ s31 = .int .i64 i ∧ Hid (Below W.heap.size W wr))
 case atStart => exact ⟨0, Nat.zero_le _, by omega, rfl, hid (Below.refl _ _)⟩
 case round =>
  obtain ⟨i, hi, hg, rfl, hBr⟩ := hrel
  by_cases hlt : i < rs.length
  ·obtain ⟨g, c, hv, hg1, hg2, hg3⟩ := own_form HO.out (by omega)
   injection hv with e1 _ e3
   subst e1 e3
   have HG := hid hg2
   obtain ⟨x, hx⟩ : ∃ x, (slotsOf 232 rs)[i]? = some x := ⟨_, List.getElem?_eq_getElem (by simpa using hlt)⟩
   have hf := hid (slot_facts H.out hx)
   have cell : Hid (∀ (wr : World), Below W.heap.size W wr → ∀ (k : Nat) (y : Nat × Nat), (slotsOf 232 rs)[k]? = some y → wr.cell? ⟨g, k * 2, none⟩ = some (.int .i64 y.1) ∧ wr.cell? ⟨g, k * 2 + 1, none⟩ = some (.int .i64 y.2)) := hid fun wr hb k y hy => by
    refine ⟨(hb.cell (p := ⟨g, k * 2, none⟩) HG.out).trans ?_, (hb.cell (p := ⟨g, k * 2 + 1, none⟩) HG.out).trans ?_⟩
    ·exact own_at HO.out rfl (j := k * 2) (by rw [show k * 2 = k * 2 + 0 from rfl, rowV_get slC_len _ k y hy 0 (by omega)]; rfl)
    ·exact own_at HO.out rfl (j := k * 2 + 1) (by rw [rowV_get slC_len _ k y hy 1 (by omega)]; rfl)
   obtain ⟨l0, l1⟩ := cell.out wr hBr.out i x hx
   have b0 : ¬ (x.1 : Int) < (hp : Int) := by have := hf.out.1; have := HHP.out; omega
   have b1 : ¬ (232 : Int) < (x.1 : Int) + (x.2 : Int) := by have := hf.out.2.1; omega
   have w1 : IntKind.i64.wrap ((x.1 : Int) + (x.2 : Int)) = (x.1 : Int) + (x.2 : Int) := by have := hf.out.2.1; rw [IntKind.wrap_i64]; omega
   have hltz : (i : Int) < (rs.length : Int) := by omega
   have hcp : (i : Int) ≤ (tc : Int) := by omega
   have hi0 : (0 : Int) ≤ (i : Int) := by omega
   have hgw : g < wr.heap.size := Nat.lt_of_lt_of_le hg2 hBr.out.size
   have HX := hid hx
   clear hx hg1
   have hbn := hid (Blk.new wr 384 #[.int .i64 x.1, .int .i64 x.2])
   have HB2 : Hid (Below W.heap.size W (wr.alloc (.cells #[.int .i64 x.1, .int .i64 x.2] 384))) := hid (hBr.out.alloc hBr.out.size _)
   have HRW : Hid (W.heap.size ≤ wr.heap.size) := hid hBr.out.size
   obtain ⟨wo, hwo⟩ : ∃ wo, wo = wr := ⟨_, rfl⟩
   subst hwo
   go_wp2
   clear l0 l1 b0 b1 w1
   go_loopg [52] i (fun gg s52 wr2 => ∃ j : Nat, j ≤ i ∧ i - j ≤ gg ∧ s52 = .int .i64 j ∧ Hid (Below W.heap.size W wr2) ∧ Hid (Blk wr2 wo.heap.size 384 #[.int .i64 x.1, .int .i64 x.2]))
   case atStart => exact ⟨0, Nat.zero_le _, by omega, rfl, HB2, hbn⟩
   case round =>
    obtain ⟨j, hj, hgj, rfl, hB3, hb3⟩ := hrel
    by_cases hlj : j < i
    ·obtain ⟨y, hy⟩ : ∃ y, (slotsOf 232 rs)[j]? = some y := ⟨_, List.getElem?_eq_getElem (by simp; omega)⟩
     obtain ⟨l0, l1⟩ := cell.out _ hB3.out j y hy
     have hfy := hid (slot_facts H.out hy)
     have c0 : World.cell? _ ⟨wo.heap.size, 0, none⟩ = some (.int .i64 x.1) := hb3.out.cell 0
     have c1 : World.cell? _ ⟨wo.heap.size, 1, none⟩ = some (.int .i64 x.2) := hb3.out.cell 1
     have hlq := hb3.out.lt
     have hljz : (j : Int) < (i : Int) := by omega
     have hap : Hid (x.1 + x.2 ≤ y.1) := hid (by
      have h1 := hf.out.2.2.1
      have h2 := hfy.out.2.2.2.1
      have h3 := rlen_take_le (rs.take i) (j + 1)
      rw [List.take_take, Nat.min_eq_left (by omega)] at h3
      omega)
     have HA := hid (fun w => apart_any w x y hap.out hfy.out.2.1)
     clear hy
     go_wp2_with (go_at_call 274; with_reducible refine (HA.out _).mono ?_; rintro e w4 ⟨rfl, hb4⟩)
     go_roundg (i - (j + 1))
     case measure => omega
     case rel => exact ⟨j + 1, by omega, by omega, by go_num, hid ((hB3.out.alloc hB3.out.size _).trans (hb4.mono (by have := hB3.out.size; simp; omega))), hid ((hb3.out.alloc _).below hb4 (by simp; omega))⟩
    ·have : j = i := by omega
     subst this
     go_wp2
     go_roundg (rs.length - (j + 1))
     case measure => omega
     case rel => exact ⟨j + 1, by omega, by omega, by go_num, hB3⟩
  ·have : i = rs.length := by omega
   subst this
   go_wp2
   go_ret
   exact ⟨rfl, (below_drewN (Below.refl w.heap.size w) (n1 + n2)).trans (HB.out.trans (hBr.out.mono HB.out.size))⟩
set_option maxHeartbeats 1000000 in
theorem room_any {rs : List Bs} (h : used rs ≤ 232) (w : World) :
  Calls Tryz.prog 260 #[.string (S (lay rs))] w fun e w' => e = .returned (.int .i64 ((228 - 4 * rs.length - rlen rs : Nat) : Int)) ∧ Below w.heap.size w w' := by
 have HC := hid (check_any h w)
 have HLI := hid (fun w => list_any h w)
 have H := hid h
 have hn : rs.length ≤ 57 := by unfold used at h; omega
 clear h
 go_enter Tryz.func260, Tryz.ntmps260
 go_wp2_with (first | (go_at_call 258; with_reducible refine HC.out.mono ?_; rintro e W0 ⟨rfl, hB0⟩) | (go_at_call 259; with_reducible refine (HLI.out _).mono ?_; rintro e W ⟨v, rfl, hO, hB⟩))
 obtain ⟨tp, tc, rfl⟩ := own_slice2 hO
 have HO := hid hO
 have HB := hid (hB0.trans (hB.mono hB0.size))
 have HW : Hid (w.heap.size ≤ W.heap.size) := hid HB.out.size
 clear hO hB hB0
 have hlen : (Builtin.len_ #[379] 3 #[.slice tp rs.length tc]).run Tryz.prog W = .ok (goInt rs.length) W := by
  simp [go_sem]
 rw [hlen]
 clear hlen
 go_wp2
 go_loopg [3, 12] rs.length (fun gg s3 s12 wr => ∃ i : Nat, i ≤ rs.length ∧ rs.length - i ≤ gg ∧ s12 = .int .i64 i ∧ s3 = .int .i64 ((228 - 4 * i - rlen (rs.take i) : Nat) : Int) ∧ Hid (Below W.heap.size W wr))
 case atStart => exact ⟨0, Nat.zero_le _, by omega, rfl, rfl, hid (Below.refl _ _)⟩
 case round =>
  obtain ⟨i, hi, hg, rfl, rfl, hBr⟩ := hrel
  by_cases hlt : i < rs.length
  ·obtain ⟨g, c, hv, hg1, hg2, hg3⟩ := own_form HO.out (by omega)
   injection hv with e1 _ e3
   subst e1 e3
   obtain ⟨x, hx⟩ : ∃ x, (slotsOf 232 rs)[i]? = some x := ⟨_, List.getElem?_eq_getElem (by simpa using hlt)⟩
   have hf := hid (slot_facts H.out hx)
   have l0 : wr.cell? ⟨g, i * 2, none⟩ = some (.int .i64 x.1) := (hBr.out.cell (p := ⟨g, i * 2, none⟩) hg2).trans (own_at HO.out rfl (j := i * 2) (by rw [show i * 2 = i * 2 + 0 from rfl, rowV_get slC_len _ i x hx 0 (by omega)]; rfl))
   have l1 : wr.cell? ⟨g, i * 2 + 1, none⟩ = some (.int .i64 x.2) := (hBr.out.cell (p := ⟨g, i * 2 + 1, none⟩) hg2).trans (own_at HO.out rfl (j := i * 2 + 1) (by rw [rowV_get slC_len _ i x hx 1 (by omega)]; rfl))
   have hgw : g < wr.heap.size := Nat.lt_of_lt_of_le hg2 hBr.out.size
   have hltz : (i : Int) < (rs.length : Int) := by omega
   have hx2 : x.2 ≤ 232 := by have := hf.out.2.1; omega
   have hu := hid (show 4 + 4 * rs.length + rlen rs ≤ 232 from H.out)
   have e1 := hid (rlen_take_succ rs i hlt)
   have e2 := hid (rlen_take_le rs (i + 1))
   have e4 : Hid (x.2 = (rs[i]).length) := hid (by
    rw [slotsOf_get rs 232 i hlt] at hx
    injection hx with hx
    rw [← hx])
   generalize hrm : 228 - 4 * i - rlen (rs.take i) = rm
   have HR := hid hrm
   have hrm2 : rm ≤ 228 := by omega
   clear hx hg1 hrm
   go_wp2
   go_roundg (rs.length - (i + 1))
   case measure => omega
   case rel =>
    refine ⟨i + 1, by omega, by omega, by go_num, ?_, hid (hBr.out.alloc hBr.out.size _)⟩
    have h1 := hu.out
    have h2 := e1.out
    have h3 := e2.out
    have h4 := e4.out
    have h5 := HR.out
    have e : (228 - 4 * (i + 1) - rlen (rs.take (i + 1)) : Nat) = rm - (4 + x.2) := by omega
    rw [e]
    have : 4 + x.2 ≤ rm := by omega
    go_num
  ·have : i = rs.length := by omega
   subst this
   go_wp2
   go_ret
   exact ⟨by rw [List.take_length]; rfl, HB.out.trans (hBr.out.mono HB.out.size)⟩
end
section
open Go.RowKit Go.Lib
theorem own_base {w : World} {B B' : Nat} {T : TypeId} {s n : Nat} {v : Value} {xs : List Value} (h : w.ownsRow B T s v n xs) (hb : B' ≤ B) : w.ownsRow B' T s v n xs :=
 ⟨h.1, h.2.imp id (fun ⟨g, cap, cur, a, b, c⟩ => ⟨g, cap, cur, a, Nat.le_trans hb b, c⟩)⟩
def sC (l : List Bs) : List Value := l.map fun r => .string (S r)
theorem sC_one (l : List Bs) : ∀ u ∈ sC l, u.oneCell' = true := by
 intro u hu
 obtain ⟨x, _, rfl⟩ := List.mem_map.1 hu
 rfl
theorem infStr : (Tryz.prog.info? 9).map (fun i => (i.zero, i.size, i.bytes)) = some (some (.string ⟨#[]⟩), 1, 16) := by kernel_rfl
theorem record_any (w : World) (l r : Bs) (x : Nat × Nat) (hx : x.1 + x.2 ≤ l.length) (hl : l.length ≤ 1000000) (hr : (l.drop x.1).take x.2 = r) :
  Calls Tryz.prog 269 #[.string (S l), .agg #[.int .i64 x.1, .int .i64 x.2]] w fun e w' => e = .returned (.string (S r)) ∧ Below w.heap.size w w' := by
 have h1 : (0 : Int) ≤ (x.1 : Int) := by omega
 have h2 : (x.1 : Int) ≤ (x.1 : Int) + (x.2 : Int) := by omega
 have h3 : (x.1 : Int) + (x.2 : Int) ≤ (l.length : Int) := by omega
 have w1 : IntKind.i64.wrap ((x.1 : Int) + (x.2 : Int)) = (x.1 : Int) + (x.2 : Int) := by rw [IntKind.wrap_i64]; omega
 have t1 : ((x.1 : Int) + (x.2 : Int)).toNat = x.1 + x.2 := by omega
 have t2 : x.1 + x.2 - x.1 = x.2 := by omega
 have HR := hid hr
 clear hr
 go_enter Tryz.func269, Tryz.ntmps269
 go_wp2
 go_ret
 refine ⟨?_, (Below.refl _ w).alloc (Nat.le_refl _) _⟩
 rw [← HR.out]
 rfl
set_option maxHeartbeats 1000000 in
theorem all_any {rs : List Bs} (h : used rs ≤ 232) (w : World) :
  Calls Tryz.prog 245 #[.string (S (lay rs))] w fun e w' => ∃ v, e = .returned (.tuple #[v, .int .i64 0]) ∧ w'.ownsRow w.heap.size 9 1 v rs.length (sC rs) ∧ Below w.heap.size w w' := by
 have HC := hid (check_any h w)
 have HLI := hid (fun w => list_any h w)
 have H := hid h
 have hn : rs.length ≤ 57 := by unfold used at h; omega
 clear h
 go_enter Tryz.func245, Tryz.ntmps245
 go_wp2_with (first | (go_at_call 258; with_reducible refine HC.out.mono ?_; rintro e W0 ⟨rfl, hB0⟩) | (go_at_call 259; with_reducible refine (HLI.out _).mono ?_; rintro e W ⟨v, rfl, hO, hB⟩))
 obtain ⟨tp, tc, rfl⟩ := own_slice2 hO
 have HO := hid hO
 have HB := hid (hB0.trans (hB.mono hB0.size))
 have HW : Hid (w.heap.size ≤ W.heap.size) := hid HB.out.size
 clear hO hB hB0
 have hlen : (Builtin.len_ #[379] 3 #[.slice tp rs.length tc]).run Tryz.prog W = .ok (goInt rs.length) W := by
  simp [go_sem]
 rw [hlen]
 clear hlen
 go_wp2
 go_loopg [5, 16] rs.length (fun gg s5 s16 wr => ∃ i : Nat, i ≤ rs.length ∧ rs.length - i ≤ gg ∧ s16 = .int .i64 i ∧ Hid (wr.ownsRow W.heap.size 9 1 s5 i (sC (rs.take i))) ∧ Hid (Below W.heap.size W wr))
 case atStart => exact ⟨0, Nat.zero_le _, by omega, rfl, hid (by simpa [sC] using World.ownsRow_nil _ _ _ _), hid (Below.refl _ _)⟩
 case round =>
  obtain ⟨i, hi, hg, rfl, hO5, hBr⟩ := hrel
  by_cases hlt : i < rs.length
  ·obtain ⟨g, c, hv, hg1, hg2, hg3⟩ := own_form HO.out (by omega)
   injection hv with e1 _ e3
   subst e1 e3
   obtain ⟨x, hx⟩ : ∃ x, (slotsOf 232 rs)[i]? = some x := ⟨_, List.getElem?_eq_getElem (by simpa using hlt)⟩
   have hf := slot_facts H.out hx
   have l0 : wr.cell? ⟨g, i * 2, none⟩ = some (.int .i64 x.1) := (hBr.out.cell (p := ⟨g, i * 2, none⟩) hg2).trans (own_at HO.out rfl (j := i * 2) (by rw [show i * 2 = i * 2 + 0 from rfl, rowV_get slC_len _ i x hx 0 (by omega)]; rfl))
   have l1 : wr.cell? ⟨g, i * 2 + 1, none⟩ = some (.int .i64 x.2) := (hBr.out.cell (p := ⟨g, i * 2 + 1, none⟩) hg2).trans (own_at HO.out rfl (j := i * 2 + 1) (by rw [rowV_get slC_len _ i x hx 1 (by omega)]; rfl))
   have hgw : g < wr.heap.size := Nat.lt_of_lt_of_le hg2 hBr.out.size
   have hltz : (i : Int) < (rs.length : Int) := by omega
   have e5 : ((lay rs).drop x.1).take x.2 = rs[i] := by
    rw [slotsOf_get rs 232 i hlt] at hx
    injection hx with hx
    rw [← hx]
    exact lay_record H.out hlt
   have HR := hid (fun w => record_any w (lay rs) rs[i] x (by rw [lay_length H.out]; omega) (by rw [lay_length H.out]; omega) e5)
   clear hx hg1 hf e5
   go_wp2_with (first | (go_at_call 269; with_reducible refine (HR.out _).mono ?_; rintro e W4 ⟨rfl, hB4⟩) | (with_reducible refine stopAt .append rfl ?_))
   with_reducible refine goOn ?_
   obtain ⟨i0, hi0, hz0, hz1, hz2⟩ := info_parts infStr
   have hB5 : Below W.heap.size W W4 := (hBr.out.alloc hBr.out.size _).trans (hB4.mono (by have := hBr.out.size; simp; omega))
   have hO6 : W4.ownsRow W.heap.size 9 1 _ i (sC (rs.take i)) := row_of hO5.out (fun b hb => (hB4.block b (by have := (hO5.out.lt b hb).2; simp; omega)).trans (Below.heap_alloc wr _ b (hO5.out.lt b hb).2))
   refine wpList_append_own _ rfl _ _ 36 rfl W.heap.size 9 i0 (.string ⟨#[]⟩) 1 16 Tryz.underlying36 hi0 hz0 hz1 hz2 rfl (by decide) _ _ _ rfl (hO6.alloc _) ⟨W4.heap.size, 0, none⟩ 1 1 [.string (S rs[i])] rfl rfl (news_of (Blk.new W4 9 #[.string (S rs[i])])) (sC_one [rs[i]]) (by unfold maxLen; omega) (by omega) (by have := hB5.size; simp; omega) ?_
   intro v' W' hO' hgr _
   have HB' := hid ((hB5.alloc hB5.size _).grown hgr (by have := hB5.size; simp; omega) (fun b hb => (hO5.out.lt b hb).1))
   have HO' := hid hO'
   clear hO' hgr hB5 hO6 hB4
   go_wp2
   go_roundg (rs.length - (i + 1))
   case measure => omega
   case rel =>
    refine ⟨i + 1, by omega, by omega, by go_num, hid ?_, HB'⟩
    have e : sC (rs.take (i + 1)) = sC (rs.take i) ++ [.string (S rs[i])] := by
     rw [List.take_succ_eq_append_getElem hlt]; unfold sC; rw [List.map_append]; rfl
    rw [e]
    exact HO'.out
  ·have : i = rs.length := by omega
   subst this
   go_wp2
   go_ret2
   refine ⟨_, rfl, ?_, HB.out.trans (hBr.out.mono HB.out.size)⟩
   have := hO5.out
   rw [List.take_length] at this
   exact own_base this HW.out
end
end Go.Proofs.YtnnghcooidjlhaaGreat
