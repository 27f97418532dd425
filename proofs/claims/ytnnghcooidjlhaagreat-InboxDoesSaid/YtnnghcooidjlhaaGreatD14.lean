/- Parts of the proof: Ja Jb Gb Gc. -/
import Derived.Laws.Cover1
import Derived.Laws.IdiomStrings
import Derived.Test.YtnnghcooidjlhaaGreatD01
import Derived.Test.YtnnghcooidjlhaaGreatD09
import Derived.Test.YtnnghcooidjlhaaGreatD12
import Derived.Test.YtnnghcooidjlhaaGreatD13
set_option linter.all false
set_option maxRecDepth 100000
namespace Go.Proofs.YtnnghcooidjlhaaGreat
section
open Go.RowKit Go.Lib
abbrev Inf (e : TypeId) (z : Value) (size bytes : Nat) : Prop := (Tryz.prog.info? e).map (fun i => (i.zero, i.size, i.bytes)) = some (some z, size, bytes)
theorem app_own {ops : Array Oper} {rest : List Oper} {o : Oper} {a : Act} {Q : Exit → Act → World → Prop} (hgd : o.guard = none) (s x : Operand) (t : TypeId)
  (ho : o.op = .call { callee := .builtin .append, args := #[s, x], argTypes := #[t, t] }) {α : Type} (enc : α → List Value) {e : TypeId} {z : Value} {size bytes : Nat} (hi : Inf e z size bytes) (ht : Tryz.prog.underlying t = some (.slice e))
  (hzs : z.cells.size = size) (hsz : 0 < size) (hby : bytes ≤ 1000) (hk : ∀ x, (enc x).length = size) (hone : ∀ x, ∀ u ∈ enc x, u.oneCell' = true) {B : Nat} {W : World} {v : Value} {l : List α} {n : Nat} (x0 : α) (hown : W.ownsRow B e size v n (rowV enc l)) (hn : n ≤ 100000) (hB : B ≤ W.heap.size)
  (hs : a.eval s = v) (hx : a.eval x = .slice (some ⟨W.heap.size, 0, none⟩) 1 1)
  (h : ∀ v' w', w'.ownsRow B e size v' (n + 1) (rowV enc (l ++ [x0])) → Kp v.ownBlock.toList W w' → wpList Tryz.prog ops Q rest (a.put o.dst v') w') : wpList Tryz.prog ops Q (o :: rest) a (W.alloc (.cells (enc x0).toArray e)) := by
 obtain ⟨i0, hi0, hz0, hz1, hz2⟩ := info_parts hi
 refine wpList_append_own _ hgd s x t ho B e i0 z size bytes ht hi0 hz0 hz1 hz2 hzs hsz v n _ hs (hown.alloc _) ⟨W.heap.size, 0, none⟩ 1 1 (enc x0) hx (by rw [hk, Nat.one_mul]) (news_of (Blk.new W e (enc x0).toArray)) (hone x0) (by unfold maxLen; omega) ?_ (by simp; omega) ?_
 ·have : (n + 1) * bytes ≤ 100001 * 1000 := Nat.mul_le_mul (by omega) hby
  omega
 ·intro v' w' h1 h2 _
  refine h v' w' (by rw [rowV_append, rowV_cons, rowV_nil, List.append_nil]; exact h1) ?_
  exact ((Kp.refl _ W).alloc _).grown h2 (fun g hg => .inl (Option.mem_toList.2 hg))
theorem ctwo_any (w : World) (n : Nat) (hn : n < 65536) : Calls Tryz.prog 231 #[.int .i64 n] w fun e w' => e = .returned (.string (S (two n))) ∧ Below w.heap.size w w' := by
 have hC : (convert 129 9 (.slice (some ⟨w.heap.size, 0, none⟩) 2 2)).run Tryz.prog (w.alloc (.cells #[.int .u8 ((n : Int) / 256), .int .u8 ((n : Int) % 256)] 5)) = .ok (.string (S (two n))) (w.alloc (.cells #[.int .u8 ((n : Int) / 256), .int .u8 ((n : Int) % 256)] 5)) := by
  have hB := Blk.new w 5 #[.int .u8 ((n : Int) / 256), .int .u8 ((n : Int) % 256)]
  refine run_convert_bytes_back _ 129 9 5 ⟨w.heap.size, 0, none⟩ 2 (two n) Tryz.underlying129 Tryz.underlying5 Tryz.underlying9 fun j hj => ?_
  match j with
  | 0 =>
   refine (hB.cell 0).trans ?_
   simp [two]
   omega
  | 1 =>
   refine (hB.cell 1).trans ?_
   simp [two]
  | j + 2 => exact absurd hj (by simp [two])
 go_enter Tryz.func231, Tryz.ntmps231
 go_wp2
 go_ret
 exact ⟨rfl, (Below.refl _ w).alloc (Nat.le_refl _) _⟩
theorem need_any (w : World) (n : Nat) (hn : n ≤ 228) : Calls Tryz.prog 230 #[.int .i64 n] w fun e w' => e = .returned (.int .i64 1) ∧ w = w' := by
 go_enter Tryz.func230, Tryz.ntmps230
 go_wp2
 ·go_ret
  exact ⟨rfl, rfl⟩
 ·go_ret
  refine ⟨?_, rfl⟩
  have : ((n : Int) + 228 - 1) / 228 = 1 := by omega
  rw [this]
  rfl
theorem need_most (w : World) : Calls Tryz.prog 230 #[.int .i64 1024] w fun e w' => e = .returned (.int .i64 5) ∧ w = w' := by
 go_enter Tryz.func230, Tryz.ntmps230
 go_wp2
 go_ret
 exact ⟨rfl, rfl⟩
theorem chB_length {v : Bs} (hv : v.length ≤ 228) : (chB v).length = 232 := pad_length (by simp; omega)
theorem chB_get {v : Bs} (hv : v.length ≤ 228) : (chB v)[0]? = some 0 ∧ (chB v)[1]? = some 0 ∧ (chB v)[2]? = some (UInt8.ofNat (v.length / 256)) ∧ (chB v)[3]? = some (UInt8.ofNat v.length) ∧ ((chB v).drop 4).take v.length = v := by
 refine ⟨rfl, rfl, rfl, rfl, ?_⟩
 unfold chB pad
 simp only [two, List.cons_append, List.nil_append, List.drop_succ_cons, List.drop_zero]
 simp
section
variable {w : World} {P : PL} {O : List Nat} {pgs : List (Option Bs)}
set_option maxHeartbeats 1000000 in
theorem cread_any (hp : PoI w P O pgs) {q : Nat} {v : Bs} (hq : pgs[q]? = some (some (chB v))) (hv : v.length ≤ 228) :
  Calls Tryz.prog 251 #[.pointer (some ⟨P.p, 0, none⟩), .int .i64 q] w fun e w' => e = .returned (.tuple #[.agg #[.int .i64 (-1), .string (S v)], .int .i64 0]) ∧ Kp O w w' ∧ PoI w' P O pgs := by
 have hno : w.heap.size ∉ O := fun hx => by have := hp.lts _ hx; omega
 have hbA : Below w.heap.size w (w.alloc (.cells #[.int .i64 0, .string ⟨#[]⟩] 372)) := (Below.refl _ w).alloc (Nat.le_refl _) _
 have HG := hid (pi_get (hp.below hbA) hq)
 have hblk := Blk.new w 372 #[.int .i64 0, .string ⟨#[]⟩]
 have hL := chB_length hv
 obtain ⟨g0, g1, g2, g3, g4⟩ := chB_get hv
 generalize chB v = L at HG hL g0 g1 g2 g3 g4
 obtain ⟨b2, hb2⟩ : ∃ b, b = UInt8.ofNat (v.length / 256) := ⟨_, rfl⟩
 obtain ⟨b3, hb3⟩ : ∃ b, b = UInt8.ofNat v.length := ⟨_, rfl⟩
 rw [← hb2] at g2
 rw [← hb3] at g3
 have d0 : ∀ h, L[0]'h = 0 := fun h => by rw [List.getElem?_eq_getElem h] at g0; exact Option.some.inj g0
 have d1 : ∀ h, L[1]'h = 0 := fun h => by rw [List.getElem?_eq_getElem h] at g1; exact Option.some.inj g1
 have d2 : ∀ h, L[2]'h = b2 := fun h => by rw [List.getElem?_eq_getElem h] at g2; exact Option.some.inj g2
 have d3 : ∀ h, L[3]'h = b3 := fun h => by rw [List.getElem?_eq_getElem h] at g3; exact Option.some.inj g3
 have hor0 : bits .or .i64 0 0 = 0 := by decide
 have hor : bits .or .i64 ((b2.toNat : Int) * 256) (b3.toNat : Int) = (v.length : Int) := by rw [or_two, hb2, hb3, un2_two (by omega)]
 have h82 := b2.toNat_lt
 have h83 := b3.toNat_lt
 have w4 : IntKind.i64.wrap (b2.toNat : Int) = (b2.toNat : Int) := by rw [IntKind.wrap_i64]; omega
 have w5 : IntKind.i64.wrap (b3.toNat : Int) = (b3.toNat : Int) := by rw [IntKind.wrap_i64]; omega
 have w6 : IntKind.i64.wrap ((b2.toNat : Int) * 256) = (b2.toNat : Int) * 256 := by rw [IntKind.wrap_i64]; omega
 have hvi : (v.length : Int) ≤ 228 := by omega
 have HNO := hid hno
 have HB := hid hblk
 have HBA := hid hbA
 have G4 := hid g4
 clear hp hno hblk hq g0 g1 g2 g3 hb2 hb3 hbA g4
 go_enter Tryz.func251, Tryz.ntmps251
 go_wp2_with fail
 refine HG.out.mono ?_
 rintro e W1 ⟨rfl, hk1, hp1⟩
 have hR := HB.out.kp hk1 HNO.out
 have hK : Kp O w W1 := (Kp.of_below HBA.out).trans hk1
 have HR := hid hR
 have HP1 := hid hp1
 have HK := hid hK
 have r0 : W1.cell? ⟨w.heap.size, 0, none⟩ = some (.int .i64 0) := hR.cell 0
 have r1 : W1.cell? ⟨w.heap.size, 1, none⟩ = some (.string ⟨#[]⟩) := hR.cell 1
 have f0 := hR.frozen 0
 have f1 := hR.frozen 1
 clear hR hk1 hp1 hK
 go_wp2
 go_quiet (fail)
 go_wp2
 rw [G4.out]
 have hR3 := ((HR.out.drewN nq).set_ 0 (.int .i64 (-1))).set_ 1 (.string (S v))
 have q0 := hR3.cell 0
 have q1 := hR3.cell 1
 simp only [List.setIfInBounds_toArray, List.set_cons_zero, List.set_cons_succ, List.getElem?_toArray, List.getElem?_cons_zero, List.getElem?_cons_succ] at q0 q1
 have hkk : Kp O w (((W1.drewN nq).setCell ⟨w.heap.size, 0, none⟩ (.int .i64 (-1))).setCell ⟨w.heap.size, 1, none⟩ (.string (S v))) := ((HK.out.drewN nq).setCell (.inr (Nat.le_refl _)) _).setCell (.inr (Nat.le_refl _)) _
 refine bodyPost_ret (v := .tuple #[.agg #[.int .i64 (-1), .string (S v)], .int .i64 0]) (by simp [results, Tryz.results251, go_sem, q0, q1]) rfl ⟨rfl, hkk, ?_⟩
 refine HP1.out.of_blocks fun b hb => ?_
 have hb1 : b ≠ w.heap.size := fun e => HNO.out (e ▸ hb)
 rw [Below.heap_setCell _ ⟨w.heap.size, 1, none⟩ _ b hb1, Below.heap_setCell _ ⟨w.heap.size, 0, none⟩ _ b hb1]
 rfl
theorem piece_any {W : World} {B : Nat} {v : Bs} (h : W.cell? ⟨B, 0, none⟩ = some (.string (S v))) (hv : v.length ≤ 228) :
  Calls Tryz.prog 229 #[.int .i64 0, .pointer (some ⟨B, 0, none⟩)] W fun e w' => e = .returned (.string (S v)) ∧ W = w' := by
 have hvi : (v.length : Int) ≤ 228 := by omega
 go_enter Tryz.func229, Tryz.ntmps229
 go_wp2
 ·go_ret
  exact ⟨rfl, rfl⟩
 ·rw [List.take_of_length_le hv]
  go_ret
  exact ⟨rfl, rfl⟩
end
end
section
open Go.RowKit Go.Lib
theorem infInt : Inf 3 (.int .i64 0) 1 8 := inf3
theorem infU8 : Inf 5 (.int .u8 0) 1 1 := inf5
def intC (n : Int) : List Value := [.int .i64 n]
theorem intC_len (n : Int) : (intC n).length = 1 := rfl
theorem intC_one (n : Int) : ∀ u ∈ intC n, u.oneCell' = true := by intro u hu; simp [intC] at hu; subst hu; rfl
section
variable {w : World} {P : PL} {O : List Nat} {pgs : List (Option Bs)}
set_option maxHeartbeats 2000000 in
theorem cput_any (hp : PoI w P O pgs) {v : Bs} (hv : v.length ≤ 228) (hsm : somes pgs < 300) :
  Calls Tryz.prog 198 #[.pointer (some ⟨P.p, 0, none⟩), .string (S v)] w fun e w' => ∃ (q : Nat) (O' : List Nat), e = .returned (.tuple #[.int .i64 q, .int .i64 0]) ∧ q ≤ pgs.length ∧ (pgs[q]? = some none ∨ q = pgs.length) ∧
   PoI w' P O' (newAt pgs q (chB v)) ∧ Kp O w w' ∧ Gr O w.heap.size O' := by
 have hbA : Below w.heap.size w (w.alloc (.cells #[.string (S v)] 9)) := (Below.refl _ w).alloc (Nat.le_refl _) _
 have hblk := Blk.new w 9 #[.string (S v)]
 have HPC := hid (fun W (hW : Below w.heap.size (w.alloc (.cells #[.string (S v)] 9)) W) => piece_any (W := W) (B := w.heap.size) (v := v))
 have HN := hid (fun W (hW : Below (w.alloc (.cells #[.string (S v)] 9)).heap.size (w.alloc (.cells #[.string (S v)] 9)) W) => pi_new ((hp.below hbA).below hW) (two 0 ++ two v.length ++ v) (by simp; omega) hsm)
 have HT0 : Hid (∀ W, Calls Tryz.prog 231 #[.int .i64 0] W fun e w' => e = .returned (.string (S (two 0))) ∧ Below W.heap.size W w') := hid (fun W => by simpa using ctwo_any W 0 (by omega))
 have HT1 := hid (fun W => ctwo_any W v.length (by omega))
 have HND := hid (fun W => need_any W v.length hv)
 have c0 : (w.alloc (.cells #[.string (S v)] 9)).cell? ⟨w.heap.size, 0, none⟩ = some (.string (S v)) := hblk.cell 0
 have hvi : (v.length : Int) ≤ 228 := by omega
 have HB := hid hblk
 have HBA := hid hbA
 clear hp hblk hbA
 go_enter Tryz.func198, Tryz.ntmps198
 go_wp2_with (go_at_call 230; (with_reducible refine (HND.out _).mono ?_); rintro e w1 ⟨rfl, rfl⟩)
 go_loopg [9, 7, 8] 1 (fun gg s9 s7 s8 wr => (gg = 1 ∧ s9 = .int .i64 0 ∧ s7 = .slice none 0 0 ∧ s8 = .int .i64 (-1) ∧ wr = w.alloc (.cells #[.string (S v)] 9)) ∨
  (∃ (q : Nat) (O' : List Nat), s9 = .int .i64 (-1) ∧ s8 = .int .i64 q ∧ Hid (q ≤ pgs.length ∧ (pgs[q]? = some none ∨ q = pgs.length) ∧ PoI wr P O' (newAt pgs q (chB v)) ∧ Kp O w wr ∧ Gr O w.heap.size O')))
 case atStart => exact .inl ⟨rfl, rfl, rfl, rfl, rfl⟩
 case round =>
  rcases hrel with ⟨rfl, rfl, rfl, rfl, rfl⟩ | ⟨q, O', rfl, rfl, hF⟩
  ·have h0 : Int.toNat 0 = 0 := rfl
   go_wp2_with (first | (go_at_call 229; (with_reducible refine (HPC.out _ (Below.refl _ _) c0 hv).mono ?_); rintro e w1 ⟨rfl, rfl⟩) | fail)
   (with_reducible refine (HT0.out _).mono ?_)
   rintro e W1 ⟨rfl, hb1⟩
   have HB1 := hid hb1
   clear hb1
   go_wp2_with fail
   (with_reducible refine (HT1.out _).mono ?_)
   rintro e W2 ⟨rfl, hb2⟩
   have hb12 := HB1.out.trans (hb2.mono HB1.out.size)
   have HN2 := HN.out W2 hb12
   rw [List.append_assoc] at HN2
   have HN2 := hid HN2
   have HB12 := hid hb12
   clear hb2 hb12
   go_wp2_with fail
   (with_reducible refine HN2.out.mono ?_)
   rintro e W3 ⟨q, O', rfl, hq1, hq2, hp3, hk3, hg3⟩
   have hc : pad (two 0 ++ (two v.length ++ v)) = chB v := by unfold chB; rw [List.append_assoc]
   rw [hc] at hp3
   have hk02 : Below w.heap.size w W2 := HBA.out.trans (HB12.out.mono HBA.out.size)
   have hF : Hid (q ≤ pgs.length ∧ (pgs[q]? = some none ∨ q = pgs.length) ∧ PoI W3 P O' (newAt pgs q (chB v)) ∧ Kp O w W3 ∧ Gr O w.heap.size O') := hid ⟨hq1, hq2, hp3, (Kp.of_below hk02).trans hk3, hg3.mono hk02.size⟩
   clear hq1 hq2 hp3 hk3 hg3 hc hk02
   go_wp2_with (with_reducible refine stopAt .append rfl ?_)
   with_reducible refine goOn ?_
   refine app_own rfl _ _ _ rfl intC infInt Tryz.underlying27 rfl (by decide) (by omega) intC_len intC_one (W := W3) (B := W3.heap.size) (l := []) (n := 0) (q : Int) (World.ownsRow_nil W3 W3.heap.size 3 1) (by omega) (Nat.le_refl _) rfl rfl ?_
   intro v' W4 hO4 hk4
   have hF4 : Hid (q ≤ pgs.length ∧ (pgs[q]? = some none ∨ q = pgs.length) ∧ PoI W4 P O' (newAt pgs q (chB v)) ∧ Kp O w W4 ∧ Gr O w.heap.size O') := by
    obtain ⟨h1, h2, h3, h4, h5⟩ := hF.out
    have hk4' : Kp [] W3 W4 := hk4
    exact hid ⟨h1, h2, h3.below hk4'.nil_below, h4.trans (Kp.of_below hk4'.nil_below), h5⟩
   clear hF hO4 hk4
   go_wp2
   go_roundg 0
   case measure => omega
   case rel => exact .inr ⟨q, O', rfl, rfl, hF4⟩
  ·go_wp2
   go_ret2
   obtain ⟨h1, h2, h3, h4, h5⟩ := hF.out
   exact ⟨q, O', rfl, h1, h2, h3, h4, h5⟩
set_option maxHeartbeats 2000000 in
theorem cwalk_any (hp : PoI w P O pgs) {q : Nat} {v : Bs} (hq : pgs[q]? = some (some (chB v))) (hv : v.length ≤ 228) :
  Calls Tryz.prog 228 #[.pointer (some ⟨P.p, 0, none⟩), .int .i64 q] w fun e w' => ∃ v1, e = .returned (.tuple #[v1, .string (S v), .int .i64 0]) ∧ w'.ownsRow w.heap.size 3 1 v1 1 (rowV intC [(q : Int)]) ∧ Kp O w w' ∧ PoI w' P O pgs := by
 have HR := hid (cread_any hp hq hv)
 have HLT := hid hp.lts
 have HND := hid (fun W => need_most W)
 have hvi : (v.length : Int) ≤ 228 := by omega
 obtain ⟨i0, hi0, hz0, hz1, hz2⟩ := info_parts infU8
 clear hp hq
 go_enter Tryz.func228, Tryz.ntmps228
 go_wp2_with (go_at_call 230; (with_reducible refine (HND.out _).mono ?_); rintro e w1 ⟨rfl, rfl⟩)
 go_loopg [7, 8, 9, 16] 0 (fun gg s7 s8 s9 s16 wr => s7 = .slice none 0 0 ∧ s8 = .slice none 0 0 ∧ s9 = .int .i64 q ∧ s16 = .int .i64 0 ∧ w = wr)
 case atStart => exact ⟨rfl, rfl, rfl, rfl, rfl⟩
 case round =>
  obtain ⟨rfl, rfl, rfl, rfl, rfl⟩ := hrel
  go_wp2_with fail
  (with_reducible refine HR.out.mono ?_)
  rintro e W1 ⟨rfl, hk1, hp1⟩
  have H1 := hid (⟨hk1, hp1⟩ : Kp O w W1 ∧ PoI W1 P O pgs)
  have hs1 := hk1.size
  clear hk1 hp1
  go_wp2_with (with_reducible refine stopAt .append rfl ?_)
  with_reducible refine goOn ?_
  obtain ⟨W2, hW2⟩ : ∃ W2, W2 = W1.alloc (.cells #[.int .i64 (-1), .string (S v)] 372) := ⟨_, rfl⟩
  have hL2 : Blk W2 W1.heap.size 372 #[.int .i64 (-1), .string (S v)] := by rw [hW2]; exact Blk.new W1 _ _
  have hb2 : Below W1.heap.size W1 W2 := by rw [hW2]; exact (Below.refl _ W1).alloc (Nat.le_refl _) _
  have hs2 : W2.heap.size = W1.heap.size + 1 := by rw [hW2]; simp
  rw [← hW2, ← hs2]
  clear hW2
  refine app_own rfl _ _ _ rfl intC infInt Tryz.underlying27 rfl (by decide) (by omega) intC_len intC_one (v := .slice none 0 0) (W := W2) (B := w.heap.size) (l := []) (n := 0) (q : Int) (World.ownsRow_nil W2 w.heap.size 3 1) (by omega) (by omega) rfl rfl ?_
  intro v1 W3 hO3 hk3
  have hb3 : Below W2.heap.size W2 W3 := Kp.nil_below (show Kp [] W2 W3 from hk3)
  have hL3 := hL2.below hb3 hL2.lt
  have l1 : W3.cell? ⟨W1.heap.size, 1, none⟩ = some (.string (S v)) := hL3.cell 1
  have hs3 := hb3.size
  have hlt3 := hL3.lt
  have H3 := hid (⟨hO3, hb2.trans (hb3.mono (by omega)), hL3⟩ : W3.ownsRow w.heap.size 3 1 v1 (0 + 1) (rowV intC ([] ++ [(q : Int)])) ∧ Below W1.heap.size W1 W3 ∧ Blk W3 W1.heap.size 372 #[.int .i64 (-1), .string (S v)])
  clear hO3 hk3 hb3 hL3 hL2 hb2
  go_wp2_with (with_reducible refine stopAt .append rfl ?_)
  with_reducible refine goOn ?_
  refine wpList_append_own_string _ rfl _ _ 129 9 rfl W3.heap.size 5 i0 Tryz.underlying129 Tryz.underlying9 hi0 hz0 hz1 hz2 (.slice none 0 0) 0 [] rfl (World.ownsRow_nil W3 W3.heap.size 5 1) (S v) rfl (by rw [S_size]; unfold maxLen; omega) (by rw [S_size]; omega) (Nat.le_refl _) ?_
  intro v2 W4 hO4 hg4 _
  rw [S_size, strCells_S, List.nil_append, Nat.zero_add] at hO4
  have hcv : ∀ n, (convert 129 9 v2).run Tryz.prog (W4.drewN n) = .ok (.string (S v)) (W4.drewN n) := fun n => own_string (w := W4.drewN n) (row_of hO4 (fun _ _ => rfl))
  obtain ⟨tp2, tc2, rfl⟩ := own_slice2 hO4
  have hb4 : Below W3.heap.size W3 W4 := ⟨hg4.os, hg4.tape, hg4.output, hg4.size, fun b hb => hg4.block b hb (by intro e; cases e)⟩
  obtain ⟨hO3, hb13, hL3⟩ := H3.out
  have hL4 := hL3.below hb4 hL3.lt
  have m0 : W4.cell? ⟨W1.heap.size, 0, none⟩ = some (.int .i64 (-1)) := hL4.cell 0
  have H4 := hid (⟨row_of hO3 (fun b hb => hb4.block b (hO3.lt b hb).2), hb13.trans (hb4.mono hb13.size)⟩ : W4.ownsRow w.heap.size 3 1 v1 (0 + 1) (rowV intC ([] ++ [(q : Int)])) ∧ Below W1.heap.size W1 W4)
  have hlt4 := hL4.lt
  clear hO3 hb13 hL3 hL4 hb4 hg4 hO4 H3
  go_wp2
  go_quiet (fail)
  go_wp2
  go_ret3
  obtain ⟨h1, h2⟩ := H4.out
  obtain ⟨h3, h4⟩ := H1.out
  have h2' : Below W1.heap.size W1 (W4.drewN nq) := below_drewN h2 nq
  exact ⟨v1, rfl, row_of h1 (fun _ _ => rfl), h3.trans (Kp.of_below h2'), h4.below h2'⟩
set_option maxHeartbeats 1000000 in
theorem cget_any (hp : PoI w P O pgs) {q : Nat} {v : Bs} (hq : pgs[q]? = some (some (chB v))) (hv : v.length ≤ 228) :
  Calls Tryz.prog 207 #[.pointer (some ⟨P.p, 0, none⟩), .int .i64 q] w fun e w' => e = .returned (.tuple #[.string (S v), .int .i64 0]) ∧ Kp O w w' ∧ PoI w' P O pgs := by
 have HW := hid (cwalk_any hp hq hv)
 clear hp hq
 go_enter Tryz.func207, Tryz.ntmps207
 go_wp2_with fail
 (with_reducible refine HW.out.mono ?_)
 rintro e W1 ⟨v1, rfl, _, hk1, hp1⟩
 have H1 := hid (⟨hk1, hp1⟩ : Kp O w W1 ∧ PoI W1 P O pgs)
 clear hk1 hp1
 go_wp2
 go_ret2
 exact ⟨rfl, H1.out.1, H1.out.2⟩
set_option maxHeartbeats 2000000 in
theorem cdrop_any (hp : PoI w P O pgs) {q : Nat} {v : Bs} (hq : pgs[q]? = some (some (chB v))) (hv : v.length ≤ 228) :
  Calls Tryz.prog 197 #[.pointer (some ⟨P.p, 0, none⟩), .int .i64 q] w fun e w' => e = .returned (.int .i64 0) ∧ Kp O w w' ∧ PoI w' P O (pgs.set q none) := by
 have HW := hid (cwalk_any hp hq hv)
 have HQ := hid hq
 clear hp hq
 go_enter Tryz.func197, Tryz.ntmps197
 go_wp2_with fail
 (with_reducible refine HW.out.mono ?_)
 rintro e W1 ⟨v1, rfl, hO1, hk1, hp1⟩
 obtain ⟨g, c, rfl, hg1, hg2, hg3⟩ := own_form hO1 (by omega)
 have l0 : W1.cell? ⟨g, 0, none⟩ = some (.int .i64 q) := own_at hO1 rfl (j := 0) rfl
 have HD := hid (pi_drop hp1 HQ.out)
 have HK1 := hid hk1
 clear hO1 hk1 hp1 hg3
 go_wp2
 go_loopg [23] 1 (fun gg s23 wr => (gg = 1 ∧ s23 = .int .i64 0 ∧ W1 = wr) ∨ (s23 = .int .i64 1 ∧ Hid (Kp O W1 wr ∧ PoI wr P O (pgs.set q none))))
 case atStart => exact .inl ⟨rfl, rfl, rfl⟩
 case round =>
  rcases hrel with ⟨rfl, rfl, rfl⟩ | ⟨rfl, hF⟩
  ·go_wp2_with fail
   (with_reducible refine HD.out.mono ?_)
   rintro e W2 ⟨rfl, hk2, hp2⟩
   have hF : Hid (Kp O W1 W2 ∧ PoI W2 P O (pgs.set q none)) := hid ⟨hk2, hp2⟩
   clear hk2 hp2
   go_wp2
   go_roundg 0
   case measure => omega
   case rel => exact .inr ⟨rfl, hF⟩
  ·go_wp2
   go_ret
   exact ⟨rfl, HK1.out.trans hF.out.1, hF.out.2⟩
end
end
section
open Go.RowKit Go.Lib
theorem Asc.next {l : List En} (h : Asc l) {j : Nat} {x y : En} (hx : l[j]? = some x) (hy : l[j + 1]? = some y) : x.key < y.key := by
 obtain ⟨h1, e1⟩ := List.getElem?_eq_some_iff.1 hx
 obtain ⟨h2, e2⟩ := List.getElem?_eq_some_iff.1 hy
 have := List.pairwise_iff_getElem.1 h j (j + 1) h1 h2 (by omega)
 rwa [e1, e2] at this
theorem below_undrew {w w' : World} (h : Below w.drew.heap.size w.drew w') : Below w.heap.size w w' := ⟨h.os, h.tape, h.output, h.size, h.block⟩
set_option maxHeartbeats 2000000 in
theorem may_any {w : World} {n : Nd} {v : Value} (h : mayN n) (hv : EnI w v n.l) (hn : n.l.length ≤ 1000000) :
  Calls Tryz.prog 213 #[ndV n.leaf v] w fun e w' => e = .returned (.bool true) ∧ Below w.heap.size w w' := by
 obtain ⟨ao, c, rfl⟩ := hv.slice
 have H := hid h
 have HV := hid hv
 clear h hv
 unfold ndV
 go_enter Tryz.func213, Tryz.ntmps213
 go_wp2
 go_loopg [8] n.l.length (fun gg s8 wr => ∃ i : Nat, i ≤ n.l.length ∧ n.l.length - i ≤ gg ∧ s8 = .int .i64 i ∧ Hid (Below w.heap.size w wr) ∧ Hid (Blk wr w.heap.size 292 #[.bool n.leaf, .slice ao n.l.length c]))
 case atStart => exact ⟨0, Nat.zero_le _, by omega, rfl, hid ((Below.refl _ w).alloc (Nat.le_refl _) _), hid (Blk.new w _ _)⟩
 case round =>
  obtain ⟨i, hi, hgg, rfl, hB, hN⟩ := hrel
  by_cases hlt : i < n.l.length
  ·obtain ⟨g, o, c', e, hc', hg, hE⟩ := HV.out.form (by intro e; rw [e] at hlt; simp at hlt)
   injection e with e1 e2 e3
   subst e1 e3
   obtain ⟨x, hx⟩ : ∃ x, n.l[i]? = some x := ⟨_, List.getElem?_eq_getElem hlt⟩
   have cell : Hid (∀ (W : World), Below w.heap.size w W → ∀ (j : Nat) y, n.l[j]? = some y → W.cell? ⟨g, o + j * 3, none⟩ = some (.string (S y.key)) ∧ W.cell? ⟨g, o + j * 3 + 1, none⟩ = some (.string (S y.val)) ∧ W.cell? ⟨g, o + j * 3 + 2, none⟩ = some (.int .i64 y.far)) := hid fun W hW j y hy => by
    obtain ⟨a, b, d⟩ := hE j y hy
    exact ⟨(hW.cell (p := ⟨g, _, none⟩) hg).trans a, (hW.cell (p := ⟨g, _, none⟩) hg).trans b, (hW.cell (p := ⟨g, _, none⟩) hg).trans d⟩
   obtain ⟨l0, l1, l2⟩ := cell.out wr hB.out i x hx
   have hltz : (i : Int) < (n.l.length : Int) := by omega
   have hgw : g < wr.heap.size := Nat.lt_of_lt_of_le hg hB.out.size
   have hnw : w.heap.size < wr.heap.size := hN.out.lt
   have hgne : g ≠ wr.heap.size := by omega
   have hgne2 : w.heap.size ≠ wr.heap.size := by omega
   have n0 : wr.cell? ⟨w.heap.size, 0, none⟩ = some (.bool n.leaf) := hN.out.cell 0
   have n1 : wr.cell? ⟨w.heap.size, 1, none⟩ = some (.slice (some ⟨g, o, none⟩) n.l.length c) := hN.out.cell 1
   have HRT := hid (fun W => right_any W x n.leaf (H.out.1 x (List.mem_of_getElem? hx)))
   have HX := hid hx
   clear hx hE
   obtain ⟨wo, hwo⟩ : ∃ wo, wo = wr := ⟨_, rfl⟩
   subst hwo
   have HB2 : Hid (Below w.heap.size w (wo.alloc (.cells #[.string (S x.key), .string (S x.val), .int .i64 x.far] 299))) := hid (hB.out.alloc hB.out.size _)
   have hN2 := hN.out.alloc (.cells #[.string (S x.key), .string (S x.val), .int .i64 x.far] 299)
   have hE2 := Blk.new wo 299 #[.string (S x.key), .string (S x.val), .int .i64 x.far]
   have HS0 : Hid ((wo.alloc (.cells #[.string (S x.key), .string (S x.val), .int .i64 x.far] 299)).cell? ⟨wo.heap.size, 0, none⟩ = some (.string (S x.key)) ∧ (wo.alloc (.cells #[.string (S x.key), .string (S x.val), .int .i64 x.far] 299)).cell? ⟨wo.heap.size, 1, none⟩ = some (.string (S x.val)) ∧ (wo.alloc (.cells #[.string (S x.key), .string (S x.val), .int .i64 x.far] 299)).cell? ⟨wo.heap.size, 2, none⟩ = some (.int .i64 x.far)) := hid ⟨hE2.cell 0, hE2.cell 1, hE2.cell 2⟩
   have HS1 : Hid ((wo.alloc (.cells #[.string (S x.key), .string (S x.val), .int .i64 x.far] 299)).cell? ⟨w.heap.size, 0, none⟩ = some (.bool n.leaf) ∧ (wo.alloc (.cells #[.string (S x.key), .string (S x.val), .int .i64 x.far] 299)).cell? ⟨w.heap.size, 1, none⟩ = some (.slice (some ⟨g, o, none⟩) n.l.length c)) := hid ⟨hN2.cell 0, hN2.cell 1⟩
   clear hN2 hE2
   by_cases h0 : i = 0
   ·subst h0
    have m0 : wo.cell? ⟨g, o, none⟩ = some (.string (S x.key)) := by simpa using l0
    have m1 : wo.cell? ⟨g, o + 1, none⟩ = some (.string (S x.val)) := by simpa using l1
    have m2 : wo.cell? ⟨g, o + 2, none⟩ = some (.int .i64 x.far) := by simpa using l2
    clear l0 l1 l2
    go_wp2
    obtain ⟨C, hC⟩ : ∃ C : World → Prop, Hid (∀ W, C W ↔ Below (wo.heap.size + 1) (wo.alloc (.cells #[.string (S x.key), .string (S x.val), .int .i64 x.far] 299)) W) := ⟨_, hid fun _ => Iff.rfl⟩
    have HCL : Hid (∀ W, C W → W.cell? ⟨wo.heap.size, 0, none⟩ = some (.string (S x.key)) ∧ W.cell? ⟨wo.heap.size, 1, none⟩ = some (.string (S x.val)) ∧ W.cell? ⟨wo.heap.size, 2, none⟩ = some (.int .i64 x.far) ∧ W.cell? ⟨w.heap.size, 0, none⟩ = some (.bool n.leaf)) := hid fun W hW => by
     have hb := (hC.out W).1 hW
     exact ⟨(hb.cell (by simp)).trans HS0.out.1, (hb.cell (by simp)).trans HS0.out.2.1, (hb.cell (by simp)).trans HS0.out.2.2, (hb.cell (by simp; omega)).trans HS1.out.1⟩
    have HCC : Hid (∀ W, C W → Calls Tryz.prog 238 #[.agg #[.string (S x.key), .string (S x.val), .int .i64 x.far], .bool n.leaf] W fun e w' => e = .returned (.bool true) ∧ C w') := hid fun W hW => by
     refine (HRT.out W).mono ?_
     rintro e w' ⟨rfl, hb⟩
     have h1 := (hC.out W).1 hW
     exact ⟨rfl, (hC.out w').2 (h1.trans (hb.mono (by have := h1.size; simpa using this)))⟩
    refine qC_region (by kernel_rfl) (by kernel_rfl) C ((hC.out _).2 (below_drewN (Below.refl _ _) 1)) ?_
    repeat (first | (refine qC_none rfl (fun K hK => ?_); apply Exists.intro; refine ⟨fun w0 hw0 => ?_, ?_⟩; (focus (obtain ⟨q0, q1, q2, q3⟩ := HCL.out w0 hw0; go_simp; first | exact rfl | exact ⟨rfl, rfl⟩ | (exact HCC.out w0 hw0))); go_simp; refine hK _ ?_; clear hK K) | (refine qC_yes _ _ _ rfl rfl (by rfl) (fun K hK => ?_); apply Exists.intro; refine ⟨fun w0 hw0 => ?_, ?_⟩; (focus (obtain ⟨q0, q1, q2, q3⟩ := HCL.out w0 hw0; go_simp; first | exact rfl | exact ⟨rfl, rfl⟩ | (exact HCC.out w0 hw0))); go_simp; refine hK _ ?_; clear hK K) | (refine qC_no _ _ _ rfl rfl (by rfl) (fun K hK => ?_); go_simp; refine hK _ ?_; clear hK K) | (refine qC_undef _ _ _ rfl rfl (by rfl) (fun K hK => ?_); go_simp; refine hK _ ?_; clear hK K))
    refine qC_nil ?_
    intro w5 hw5
    have hb5 := (hC.out w5).1 hw5
    have hN5 : Blk w5 w.heap.size 292 #[.bool n.leaf, .slice (some ⟨g, o, none⟩) n.l.length c] := (hN.out.alloc _).below hb5 (by omega)
    have HN5 := hid hN5
    have HB5 : Hid (Below w.heap.size w w5) := hid (HB2.out.trans (hb5.mono (by omega)))
    clear hN5 hb5
    go_wp2
    go_roundg (n.l.length - 1)
    case measure => omega
    case rel => exact ⟨1, by omega, by omega, by go_num, HB5, HN5⟩
   ·obtain ⟨k, hk⟩ : ∃ k, i = k + 1 := ⟨i - 1, by omega⟩
    obtain ⟨y, hy⟩ : ∃ y, n.l[k]? = some y := ⟨_, List.getElem?_eq_getElem (by omega)⟩
    have hyx : y.key < x.key := Asc.next H.out.2 hy (by rw [← hk]; exact HX.out)
    have hle : (Op.bytesLess x.key y.key || x.key == y.key) = false := by
     rw [bl]
     simp only [Bool.or_eq_false_iff, decide_eq_false_iff_not, beq_eq_false_iff_ne]
     exact ⟨blt_asymm hyx, fun e => blt_irrefl _ (e ▸ hyx)⟩
    have hw1 : IntKind.i64.wrap ((i : Int) - 1) = (k : Int) := by rw [IntKind.wrap_i64]; omega
    have hk0 : 0 < i := by omega
    have hk2 : (0 : Int) ≤ (k : Int) := by omega
    have hk1 : (k : Int) < (n.l.length : Int) := by omega
    have l3 := (cell.out wo hB.out k y hy).1
    have HS2 : Hid ((wo.alloc (.cells #[.string (S x.key), .string (S x.val), .int .i64 x.far] 299)).cell? ⟨g, o + k * 3, none⟩ = some (.string (S y.key))) := hid ((World.cell?_of_block (a := ⟨g, o + k * 3, none⟩) (Below.heap_alloc wo _ g hgw)).trans l3)
    have HY := hid hyx
    have HK := hid hk
    have HYY := hid hy
    clear l3 hyx hk hy
    go_wp2
    obtain ⟨C, hC⟩ : ∃ C : World → Prop, Hid (∀ W, C W ↔ Below (wo.heap.size + 1) (wo.alloc (.cells #[.string (S x.key), .string (S x.val), .int .i64 x.far] 299)) W) := ⟨_, hid fun _ => Iff.rfl⟩
    have HCL : Hid (∀ W, C W → W.cell? ⟨wo.heap.size, 0, none⟩ = some (.string (S x.key)) ∧ W.cell? ⟨wo.heap.size, 1, none⟩ = some (.string (S x.val)) ∧ W.cell? ⟨wo.heap.size, 2, none⟩ = some (.int .i64 x.far) ∧ W.cell? ⟨w.heap.size, 0, none⟩ = some (.bool n.leaf) ∧ W.cell? ⟨w.heap.size, 1, none⟩ = some (.slice (some ⟨g, o, none⟩) n.l.length c) ∧ W.cell? ⟨g, o + k * 3, none⟩ = some (.string (S y.key))) := hid fun W hW => by
     have hb := (hC.out W).1 hW
     exact ⟨(hb.cell (by simp)).trans HS0.out.1, (hb.cell (by simp)).trans HS0.out.2.1, (hb.cell (by simp)).trans HS0.out.2.2, (hb.cell (by simp; omega)).trans HS1.out.1, (hb.cell (by simp; omega)).trans HS1.out.2, (hb.cell (by simp; omega)).trans HS2.out⟩
    have HCC : Hid (∀ W, C W → Calls Tryz.prog 238 #[.agg #[.string (S x.key), .string (S x.val), .int .i64 x.far], .bool n.leaf] W fun e w' => e = .returned (.bool true) ∧ C w') := hid fun W hW => by
     refine (HRT.out W).mono ?_
     rintro e w' ⟨rfl, hb⟩
     have h1 := (hC.out W).1 hW
     exact ⟨rfl, (hC.out w').2 (h1.trans (hb.mono (by have := h1.size; simpa using this)))⟩
    refine qC_region (by kernel_rfl) (by kernel_rfl) C ((hC.out _).2 (below_drewN (Below.refl _ _) 1)) ?_
    repeat (first | (refine qC_none rfl (fun K hK => ?_); apply Exists.intro; refine ⟨fun w0 hw0 => ?_, ?_⟩; (focus (obtain ⟨q0, q1, q2, q3, q4, q5⟩ := HCL.out w0 hw0; go_simp; first | exact rfl | exact ⟨rfl, rfl⟩ | (exact HCC.out w0 hw0))); go_simp; refine hK _ ?_; clear hK K) | (refine qC_yes _ _ _ rfl rfl (by rfl) (fun K hK => ?_); apply Exists.intro; refine ⟨fun w0 hw0 => ?_, ?_⟩; (focus (obtain ⟨q0, q1, q2, q3, q4, q5⟩ := HCL.out w0 hw0; go_simp; first | exact rfl | exact ⟨rfl, rfl⟩ | (exact HCC.out w0 hw0))); go_simp; refine hK _ ?_; clear hK K) | (refine qC_no _ _ _ rfl rfl (by rfl) (fun K hK => ?_); go_simp; refine hK _ ?_; clear hK K) | (refine qC_undef _ _ _ rfl rfl (by rfl) (fun K hK => ?_); go_simp; refine hK _ ?_; clear hK K))
    refine qC_nil ?_
    intro w5 hw5
    have hb5 := (hC.out w5).1 hw5
    have hN5 : Blk w5 w.heap.size 292 #[.bool n.leaf, .slice (some ⟨g, o, none⟩) n.l.length c] := (hN.out.alloc _).below hb5 (by omega)
    have HN5 := hid hN5
    have HB5 : Hid (Below w.heap.size w w5) := hid (HB2.out.trans (hb5.mono (by omega)))
    clear hN5 hb5
    go_wp2
    go_roundg (n.l.length - (i + 1))
    case measure => omega
    case rel => exact ⟨i + 1, by omega, by omega, by go_num, HB5, HN5⟩
  ·have : i = n.l.length := by omega
   subst this
   go_wp2
   go_ret
   exact ⟨rfl, hB.out⟩
end
section
open Go.RowKit Go.Lib
theorem own_not {w : World} {B g s n : Nat} {T T' : TypeId} {v : Value} {xs : List Value} {cs : Array Value} (h : w.ownsRow B T s v n xs) (hB : Blk w g T' cs) (hne : T ≠ T') : v.ownBlock ≠ some g := by
 rcases h.2 with ⟨rfl, _⟩ | ⟨q, c, cur, rfl, _, h2, _⟩
 ·simp [Value.ownBlock]
 ·intro e
  have e2 : q = g := by simpa [Value.ownBlock] using e
  subst e2
  unfold Blk at hB
  rw [h2] at hB
  injection hB with hB
  injection hB with _ ht
  exact hne ht
theorem sC_snoc (l : List Bs) (r : Bs) : sC (l ++ [r]) = sC l ++ [.string (S r)] := by simp [sC]
theorem cv_bytes {W : World} {g : Nat} {T : TypeId} {cs : Array Value} {l : Bs} (hB : Blk W g T cs) (hc : cs = bA l) (n c : Nat) (hn : n = l.length) :
  (convert 129 9 (.slice (some ⟨g, 0, none⟩) n c)).run Tryz.prog W = .ok (.string (S l)) W := by
 subst hc
 exact bk_string (Bk.of_blk hB) hn
set_option maxHeartbeats 1000000 in
theorem putE_any {w : World} {B g0 n : Nat} {v : Value} {rs : List Bs} (x : En) (hx : rightE true x ∨ rightE false x) (hB : Blk w g0 36 #[v]) (hO : w.ownsRow B 9 1 v n (sC rs)) (hg : B ≤ g0) (hv : v.ownBlock ≠ some g0) (hn : n ≤ 1000) :
  Calls Tryz.prog 214 #[.agg #[.string (S x.key), .string (S x.val), .int .i64 x.far], .pointer (some ⟨g0, 0, none⟩)] w fun e w' => e = .returned (.tuple #[]) ∧ Below B w w' ∧ ∃ v', Blk w' g0 36 #[v'] ∧ w'.ownsRow B 9 1 v' (n + 1) (sC (rs ++ [encE x])) ∧ v'.ownBlock ≠ some g0 := by
 have hk : x.key.length ≤ 32 := by rcases hx with h | h <;> exact h.1
 have hvl : x.val.length ≤ 40 := by rcases hx with h | h <;> exact h.2.1
 have c0 : w.cell? ⟨g0, 0, none⟩ = some v := hB.cell 0
 have hfar : -1 ≤ x.far ∧ x.far < 512 := by
  rcases hx with h | h
  ·have h1 := h.2.2.1; have h2 := h.2.2.2.1; simp at h1; omega
  ·have := rightE_inner h; omega
 obtain ⟨f, hf, hf2⟩ : ∃ f : Nat, x.far + 1 = (f : Int) ∧ f < 65536 := ⟨(x.far + 1).toNat, by omega, by omega⟩
 have hw1 : IntKind.i64.wrap (x.far + 1) = (f : Int) := by rw [IntKind.wrap_i64]; omega
 have hcv1 := cv_bytes (l := [UInt8.ofNat x.key.length]) (Blk.new (w.alloc (.cells #[.string (S x.key), .string (S x.val), .int .i64 x.far] 299)) 5 #[.int .u8 (x.key.length : Int)]) (by simp [bA, cB]; omega) 1 1 rfl
 have hz : (w.alloc (.cells #[.string (S x.key), .string (S x.val), .int .i64 x.far] 299)).heap.size = w.heap.size + 1 := by simp
 rw [hz] at hcv1
 have hcv2 := cv_bytes (l := two f) (Blk.new ((w.alloc (.cells #[.string (S x.key), .string (S x.val), .int .i64 x.far] 299)).alloc (.cells #[.int .u8 (x.key.length : Int)] 5)) 5 #[.int .u8 ((f : Int) / 256), .int .u8 ((f : Int) % 256)]) (by simp [bA, cB, two]; omega) 2 2 rfl
 have hz2 : ((w.alloc (.cells #[.string (S x.key), .string (S x.val), .int .i64 x.far] 299)).alloc (.cells #[.int .u8 (x.key.length : Int)] 5)).heap.size = w.heap.size + 1 + 1 := by simp
 rw [hz2] at hcv2
 have hen : encE x = UInt8.ofNat x.key.length :: (x.key ++ (two f ++ x.val)) := by
  unfold encE
  rw [hf]
  simp
 have HEN := hid hen
 clear hz hz2 hen
 have HB := hid hB
 have HO := hid hO
 have HX := hid hx
 have HV := hid hv
 have hlt := hB.lt
 clear hB hO hx hv
 go_enter Tryz.func214, Tryz.ntmps214
 go_wp2_with (with_reducible refine stopAt .append rfl ?_)
 with_reducible refine goOn ?_
 obtain ⟨W3, hW3⟩ : ∃ W3, W3 = (((w.alloc (.cells #[.string (S x.key), .string (S x.val), .int .i64 x.far] 299)).alloc (.cells #[.int .u8 (x.key.length : Int)] 5)).alloc (.cells #[.int .u8 ((f : Int) / 256), .int .u8 ((f : Int) % 256)] 5)) := ⟨_, rfl⟩
 have hs3 : W3.heap.size = w.heap.size + 1 + 1 + 1 := by rw [hW3]; simp
 have hb3 : Below w.heap.size w W3 := by
  rw [hW3]
  exact (((Below.refl _ w).alloc (Nat.le_refl _) _).alloc (by simp) _).alloc (by simp; omega) _
 rw [← hW3, ← hs3]
 clear hW3 hcv1 hcv2
 obtain ⟨i0, hi0, hz0, hz1, hz2⟩ := info_parts infStr
 have hO3 : W3.ownsRow B 9 1 v n (sC rs) := row_of HO.out (fun b hb => hb3.block b (HO.out.lt b hb).2)
 refine wpList_append_own _ rfl _ _ 36 rfl B 9 i0 (.string ⟨#[]⟩) 1 16 Tryz.underlying36 hi0 hz0 hz1 hz2 rfl (by decide) v n (sC rs) rfl (hO3.alloc _) ⟨W3.heap.size, 0, none⟩ 1 1 [.string (S (UInt8.ofNat x.key.length :: (x.key ++ (two f ++ x.val))))] rfl rfl (news_of (Blk.new W3 9 #[.string (S (UInt8.ofNat x.key.length :: (x.key ++ (two f ++ x.val))))])) (sC_one [_]) (by unfold maxLen; omega) (by omega) (by have := hb3.size; simp; omega) ?_
 intro v' W' hO' hgr _
 have hg0 : some g0 ≠ v.ownBlock := fun e => HV.out e.symm
 have hB' : Blk W' g0 36 #[v] := ((HB.out.below hb3 hlt).alloc _).grown hgr hg0
 have e0 : W'.cell? ⟨g0, 0, none⟩ = some v := hB'.cell 0
 have f0 : W'.frozen? ⟨g0, 0, none⟩ = false := hB'.frozen 0
 have hlt' := hB'.lt
 have hne : v'.ownBlock ≠ some g0 := own_not hO' hB' (by decide)
 obtain ⟨q, c4, rfl, hq1, hq2, hq3⟩ := own_form hO' (by omega)
 have HNE := hid hne
 clear hne
 have HGR := hid hgr
 have HO' := hid hO'
 have HB' := hid hB'
 have HB3 := hid hb3
 clear hgr hO' hB' hb3
 go_wp2
 go_end0
 have hbB : Below B w W' := (((HB3.out.mono (Nat.le_trans hg (Nat.le_of_lt hlt))).alloc (by have := HB3.out.size; omega) _).grown HGR.out (by have := HB3.out.size; simp; omega) (fun b hb => (HO.out.lt b hb).1))
 refine ⟨rfl, hbB.setCell hg _, _, by simpa using HB'.out.set_ 0 _, ?_, HNE.out⟩
 rw [sC_snoc, HEN.out]
 refine row_of HO'.out (fun b hb => ?_)
 exact Below.heap_setCell _ ⟨g0, 0, none⟩ _ b (fun e => HNE.out (by rw [hb, e]))
end
end Go.Proofs.YtnnghcooidjlhaaGreat
