/- Parts of the proof: Zl. -/
import Derived.Deep.RegionLaw
import Derived.Test.YtnnghcooidjlhaaGreatE34
set_option linter.all false
set_option maxRecDepth 100000
namespace Go.Proofs.YtnnghcooidjlhaaGreat
section
open Go.RowKit Go.Lib
theorem infItem24 : (Tryz.prog.info? 72).map (fun i => (i.zero, i.size, i.bytes)) = some (some (.agg #[.string ⟨#[]⟩, .int .i64 0, .float .f64 0, .int .i64 0, .int .i64 0, .int .i64 0, .int .i64 0]), 7, 64) := by kernel_rfl
theorem below_alloc4 {w W : World} (h : Below w.heap.size w W) (o : Obj) : Below w.heap.size w (W.alloc o) := h.alloc h.size o
theorem below_own4 {w W W' : World} {B s n : Nat} {T : TypeId} {v : Value} {xs : List Value} (hb : Below w.heap.size w W) (ho : W.ownsRow B T s v n xs) (hB : w.heap.size ≤ B) (hk : Kp v.ownBlock.toList W W') : Below w.heap.size w W' :=
 hb.trans (hk.to_below hb.size (fun x hx => Nat.le_trans hB (ho.lt x (Option.mem_toList.1 hx)).1))
theorem Vw.kp4 {α : Type} {k : Nat} {enc : α → List Value} {w w' : World} {v : Value} {l : List α} {O : List Nat} (h : Vw k enc w v l) (hk : Kp O w w') (ho : ∀ b, v.ownBlock = some b → b ∉ O) : Vw k enc w' v l := h.of_block (fun b hb e => hk.block b hb (ho b e)) hk.size
theorem del24_take {l : List It} {j : Nat} {y : It} (h : l[j]? = some y) (x : It) : del24 (l.take (j + 1)) x = del24 (l.take j) x ++ if dif x y = true then [y] else [] := by
 unfold del24
 rw [List.take_add_one, h, Option.toList_some, List.filter_append]
 cases h1 : dif x y <;> simp [h1]
theorem del24_len (l : List It) (x : It) : (del24 l x).length ≤ l.length := List.length_filter_le _ _
def DlI (w W : World) (x : It) (v : Value) (ls : List It) : Prop :=
 Below w.heap.size w W ∧ W.ownsRow (w.heap.size + 1) 72 7 v ls.length (rowV itC ls) ∧ w.heap.size + 1 ≤ W.heap.size ∧ Blk W w.heap.size 72 #[.string (S x.c), .int .i64 x.k, .float .f64 x.e.t, .int .i64 x.e.src, .int .i64 x.e.n, .int .i64 x.e.dst, .int .i64 x.e.pay]
set_option maxHeartbeats 8000000 in
theorem del24_any {w : World} {p : Option Addr} {n c : Nat} {l : List It} (hv : Vw 7 itC w (.slice p n c) l) (hn : n = l.length) (hl : n ≤ 1000) (x : It) :
  Calls Tryz.prog 40 #[.slice p n c, itV x] w fun r w' => ∃ v', r = .returned v' ∧ w'.ownsRow w.heap.size 72 7 v' (del24 l x).length (rowV itC (del24 l x)) ∧ Below w.heap.size w w' := by
 have hli : (n : Int) ≤ 1000 := by omega
 have HG := hid (⟨hv, hn, hl⟩ : _ ∧ _ ∧ _)
 obtain ⟨W1, hW1⟩ : ∃ W1, W1 = w.alloc (.cells #[.string (S x.c), .int .i64 x.k, .float .f64 x.e.t, .int .i64 x.e.src, .int .i64 x.e.n, .int .i64 x.e.dst, .int .i64 x.e.pay] 72) := ⟨_, rfl⟩
 have HI0 : Hid (DlI w W1 x (.slice none 0 0) (del24 (l.take 0) x)) := hid ⟨by rw [hW1]; exact (Below.refl _ w).alloc (Nat.le_refl _) _, ⟨rfl, .inl ⟨rfl, rfl⟩⟩, by rw [hW1]; simp, by rw [hW1]; exact Blk.new w _ _⟩
 rw [hW1] at HI0
 unfold itV
 clear hv hn hl hW1
 go_enter Tryz.func40, Tryz.ntmps40
 go_wp2
 go_loopg [5, 6] n (fun gg s5 s6 wr => ∃ (j : Nat) (p1 : Option Addr) (n1 c1 : Nat), j ≤ n ∧ n - j ≤ gg ∧ s6 = .int .i64 j ∧ s5 = .slice p1 n1 c1 ∧ Hid (DlI w wr x (.slice p1 n1 c1) (del24 (l.take j) x)))
 case atStart => exact ⟨0, _, _, _, by omega, by omega, rfl, rfl, HI0⟩
 case round =>
  obtain ⟨j, p1, n1, c1, hj, hgg, rfl, rfl, HI⟩ := hrel
  by_cases hje : j < n
  ·obtain ⟨y, hy⟩ : ∃ y, l[j]? = some y := ⟨_, List.getElem?_eq_getElem (by rw [← HG.out.2.1]; exact hje)⟩
   obtain ⟨b, off, c', e, _, hbl, hcx⟩ := HG.out.1.ex (by rintro rfl; simp at hy)
   injection e with e1 e2 e3
   subst e1
   clear e2 e3
   have HC : Hid (∀ W, BelC wr W → W.cell? ⟨b, off + j * 7, none⟩ = some (.string (S y.c)) ∧ W.cell? ⟨b, off + j * 7 + 1, none⟩ = some (.int .i64 y.k) ∧ W.cell? ⟨w.heap.size, 0, none⟩ = some (.string (S x.c)) ∧ W.cell? ⟨w.heap.size, 1, none⟩ = some (.int .i64 x.k)) := hid fun W hW => by
    have hb := HI.out.1.trans (hW.out.mono HI.out.1.size)
    have hcell : ∀ q u, (itC y)[q]? = some u → W.cell? ⟨b, off + j * 7 + q, none⟩ = some u := fun q u hu => (World.cell?_of_block (hb.block b hbl)).trans (hcx j y hy q u hu)
    have hB := HI.out.2.2.2.below hW.out HI.out.2.2.2.lt
    exact ⟨hcell 0 _ rfl, hcell 1 _ rfl, hB.cell 0, hB.cell 1⟩
   have HC2 : Hid (∀ W, BelC wr W → W.cell? ⟨b, off + j * 7, none⟩ = some (.string (S y.c)) ∧ W.cell? ⟨b, off + j * 7 + 1, none⟩ = some (.int .i64 y.k) ∧ W.cell? ⟨b, off + j * 7 + 2, none⟩ = some (.float .f64 y.e.t) ∧ W.cell? ⟨b, off + j * 7 + 3, none⟩ = some (.int .i64 y.e.src) ∧ W.cell? ⟨b, off + j * 7 + 4, none⟩ = some (.int .i64 y.e.n) ∧ W.cell? ⟨b, off + j * 7 + 5, none⟩ = some (.int .i64 y.e.dst) ∧ W.cell? ⟨b, off + j * 7 + 6, none⟩ = some (.int .i64 y.e.pay)) := hid fun W hW => by
    have hb := HI.out.1.trans (hW.out.mono HI.out.1.size)
    have hcell : ∀ q u, (itC y)[q]? = some u → W.cell? ⟨b, off + j * 7 + q, none⟩ = some u := fun q u hu => (World.cell?_of_block (hb.block b hbl)).trans (hcx j y hy q u hu)
    exact ⟨hcell 0 _ rfl, hcell 1 _ rfl, hcell 2 _ rfl, hcell 3 _ rfl, hcell 4 _ rfl, hcell 5 _ rfl, hcell 6 _ rfl⟩
   have HT := hid (del24_take hy x)
   have hji : (j : Int) < (n : Int) := by omega
   have HDR := hid (BelC.drew wr)
   clear hy hbl hcx
   obtain ⟨wo, hwo⟩ : ∃ wo, wo = wr := ⟨_, rfl⟩
   subst hwo
   have hcs : (¬ y.c = x.c) ∨ (y.c = x.c ∧ ¬ y.k = x.k) ∨ (y.c = x.c ∧ y.k = x.k) := by
    by_cases h1 : y.c = x.c
    ·by_cases h2 : y.k = x.k
     ·exact .inr (.inr ⟨h1, h2⟩)
     ·exact .inr (.inl ⟨h1, h2⟩)
    ·exact .inl h1
   rcases hcs with h1 | ⟨h1, h2⟩ | ⟨h1, h2⟩
   case' inl =>
    have he : (y.c == x.c) = false := by simpa using h1
    have HD : Hid (dif x y = true) := hid (decide_eq_true fun h => h1 h.1)
    clear h1
   case' inr.inl =>
    have he : (y.c == x.c) = true := beq_iff_eq.2 h1
    have HD : Hid (dif x y = true) := hid (decide_eq_true fun h => h2 h.2)
    clear h1
   case' inr.inr =>
    have he : (y.c == x.c) = true := beq_iff_eq.2 h1
    have HD : Hid (dif x y = false) := hid (decide_eq_false fun h => h ⟨h1, h2⟩)
    clear h1
   all_goals
    go_wp2
    refine qC_region (by kernel_rfl) (by kernel_rfl) (BelC wo) HDR.out ?_
    repeat (first | (refine qC_none rfl (fun K hK => ?_); apply Exists.intro; refine ⟨fun w0 hw0 => ?_, ?_⟩; (focus (obtain ⟨q0, q1, q2, q3⟩ := HC.out w0 hw0; go_simp; first | exact rfl | exact ⟨rfl, rfl⟩ | (fail))); go_simp; refine hK _ ?_; clear hK K) | (refine qC_yes _ _ _ rfl rfl (by rfl) (fun K hK => ?_); apply Exists.intro; refine ⟨fun w0 hw0 => ?_, ?_⟩; (focus (obtain ⟨q0, q1, q2, q3⟩ := HC.out w0 hw0; go_simp; first | exact rfl | exact ⟨rfl, rfl⟩ | (fail))); go_simp; refine hK _ ?_; clear hK K) | (refine qC_no _ _ _ rfl rfl (by rfl) (fun K hK => ?_); go_simp; refine hK _ ?_; clear hK K) | (refine qC_undef _ _ _ rfl rfl (by rfl) (fun K hK => ?_); go_simp; refine hK _ ?_; clear hK K))
    refine qC_nil ?_
    intro w5 hw5
    have HI5 : Hid (DlI w w5 x (.slice p1 n1 c1) (del24 (l.take j) x)) := hid (by
     obtain ⟨h1, h2, h3, h4⟩ := HI.out
     exact ⟨h1.trans (hw5.out.mono h1.size), row_of h2 (fun b hb => hw5.out.block b (h2.lt b hb).2), Nat.le_trans h3 hw5.out.size, h4.below hw5.out h4.lt⟩)
    obtain ⟨m0, m1, m2, m3, m4, m5, m6⟩ := HC2.out w5 hw5
    clear hw5
   ·clear m0 m1 m2 m3 m4 m5 m6
    go_wp2
    go_roundg (n - (j + 1))
    case measure => omega
    case rel => exact ⟨j + 1, _, _, _, by omega, by omega, by go_num, rfl, hid (by rw [HT.out, HD.out, if_neg (by simp), List.append_nil]; exact HI5.out)⟩
   all_goals
    go_wp2_with (with_reducible refine stopAt .append rfl ?_)
    with_reducible refine goOn ?_
    refine app_one rfl _ _ 56 rfl itC infItem24 Tryz.underlying56 rfl (by decide) (by decide) itC_len itC_one y HI5.out.2.1 (by have := del24_len (l.take j) x; have h3 : (l.take j).length ≤ j := List.length_take_le ..; have := HG.out.2.2; omega) HI5.out.2.2.1 rfl rfl ?_
    intro v' W6 hO6 hk6 hg6
    obtain ⟨p6, n6, c6, rfl⟩ : ∃ p n c, v' = Value.slice p n c := by obtain ⟨p, c, h⟩ := own_slice2 hO6; exact ⟨_, _, _, h⟩
    have HI6 : Hid (DlI w W6 x (.slice p6 n6 c6) (del24 (l.take (j + 1)) x)) := hid (by
     obtain ⟨h1, h2, h3, h4⟩ := HI5.out
     rw [HT.out, HD.out, if_pos rfl]
     refine ⟨below_own4 h1 h2 (Nat.le_succ _) hk6, by simpa using hO6, Nat.le_trans h3 hk6.size, h4.kp hk6 fun hm => ?_⟩
     have := (h2.lt _ (Option.mem_toList.1 hm)).1
     omega)
    clear hO6 hk6 hg6 m0 m1 m2 m3 m4 m5 m6
    go_wp2
    go_roundg (n - (j + 1))
    case measure => omega
    case rel => exact ⟨j + 1, _, _, _, by omega, by omega, by go_num, rfl, HI6⟩
  ·have hjn : j = n := by omega
   have HJ : Hid (l.take j = l) := hid (by rw [hjn, HG.out.2.1, List.take_length])
   have hji : ¬ ((j : Int) < (n : Int)) := by omega
   clear hjn
   go_wp2
   go_ret
   obtain ⟨h1, h2, h3, h4⟩ := HI.out
   rw [HJ.out] at h2
   exact ⟨_, rfl, own_base h2 (Nat.le_succ _), h1⟩
end
end Go.Proofs.YtnnghcooidjlhaaGreat
