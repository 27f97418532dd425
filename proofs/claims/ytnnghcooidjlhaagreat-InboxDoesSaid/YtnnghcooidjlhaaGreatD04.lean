/- Parts of the proof: Oq Bc Cr Cs Ct Pg. -/
import Derived.Test.YtnnghcooidjlhaaGreatRows
import Derived.Deep.Slices
import Derived.ProofKit
import Derived.SizedLaws
import Derived.Laws.Cover2
import Derived.Carry
import Derived.Laws.CopyOwn
import Derived.Deep.QuietTactic
import Derived.BigQuiet
import Derived.Lib.AppendStr
import Derived.Deep.LoopGhost
import Derived.Test.YtnnghcooidjlhaaGreatD01
import Derived.Test.YtnnghcooidjlhaaGreatD02
import Derived.Test.YtnnghcooidjlhaaGreatD03
set_option linter.all false
set_option maxRecDepth 100000
namespace Go.Proofs.YtnnghcooidjlhaaGreat
section
open Go.ChangeShapes Go.WideShapes Go.ChangeAt Go.RowKit Go.Deep
theorem own : ownKnob Tryz.prog.godebug = none := by kernel_rfl
theorem laid : laidOutB Tryz.prog = true := by kernel_rfl
section
variable {H : Type} {enc : TypeId × Value → H} {P : Program} {w : World} {base : Nat} {spare : Nat → Bool} {held : Bool}
theorem mapM_some {α β : Type} (f : α → Option β) : ∀ (l : List α) (ys : List β), l.mapM f = some ys → ∀ a ∈ l, ∃ b, f a = some b := by
 intro l
 induction l with
 | nil => intro ys _ a ha; cases ha
 | cons x l ih =>
  intro ys h a ha
  rw [List.mapM_cons] at h
  cases hx : f x with
  | none => rw [hx] at h; cases h
  | some b =>
   cases hl : l.mapM f with
   | none => rw [hx, hl] at h; cases h
   | some bs =>
    cases ha with
    | head => exact ⟨b, hx⟩
    | tail _ ha => exact ih bs hl a ha
theorem trod_fields {t : TypeId} {fs : Array Field} {n : Nat} {cs : List Value} {x : DataW H × List MemPlace} (hu : P.underlying t = some (.struct fs)) (h : DataW.trod enc P w base spare held (n + 1) t cs = some x) :
  cs.length = P.cellsOf t ∧ ∀ f ∈ fs.toList, ∃ y, DataW.trod enc P w base spare held n f.type ((cs.drop f.offset).take (P.cellsOf f.type)) = some y := by
 simp only [DataW.trod, hu] at h
 split at h
 ·rename_i hl
  refine ⟨hl, ?_⟩
  cases hm : fs.toList.mapM fun f => DataW.trod enc P w base spare held n f.type ((cs.drop f.offset).take (P.cellsOf f.type)) with
  | none => rw [hm] at h; cases h
  | some ys => exact mapM_some _ _ ys hm
 ·cases h
theorem leaf_int {t : TypeId} {k : IntKind} {n : Nat} {c : Value} {x : DataW H × List MemPlace} (hu : P.underlying t = some (.int k)) (h : DataW.trod enc P w base spare held n t [c] = some x) : ∃ z, c = .int k z ∧ (Lit.int k z).wf = true := by
 cases n with
 | zero => cases h
 | succ n =>
  cases c <;> simp [DataW.trod, hu] at h
  rename_i k' z
  obtain ⟨⟨rfl, hw⟩, _⟩ := h
  exact ⟨z, rfl, hw⟩
theorem leaf_float {t : TypeId} {k : FloatKind} {n : Nat} {c : Value} {x : DataW H × List MemPlace} (hu : P.underlying t = some (.float k)) (h : DataW.trod enc P w base spare held n t [c] = some x) : ∃ z, c = .float k z ∧ (Lit.float k z).wf = true := by
 cases n with
 | zero => cases h
 | succ n =>
  cases c <;> simp [DataW.trod, hu] at h
  rename_i k' z
  obtain ⟨⟨rfl, hw⟩, _⟩ := h
  exact ⟨z, rfl, hw⟩
theorem wf_float {b : Nat} (h : (Lit.float .f64 b).wf = true) : b < 18446744073709551616 := by
 simpa [Lit.wf, FloatKind.has] using h
theorem wf_int {z : Int} (h : (Lit.int .i64 z).wf = true) : -9223372036854775808 ≤ z ∧ z < 9223372036854775808 := by
 have := h
 simp [Lit.wf, IntKind.has, IntKind.min, IntKind.max, IntKind.signed, IntKind.bits] at this
 omega
theorem leaf_bool {t : TypeId} {n : Nat} {c : Value} {x : DataW H × List MemPlace} (hu : P.underlying t = some .bool) (h : DataW.trod enc P w base spare held n t [c] = some x) : ∃ z, c = .bool z := by
 cases n with
 | zero => cases h
 | succ n =>
  cases c <;> simp [DataW.trod, hu] at h
  exact ⟨_, rfl⟩
end
theorem cellsEvent : Tryz.prog.cellsOf 67 = 5 := by kernel_rfl
theorem cellsStamp : Tryz.prog.cellsOf 65 = 3 := by kernel_rfl
theorem cellsInt : Tryz.prog.cellsOf 3 = 1 := by kernel_rfl
theorem cellsBool : Tryz.prog.cellsOf 4 = 1 := by kernel_rfl
theorem cellsFloat : Tryz.prog.cellsOf 63 = 1 := by kernel_rfl
section
variable {H : Type} {enc : TypeId × Value → H} {w : World} {base : Nat} {spare : Nat → Bool} {held : Bool}
theorem open_event {fuel : Nat} {cs : List Value} {x : DataW H × List MemPlace} (h : DataW.trod enc Tryz.prog w base spare held fuel 67 cs = some x) :
  ∃ e : Ev, cs = evC e ∧ e.ok := by
 cases fuel with
 | zero => cases h
 | succ n =>
  obtain ⟨hl, hf⟩ := trod_fields Tryz.underlying67 h
  rw [cellsEvent] at hl
  match cs, hl with
  | [c0, c1, c2, c3, c4], _ =>
   simp [cellsStamp, cellsInt] at hf
   obtain ⟨⟨_, _, hs⟩, ⟨_, _, h3⟩, ⟨_, _, h4⟩⟩ := hf
   obtain ⟨z3, rfl, w3⟩ := leaf_int Tryz.underlying3 h3
   obtain ⟨z4, rfl, w4⟩ := leaf_int Tryz.underlying3 h4
   cases n with
   | zero => cases hs
   | succ n =>
    obtain ⟨_, hf⟩ := trod_fields Tryz.underlying65 hs
    simp [cellsFloat, cellsInt] at hf
    obtain ⟨⟨_, _, h0⟩, ⟨_, _, h1⟩, ⟨_, _, h2⟩⟩ := hf
    obtain ⟨z0, rfl, w0⟩ := leaf_float Tryz.underlying63 h0
    obtain ⟨z1, rfl, w1⟩ := leaf_int Tryz.underlying3 h1
    obtain ⟨z2, rfl, w2⟩ := leaf_int Tryz.underlying3 h2
    exact ⟨⟨z0, z1, z2, z3, z4⟩, rfl, wf_float w0, wf_int w1, wf_int w2, wf_int w3, wf_int w4⟩
theorem trodAll_below {P : Program} {W W' : World} (hl : laidOutB P = true) (hb : Below W.heap.size W W') : ∀ {ts : List TypeId} {vs : List Value} {ds : List (DataW H)} {ps : List MemPlace},
  DataW.TrodAll enc P W 0 (fun _ => true) true ts vs ds ps → (∀ t ∈ ts, P.readableRec t = true ∧ t < P.types.size) →
  DataW.TrodAll enc P W' 0 (fun b => decide (b < W.heap.size)) true ts vs ds ps
 | [], [], [], _, h, _ => h
 | t :: ts, v :: vs, d :: ds, _, h, ht => by
  obtain ⟨p, q, h1, h2, rfl⟩ := h
  obtain ⟨a, b⟩ := ht t (by simp)
  refine ⟨p, q, Below.trod hl a b h1 hb ?_, trodAll_below hl hb h2 (fun t ht' => ht t (by simp [ht'])), rfl⟩
  obtain ⟨fuel, hf⟩ := h1
  exact DataW.trod_lt _ _ _ _ hf
 | [], [], _ :: _, _, h, _ => h.elim
 | [], _ :: _, _, _, h, _ => h.elim
 | _ :: _, [], _, _, h, _ => h.elim
 | _ :: _, _ :: _, [], _, h, _ => h.elim
end
end
section
def tbl : List Nat := [0x00000000, 0x105ec76f, 0x20bd8ede, 0x30e349b1, 0x417b1dbc, 0x5125dad3, 0x61c69362, 0x7198540d, 0x82f63b78, 0x92a8fc17, 0xa24bb5a6, 0xb21572c9, 0xc38d26c4, 0xd3d3e1ab, 0xe330a81a, 0xf36e6f75]
theorem tbl_lt (i : Nat) : tbl.getD i 0 < 2 ^ 32 := by
 rcases Nat.lt_or_ge i 16 with h | h
 ·have : ∀ i : Fin 16, tbl.getD i 0 < 2 ^ 32 := by decide
  exact this ⟨i, h⟩
 ·have : tbl.getD i 0 = 0 := by
   have h2 : tbl[i]? = none := List.getElem?_eq_none (by simpa [tbl] using h)
   simp [List.getD, h2]
  rw [this]; decide
def tk1 (r : Nat) : Nat := (r / 16) ^^^ tbl.getD (r % 16) 0
def tk (r : Nat) (c : UInt8) : Nat := tk1 (tk1 (r ^^^ c.toNat))
theorem tk1_lt {r : Nat} (h : r < 2 ^ 32) : tk1 r < 2 ^ 32 := Nat.xor_lt_two_pow (by omega) (tbl_lt _)
theorem tk_lt {r : Nat} (c : UInt8) (h : r < 2 ^ 32) : tk r c < 2 ^ 32 :=
 tk1_lt (tk1_lt (Nat.xor_lt_two_pow h (Nat.lt_of_lt_of_le c.toNat_lt (by decide))))
def crcGo (r : Nat) (s : Bs) : Nat := s.foldl tk r
theorem crcGo_lt (s : Bs) : ∀ r, r < 2 ^ 32 → crcGo r s < 2 ^ 32 := by
 induction s with
 | nil => intro r h; exact h
 | cons c s ih => intro r h; exact ih _ (tk_lt c h)
theorem crcGo_take (s : Bs) (r j : Nat) (h : j < s.length) : crcGo r (s.take (j + 1)) = tk (crcGo r (s.take j)) (s.getD j 0) := by
 have e : s.getD j 0 = s[j] := by simp [List.getD, h]
 rw [e]
 unfold crcGo
 rw [List.take_succ_eq_append_getElem h, List.foldl_append]
 rfl
def crc (s : Bs) : Nat := 4294967295 - crcGo 4294967295 s
def four (n : Nat) : Bs := [UInt8.ofNat n, UInt8.ofNat (n / 256), UInt8.ofNat (n / 65536), UInt8.ofNat (n / 16777216)]
@[simp] theorem four_length (n : Nat) : (four n).length = 4 := rfl
def crcLay (s : Bs) : Bs := four (crc s) ++ s
@[simp] theorem crcLay_length (s : Bs) : (crcLay s).length = 4 + s.length := by simp [crcLay]
@[simp] theorem crcLay_take (s : Bs) : (crcLay s).take 4 = four (crc s) := by simp [crcLay, four]
@[simp] theorem crcLay_drop (s : Bs) : (crcLay s).drop 4 = s := by simp [crcLay, four]
def pad (p : Bs) : Bs := p ++ List.replicate (232 - p.length) 0
theorem pad_length {p : Bs} (h : p.length ≤ 232) : (pad p).length = 232 := by simp [pad]; omega
theorem pad_of {p : Bs} (h : p.length = 232) : pad p = p := by simp [pad, h]
theorem pad_pad (p : Bs) (h : p.length ≤ 232) : pad (pad p) = pad p := pad_of (pad_length h)
def pageI (id ep : Int) (kd : Nat) (pl : Bs) : Bs := encI id ++ encI ep ++ be 4 kd ++ pad pl
theorem pageI_length (id ep : Int) (kd : Nat) {pl : Bs} (h : pl.length ≤ 232) : (pageI id ep kd pl).length = 252 := by simp [pageI, pad_length h]
def pageB (id ep : Int) (kd : Nat) (pl : Bs) : Bs := crcLay (pageI id ep kd pl)
theorem pageB_length (id ep : Int) (kd : Nat) {pl : Bs} (h : pl.length ≤ 232) : (pageB id ep kd pl).length = 256 := by simp [pageB, pageI_length id ep kd h]
end
section
open Go.RowKit
def tblV : Array Value := #[Value.int .u32 0, .int .u32 274646895, .int .u32 549293790, .int .u32 820201905, .int .u32 1098587580, .int .u32 1361435347, .int .u32 1640403810, .int .u32 1905808397, .int .u32 2197175160, .int .u32 2460548119, .int .u32 2722870694, .int .u32 2987750089, .int .u32 3280807620, .int .u32 3553878443, .int .u32 3811616794, .int .u32 4084100981]
theorem tblI : ∀ i, i < 16 → tblV[i]? = some (.int .u32 ((tbl.getD i 0 : Nat) : Int))
 | 0, _ | 1, _ | 2, _ | 3, _ | 4, _ | 5, _ | 6, _ | 7, _ | 8, _ | 9, _ | 10, _ | 11, _ | 12, _ | 13, _ | 14, _ | 15, _ => rfl
 | n + 16, h => absurd h (by omega)
def tkI (r : Nat) : Nat → Nat
 | 0 => r
 | k + 1 => tk1 (tkI r k)
theorem tkI_lt {r : Nat} (h : r < 4294967296) : ∀ k, tkI r k < 4294967296
 | 0 => h
 | k + 1 => tk1_lt (tkI_lt h k)
set_option maxHeartbeats 400000 in
theorem take_any (r : Nat) (c : UInt8) (w : World) (hr : r < 4294967296) :
  Calls Tryz.prog 256 #[.int .u32 r, .int .u8 (c.toNat : Int)] w fun e w' => e = .returned (.int .u32 (tk r c)) ∧ Below w.heap.size w w' := by
 have hc := c.toNat_lt
 have hl := hid (Nat.xor_lt_two_pow (n := 32) hr (by omega : c.toNat < 2 ^ 32))
 have HR := hid hr
 clear hr
 obtain ⟨x, hx⟩ : ∃ x : Nat, x = r ^^^ c.toNat := ⟨_, rfl⟩
 have hre : tk r c = tkI x 2 := by rw [hx]; rfl
 have HX := hid hx
 rw [hre]
 clear hre hx
 go_enter Tryz.func256, Tryz.ntmps256
 go_wp2
 obtain ⟨W, hW⟩ : ∃ W : World, W = w.alloc (.cells tblV 392) := ⟨_, rfl⟩
 have hB : Below w.heap.size w W := by rw [hW]; exact (Below.refl _ _).alloc (Nat.le_refl _) _
 have hT : Hid (∀ i, i < 16 → W.cell? ⟨w.heap.size, i, none⟩ = some (.int .u32 ((tbl.getD i 0 : Nat) : Int))) := by
  rw [hW]
  exact hid fun i hi => by rw [cell_of_row _ _ i _ _ (0, 0) (heap_alloc_new w _)]; exact tblI i hi
 rw [← HX.out] at hl
 have e0 : bits .xor .u32 (r : Int) (c.toNat : Int) = ((x : Nat) : Int) := by rw [HX.out, u32_xor_nat _ _ HR.out (by omega)]
 unfold tblV at hW
 rw [← hW, e0]
 clear e0 hW hc HR HX
 go_loop [0, 11] (fun v i => ∃ k : Nat, k ≤ 2 ∧ i = .int .i64 k ∧ v = .int .u32 (tkI x k)) (fun _ i => 2 - (intOf i).toNat)
 case atStart => exact ⟨0, by omega, rfl, rfl⟩
 case round =>
  obtain ⟨k, hk, rfl, rfl⟩ := hrel
  have hy := tkI_lt hl.out k
  have hs := hid (show tkI x (k + 1) = tk1 (tkI x k) from rfl)
  obtain ⟨y, hyx⟩ : ∃ y, tkI x k = y := ⟨_, rfl⟩
  rw [hyx] at hy hs
  have HY := hid hyx
  rw [hyx]
  clear hyx
  have hand : bits .and .u32 (y : Int) 15 = ((y % 16 : Nat) : Int) := by
   rw [show (15 : Int) = ((15 : Nat) : Int) from rfl, u32_and_nat _ _ hy (by omega), nat_mask4]
  have hc := hT.out (y % 16) (by omega)
  have hm : y % 16 < 16 := by omega
  by_cases hlt : k < 2
  ·go_wp2
   go_round
   case rel =>
    refine ⟨k + 1, by omega, by go_num, ?_⟩
    rw [hs.out]
    have ht := tbl_lt (y % 16)
    have e : ((y : Int) / 16) = ((y / 16 : Nat) : Int) := by omega
    have e2 : tbl[y % 16]?.getD 0 = tbl.getD (y % 16) 0 := by simp [List.getD]
    rw [e, e2, u32_xor_nat _ _ (by omega) (by omega)]
    rfl
   case measure => simp [intOf]; omega
  ·have hke : k = 2 := by omega
   subst hke
   go_wp2
   go_ret
   exact ⟨by rw [HY.out]; rfl, hB⟩
end
section
open Go.RowKit
theorem not32 (r : Nat) (hr : r < 4294967296) : bits .xor .u32 IntKind.u32.max (r : Int) = ((4294967295 - r : Nat) : Int) := by
 have h : IntKind.u32.max = ((4294967295 : Nat) : Int) := rfl
 rw [h, u32_xor_nat _ _ (by omega) hr]
 congr 1
 have h1 : (4294967295 : Nat) = 2 ^ 32 - 1 := rfl
 have h2 : 4294967295 - r = 2 ^ 32 - (r + 1) := by omega
 rw [h2, h1]
 refine Nat.eq_of_testBit_eq fun i => ?_
 rw [Nat.testBit_xor, Nat.testBit_two_pow_sub_one, Nat.testBit_two_pow_sub_succ hr]
 by_cases hi : i < 32
 ·simp [hi]
 ·have : r.testBit i = false := Nat.testBit_lt_two_pow (Nat.lt_of_lt_of_le hr (Nat.pow_le_pow_right (by omega) (by omega) : 2 ^ 32 ≤ 2 ^ i))
  simp [hi, this]
theorem more_any (r : Nat) (s : Bs) (w : World) (hr : r < 4294967296) (hs : s.length ≤ 1000000) :
  Calls Tryz.prog 237 #[.int .u32 r, .string (S s)] w fun e w' => e = .returned (.int .u32 ((4294967295 - crcGo (4294967295 - r) s : Nat) : Int)) ∧ Below w.heap.size w w' := by
 have hn := not32 r hr
 obtain ⟨q, hq⟩ : ∃ q, q = 4294967295 - r := ⟨_, rfl⟩
 rw [← hq] at hn ⊢
 have hql := hid (show q < 4294967296 by omega)
 clear hq hr
 go_enter Tryz.func237, Tryz.ntmps237
 go_wp2
 go_loopw [5, 11] (fun v i wr => ∃ k : Nat, k ≤ s.length ∧ i = .int .i64 k ∧ v = .int .u32 (crcGo q (s.take k)) ∧ Below w.heap.size w wr) (fun _ i _ => s.length - (intOf i).toNat)
 case atStart => exact ⟨0, by omega, rfl, rfl, Below.refl _ _⟩
 case round =>
  obtain ⟨k, hk, rfl, rfl, hb⟩ := hrel
  have hy := hid (crcGo_lt (s.take k) q hql.out)
  by_cases hlt : k < s.length
  ·have hst := hid (crcGo_take s q k hlt)
   obtain ⟨y, hyx⟩ : ∃ y, crcGo q (s.take k) = y := ⟨_, rfl⟩
   rw [hyx] at hy hst ⊢
   have hsz := hb.size
   have hc := hid (fun W => take_any y (s.getD k 0) W hy.out)
   have e : s.getD k 0 = s[k] := by simp [List.getD, hlt]
   rw [e] at hc hst
   clear e hyx
   go_wp2_with (go_at_call 256; refine (hc.out _).mono ?_; rintro e w1 ⟨rfl, hb1⟩)
   go_roundw
   case rel => exact ⟨k + 1, by omega, by go_num, by rw [hst.out], hb.trans (hb1.mono hsz)⟩
   case measure => simp [intOf]; omega
  ·have hke : k = s.length := by omega
   subst hke
   have ht : s.take s.length = s := by simp
   rw [ht] at hy ⊢
   have hn2 := not32 _ hy.out
   clear ht
   go_wp2
   go_ret
   exact ⟨rfl, hb⟩
theorem sum_any (s : Bs) (w : World) (hs : s.length ≤ 1000000) :
  Calls Tryz.prog 212 #[.string (S s)] w fun e w' => e = .returned (.int .u32 (crc s)) ∧ Below w.heap.size w w' := by
 have hm := hid (more_any 0 s w (by omega) hs)
 go_enter Tryz.func212, Tryz.ntmps212
 go_wp2_with (go_at_call 237; refine hm.out.mono ?_; rintro e w1 ⟨rfl, hb1⟩)
 go_ret
 exact ⟨rfl, by assumption⟩
def fourC (n : Nat) : Nat → Array Value
 | 0 => #[.int .u8 0, .int .u8 0, .int .u8 0, .int .u8 0]
 | 1 => #[.int .u8 ((n : Int) % 256), .int .u8 0, .int .u8 0, .int .u8 0]
 | 2 => #[.int .u8 ((n : Int) % 256), .int .u8 ((n : Int) / 256 % 256), .int .u8 0, .int .u8 0]
 | 3 => #[.int .u8 ((n : Int) % 256), .int .u8 ((n : Int) / 256 % 256), .int .u8 ((n : Int) / 65536 % 256), .int .u8 0]
 | _ => #[.int .u8 ((n : Int) % 256), .int .u8 ((n : Int) / 256 % 256), .int .u8 ((n : Int) / 65536 % 256), .int .u8 ((n : Int) / 16777216 % 256)]
theorem fourC_4 (n : Nat) : fourC n 4 = (cB (four n)).toArray := by
 simp [fourC, cB, four]
set_option maxHeartbeats 400000 in
theorem four_any (n : Nat) (w : World) :
  Calls Tryz.prog 211 #[.int .u32 n] w fun e w' => e = .returned (.agg (cB (four n)).toArray) ∧ Below w.heap.size w w' := by
 go_enter Tryz.func211, Tryz.ntmps211
 go_wp2
 go_loopw [5] (fun i wr => ∃ k : Nat, k ≤ 4 ∧ i = .int .i64 k ∧ wr = (w.alloc (.cells (fourC n 0) 346)).alloc (.cells (fourC n k) 346)) (fun i _ => 4 - (intOf i).toNat)
 case atStart => exact ⟨0, by omega, rfl, rfl⟩
 case round =>
  obtain ⟨k, hk, rfl, rfl⟩ := hrel
  rcases (show k = 0 ∨ k = 1 ∨ k = 2 ∨ k = 3 ∨ k = 4 by omega) with rfl | rfl | rfl | rfl | rfl
  ·simp only [fourC]
   go_wp2
   go_roundw
   case rel => exact ⟨1, by omega, rfl, by simp [fourC]⟩
   case measure => simp [intOf]
  ·simp only [fourC]
   go_wp2
   go_roundw
   case rel => exact ⟨2, by omega, rfl, by simp [fourC]⟩
   case measure => simp [intOf]
  ·simp only [fourC]
   go_wp2
   go_roundw
   case rel => exact ⟨3, by omega, rfl, by simp [fourC]⟩
   case measure => simp [intOf]
  ·simp only [fourC]
   go_wp2
   go_roundw
   case rel => exact ⟨4, by omega, rfl, by simp [fourC]⟩
   case measure => simp [intOf]
  ·simp only [fourC]
   go_wp2
   refine bodyPost_ret (v := .agg (fourC n 4)) (by simp [results, Tryz.results211, go_sem, fourC]) rfl ⟨by rw [fourC_4], ?_⟩
   exact ((Below.refl _ _).alloc (Nat.le_refl _) _).alloc (by simp) _
end
section
open Go.RowKit
theorem four_any' (n : Nat) (w : World) : Calls Tryz.prog 211 #[.int .u32 n] w fun e w' =>
  ∃ a b c d : UInt8, four n = [a, b, c, d] ∧ e = .returned (.agg #[.int .u8 (a.toNat : Int), .int .u8 (b.toNat : Int), .int .u8 (c.toNat : Int), .int .u8 (d.toNat : Int)]) ∧ Below w.heap.size w w' :=
 (four_any n w).mono fun _ _ ⟨he, hb⟩ => ⟨_, _, _, _, rfl, he, hb⟩
theorem crc_l5 (n : Nat) (f : Bs) (h : f.length = 4) : (setAt (List.replicate (4 + n) (0 : UInt8)) 0 f).length = 4 + n := by
 rw [setAt_length] <;> simp [h]
theorem crc_l6 (s f : Bs) (h : f.length = 4) : (setAt (setAt (List.replicate (4 + s.length) (0 : UInt8)) 0 f) 4 s).length = 4 + s.length := by
 rw [setAt_length, crc_l5 _ _ h]; rw [crc_l5 _ _ h]; omega
theorem crc_fin (s f : Bs) (h : four (crc s) = f) : setAt (setAt (List.replicate (4 + s.length) (0 : UInt8)) 0 f) 4 s = crcLay s := by
 have hl : f.length = 4 := by rw [← h]; rfl
 unfold crcLay
 rw [h]
 have e : setAt (List.replicate (4 + s.length) (0 : UInt8)) 0 f = f ++ List.replicate s.length 0 := by
  simp [setAt, hl]
 rw [e]
 unfold setAt
 rw [List.take_append_of_le_length (by omega), List.take_of_length_le (by omega), List.drop_of_length_le (by simp; omega), List.append_nil]
set_option maxHeartbeats 400000 in
theorem crcLay_any (s : Bs) (w : World) (hs : s.length ≤ 500000) (h0 : 0 < s.length) :
  Calls Tryz.prog 180 #[.string (S s)] w fun e w' => e = .returned (.string (S (crcLay s))) ∧ Below w.heap.size w w' := by
 have hsum := hid (fun W => sum_any s W (by omega))
 have hne : ¬ s = [] := by rintro rfl; simp at h0
 go_enter Tryz.func180, Tryz.ntmps180
 go_wp2_with (refine wpL_make rfl _ _ rfl (4 + s.length) rfl rfl (by omega) ?_; intro W1 hB1 hb1)
 refine (hsum.out _).mono ?_; rintro e W2 ⟨rfl, hb2⟩
 go_wp2_with fail
 refine (four_any' _ _).mono ?_; rintro e W3 ⟨a, b, c, d, hf, rfl, hb3⟩
 have HF := hid hf
 clear hf
 have hl1 := hB1.lt
 have hl2 := hb2.size
 have hl3 := hb3.size
 have hB3 := (hB1.below hb2 hl1).below hb3 (by omega)
 have hb13 := hb1.trans ((hb2.mono (by omega)).trans (hb3.mono (by omega)))
 clear hB1 hb1 hb2 hb3
 have hF4 := fun cs => Blk.new W3 346 cs
 have HB3 := hid hB3
 have HF4 := hid hF4
 have HBB := hid hb13
 clear hB3 hF4 hb13
 have HL5 := hid (crc_l5 s.length [a, b, c, d] rfl)
 have HL6 := hid (crc_l6 s [a, b, c, d] rfl)
 have HFIN := hid (crc_fin s [a, b, c, d] HF.out)
 have HLE : Hid (0 + (4 + s.length) ≤ (setAt (setAt (List.replicate (4 + s.length) (0 : UInt8)) 0 [a, b, c, d]) 4 s).length) := hid (by rw [HL6.out]; omega)
 go_wp2_with (with_reducible refine stopAt .copy rfl ?_)
 with_reducible refine goOn ?_
 refine wpL_copyB rfl _ _ _ _ rfl Tryz.underlying129 w.heap.size 0 _ _ ⟨W3.heap.size, 0, none⟩ 4 _ [a, b, c, d] (List.replicate (4 + s.length) 0) rfl rfl rfl (blk_src (HF4.out _)) (HB3.out.alloc _) (by simp) (by simp) ?_
 intro W5 hB5 hk5
 go_wp2_with (with_reducible refine stopAt .copy rfl ?_)
 with_reducible refine goOn ?_
 refine wpL_copyS rfl _ _ _ rfl Tryz.underlying129 w.heap.size 4 _ _ s (setAt (List.replicate (4 + s.length) 0) 0 [a, b, c, d]) rfl rfl hB5 (Nat.le_refl _) (Nat.le_of_eq HL5.out.symm) ?_
 intro W6 hB6 hk6
 have hstr := blk_string (i := 0) (n := 4 + s.length) (c := 4 + s.length) hB6 HLE.out
 go_wp2
 go_ret
 have hle5 : w.heap.size ≤ (W3.alloc (.cells #[.int .u8 (a.toNat : Int), .int .u8 (b.toNat : Int), .int .u8 (c.toNat : Int), .int .u8 (d.toNat : Int)] 346)).heap.size := by simp; omega
 refine ⟨?_, ((HBB.out.alloc (by omega) _).trans (hk5.to_below hle5 (by simp))).trans (hk6.to_below (Nat.le_trans hle5 hk5.size) (by simp))⟩
 rw [HFIN.out]
 show Ending.returned (.string (S (((crcLay s).drop 0).take (4 + s.length)))) = _
 rw [List.drop_zero, List.take_of_length_le (by simp)]
set_option maxHeartbeats 400000 in
theorem crcCut_any (s : Bs) (w : World) (hs : s.length ≤ 500000) (h0 : 0 < s.length) :
  Calls Tryz.prog 293 #[.string (S (crcLay s))] w fun e w' => e = .returned (.tuple #[.string (S s), .int .i64 0]) ∧ Below w.heap.size w w' := by
 have hsum := hid (fun W => sum_any s W (by omega))
 have hne : ¬ s = [] := by rintro rfl; simp at h0
 go_enter Tryz.func293, Tryz.ntmps293
 go_wp2_with fail
 refine (hsum.out _).mono ?_; rintro e W2 ⟨rfl, hb2⟩
 go_wp2_with fail
 refine (four_any' _ _).mono ?_; rintro e W3 ⟨a, b, c, d, hf, rfl, hb3⟩
 have HF := hid hf
 clear hf
 have hl2 := hb2.size
 have hl3 := hb3.size
 have HBB := hid (hb2.trans (hb3.mono hl2))
 clear hb2 hb3
 go_wp2_with fail
 have hF4 := Blk.new W3 346 #[.int .u8 (a.toNat : Int), .int .u8 (b.toNat : Int), .int .u8 (c.toNat : Int), .int .u8 (d.toNat : Int)]
 have hb4 := hid (HBB.out.alloc (by omega) (.cells #[.int .u8 (a.toNat : Int), .int .u8 (b.toNat : Int), .int .u8 (c.toNat : Int), .int .u8 (d.toNat : Int)] 346))
 generalize W3.alloc (.cells #[.int .u8 (a.toNat : Int), .int .u8 (b.toNat : Int), .int .u8 (c.toNat : Int), .int .u8 (d.toNat : Int)] 346) = W4 at *
 have hcv : ∀ n, (convert 129 9 (.slice (some ⟨W3.heap.size, 0, none⟩) 4 4)).run Tryz.prog (W4.drewN n) = .ok (.string (S [a, b, c, d])) (W4.drewN n) := fun n =>
  cells_string (W := W4.drewN n) [a, b, c, d] (blk_src (hF4.drewN n)) rfl
 clear hF4
 have htk : (crcLay s).take 4 = [a, b, c, d] := by rw [crcLay_take, HF.out]
 go_quiet (fail)
 go_wp2
 go_ret2
 exact ⟨rfl, below_drewN hb4.out _⟩
end
section
open Go.RowKit Go.Lib
theorem strCells_S (s : Bs) : strCells (S s) = cB s := by simp [strCells, S, cB]
theorem own_slice {w : World} {B : Nat} {T : TypeId} {s n : Nat} {v : Value} {xs : List Value} (h : w.ownsRow B T s v n xs) : ∃ p m c, v = .slice p m c := by
 rcases h.2 with ⟨h, _⟩ | ⟨g, cap, cur, h, _⟩ <;> exact ⟨_, _, _, h⟩
theorem own_slice2 {w : World} {B : Nat} {T : TypeId} {s n : Nat} {v : Value} {xs : List Value} (h : w.ownsRow B T s v n xs) : ∃ p c, v = .slice p n c := by
 rcases h.2 with ⟨h, h0⟩ | ⟨g, cap, cur, h, _⟩
 ·exact ⟨none, 0, by rw [h, h0]⟩
 ·exact ⟨_, _, h⟩
theorem own_ne {w : World} {g : Nat} {T : TypeId} {s n : Nat} {v : Value} {xs : List Value} (h : w.ownsRow (g + 1) T s v n xs) : some g ≠ v.ownBlock := fun e => by
 have := (h.lt g e.symm).1; omega
def VarB (w : World) (gb : Nat) (b : Bs) : Prop := ∃ v, Blk w gb 129 #[v] ∧ w.ownsRow (gb + 1) 5 1 v b.length (cB b)
theorem pagePut1 (w : World) (gb : Nat) (b s : Bs) (h : VarB w gb b) (hl : b.length + s.length ≤ 1000000) :
  Calls Tryz.prog 289 #[.string (S s), .pointer (some ⟨gb, 0, none⟩)] w fun e w' => e = .returned (.tuple #[]) ∧ VarB w' gb (b ++ s) ∧ Below gb w w' := by
 obtain ⟨i0, hi, hz0, hz1, hz2⟩ := info_parts inf5
 obtain ⟨v, hb, hown⟩ := h
 have hc : w.cell? ⟨gb, 0, none⟩ = some v := by rw [hb.cell]; rfl
 have hlt := hb.lt
 go_enter Tryz.func289, Tryz.ntmps289
 go_wp2_with (with_reducible refine stopAt .append rfl ?_)
 with_reducible refine goOn ?_
 refine wpList_append_own_string _ rfl _ _ 129 9 rfl (gb + 1) 5 i0 Tryz.underlying129 Tryz.underlying9 hi hz0 hz1 hz2 v b.length _ rfl hown (S s) rfl (by rw [S_size]; unfold maxLen; omega) (by rw [S_size]; omega) (by omega) ?_
 intro v' w1 hown1 hgr _
 rw [S_size, strCells_S] at hown1
 obtain ⟨p, n, c, rfl⟩ := own_slice hown1
 have hb1 := hb.grown hgr (own_ne hown)
 have hc1 : w1.cell? ⟨gb, 0, none⟩ = some v := by rw [hb1.cell]; rfl
 have hf1 := hb1.frozen 0
 have HO := hid hown1
 clear hc hown1
 go_wp2
 go_end0
 refine ⟨rfl, ⟨_, by have := hb1.set_ 0 (.slice p n c); simpa using this, ?_⟩, ?_⟩
 ·have := ownsRow_setCell_below HO.out (a := ⟨gb, 0, none⟩) (by simp) (.slice p n c)
  exact own_eq this (by simp) (by simp)
 ·exact ((Below.refl _ _).grown hgr (by omega) (fun k hk => by have := (hown.lt k hk).1; omega)).setCell (by simp) _
theorem page_right (id ep kd : Int) (pl : Bs) (w : World) (h0 : 0 ≤ id) (h1 : 0 ≤ ep) (h2 : ep ≤ 1099511627776) (h3 : 0 ≤ kd) (h4 : kd ≤ 2147483647) :
  Calls Tryz.prog 288 #[.agg #[.int .i64 id, .int .i64 ep, .int .i64 kd, .string (S pl)]] w fun e w' => e = .returned (.bool true) ∧ Below w.heap.size w w' := by
 go_enter Tryz.func288, Tryz.ntmps288
 go_wp2
 go_ret
 exact ⟨rfl, (Below.refl _ _).alloc (Nat.le_refl _) _⟩
theorem pageI_app (id ep : Int) (kd : Nat) (pl : Bs) : [] ++ encI id ++ encI ep ++ be 4 kd ++ pl ++ List.replicate (232 - pl.length) 0 = pageI id ep kd pl := by simp [pageI, pad]
theorem VarB.below {w w' : World} {gb : Nat} {b : Bs} (h : VarB w gb b) (hb : Below w.heap.size w w') : VarB w' gb b := by
 obtain ⟨v, h1, h2⟩ := h
 refine ⟨v, h1.below hb h1.lt, h2.1, ?_⟩
 rcases h2.2 with h3 | ⟨g, cap, cur, e1, e2, e3, e4⟩
 ·exact .inl h3
 ·exact .inr ⟨g, cap, cur, e1, e2, (hb.block g (lt_of_block e3)).trans e3, e4⟩
structure PPI (w W : World) (gb : Nat) (cs : Array Value) (b : Bs) : Prop where
 cells : Blk W w.heap.size 396 cs
 var : VarB W gb b
 lt : w.heap.size < gb
 below : Below w.heap.size w W
theorem PPI.next {w W W' : World} {gb : Nat} {cs : Array Value} {b : Bs} (h : PPI w W gb cs b) (hb : Below W.heap.size W W') : PPI w W' gb cs b :=
 ⟨h.cells.below hb h.cells.lt, h.var.below hb, h.lt, h.below.trans (hb.mono h.below.size)⟩
theorem PPI.put {w W W' : World} {gb : Nat} {cs : Array Value} {b b' : Bs} (h : PPI w W gb cs b) (hv : VarB W' gb b') (hb : Below gb W W') : PPI w W' gb cs b' :=
 ⟨h.cells.below hb h.lt, hv, h.lt, h.below.trans (hb.mono (Nat.le_of_lt h.lt))⟩
set_option maxHeartbeats 1000000 in
theorem page_put (id ep : Int) (kd : Nat) (pl : Bs) (w : World) (h0 : 0 ≤ id) (hi : id ≤ 1000000) (h1 : 0 ≤ ep) (h2 : ep ≤ 1099511627776) (h4 : kd ≤ 2147483647) (hp : pl.length ≤ 232) :
  Calls Tryz.prog 281 #[.agg #[.int .i64 id, .int .i64 ep, .int .i64 kd, .string (S pl)]] w fun e w' => e = .returned (.tuple #[.string (S (pageB id ep kd pl)), .int .i64 0]) ∧ Below w.heap.size w w' := by
 have HR := hid (fun W => page_right id ep kd pl W h0 h1 h2 (by omega) (by omega))
 have HI1 := hid (fun W => packI_any id W (by omega) (by omega))
 have HI2 := hid (fun W => packI_any ep W (by omega) (by omega))
 have HU := hid (fun W => packU_any kd W (by omega))
 go_enter Tryz.func281, Tryz.ntmps281
 have hB0 := hid (Blk.new w 396 #[.int .i64 id, .int .i64 ep, .int .i64 kd, .string (S pl)])
 have hb0 := hid ((Below.refl w.heap.size w).alloc (Nat.le_refl _) (.cells #[.int .i64 id, .int .i64 ep, .int .i64 kd, .string (S pl)] 396))
 go_wp2_with fail
 refine (HR.out _).mono ?_; rintro e W1 ⟨rfl, hb1⟩
 have hB1 := hid (hB0.out.below hb1 (by simp))
 have hs1 : w.heap.size < W1.heap.size := by have := hb1.size; simp at this; omega
 have hb1' := hid (hb0.out.trans (hb1.mono (by simp)))
 clear hb1 hB0 hb0
 have c3 : W1.cell? ⟨w.heap.size, 3, none⟩ = some (.string (S pl)) := by rw [hB1.out.cell]; rfl
 have c0 : W1.cell? ⟨w.heap.size, 0, none⟩ = some (.int .i64 id) := by rw [hB1.out.cell]; rfl
 have c1 : W1.cell? ⟨w.heap.size, 1, none⟩ = some (.int .i64 ep) := by rw [hB1.out.cell]; rfl
 have c2 : W1.cell? ⟨w.heap.size, 2, none⟩ = some (.int .i64 kd) := by rw [hB1.out.cell]; rfl
 go_wp2_with fail
 obtain ⟨V1, hV1⟩ : ∃ V, V = W1.alloc (.cells #[.slice none 0 0] 129) := ⟨_, rfl⟩
 obtain ⟨gb, hgb⟩ : ∃ g, g = W1.heap.size := ⟨_, rfl⟩
 have hP1 : Hid (PPI w V1 gb #[.int .i64 id, .int .i64 ep, .int .i64 kd, .string (S pl)] []) := by
  rw [hV1, hgb]
  exact hid ⟨hB1.out.alloc _, ⟨_, Blk.new _ _ _, World.ownsRow_nil _ _ _ _⟩, hs1, hb1'.out.alloc (by omega) _⟩
 rw [← hV1, ← hgb]
 clear hV1 hgb c0 c1 c2 c3 hs1 hB1 hb1'
 have c0 : V1.cell? ⟨w.heap.size, 0, none⟩ = some (.int .i64 id) := by rw [hP1.out.cells.cell]; rfl
 have c1 : V1.cell? ⟨w.heap.size, 1, none⟩ = some (.int .i64 ep) := by rw [hP1.out.cells.cell]; rfl
 have c2 : V1.cell? ⟨w.heap.size, 2, none⟩ = some (.int .i64 kd) := by rw [hP1.out.cells.cell]; rfl
 have c3 : V1.cell? ⟨w.heap.size, 3, none⟩ = some (.string (S pl)) := by rw [hP1.out.cells.cell]; rfl
 refine (HI1.out _).mono ?_; rintro e V2 ⟨rfl, hx⟩
 have hP2 := hid (hP1.out.next hx)
 clear hx
 clear c0 c1 c2 c3
 have c0 : V2.cell? ⟨w.heap.size, 0, none⟩ = some (.int .i64 id) := by rw [hP2.out.cells.cell]; rfl
 have c1 : V2.cell? ⟨w.heap.size, 1, none⟩ = some (.int .i64 ep) := by rw [hP2.out.cells.cell]; rfl
 have c2 : V2.cell? ⟨w.heap.size, 2, none⟩ = some (.int .i64 kd) := by rw [hP2.out.cells.cell]; rfl
 have c3 : V2.cell? ⟨w.heap.size, 3, none⟩ = some (.string (S pl)) := by rw [hP2.out.cells.cell]; rfl
 go_wp2_with fail
 refine (pagePut1 _ gb ([]) (encI id) hP2.out.var (by simp; try omega)).mono ?_; rintro e V3 ⟨rfl, hv, hx⟩
 have hP3 := hid (hP2.out.put hv hx)
 clear hv hx c0 c1 c2 c3
 have c0 : V3.cell? ⟨w.heap.size, 0, none⟩ = some (.int .i64 id) := by rw [hP3.out.cells.cell]; rfl
 have c1 : V3.cell? ⟨w.heap.size, 1, none⟩ = some (.int .i64 ep) := by rw [hP3.out.cells.cell]; rfl
 have c2 : V3.cell? ⟨w.heap.size, 2, none⟩ = some (.int .i64 kd) := by rw [hP3.out.cells.cell]; rfl
 have c3 : V3.cell? ⟨w.heap.size, 3, none⟩ = some (.string (S pl)) := by rw [hP3.out.cells.cell]; rfl
 go_wp2_with fail
 refine (HI2.out _).mono ?_; rintro e V4 ⟨rfl, hx⟩
 have hP4 := hid (hP3.out.next hx)
 clear hx
 clear c0 c1 c2 c3
 have c0 : V4.cell? ⟨w.heap.size, 0, none⟩ = some (.int .i64 id) := by rw [hP4.out.cells.cell]; rfl
 have c1 : V4.cell? ⟨w.heap.size, 1, none⟩ = some (.int .i64 ep) := by rw [hP4.out.cells.cell]; rfl
 have c2 : V4.cell? ⟨w.heap.size, 2, none⟩ = some (.int .i64 kd) := by rw [hP4.out.cells.cell]; rfl
 have c3 : V4.cell? ⟨w.heap.size, 3, none⟩ = some (.string (S pl)) := by rw [hP4.out.cells.cell]; rfl
 go_wp2_with fail
 refine (pagePut1 _ gb ([] ++ encI id) (encI ep) hP4.out.var (by simp; try omega)).mono ?_; rintro e V5 ⟨rfl, hv, hx⟩
 have hP5 := hid (hP4.out.put hv hx)
 clear hv hx c0 c1 c2 c3
 have c0 : V5.cell? ⟨w.heap.size, 0, none⟩ = some (.int .i64 id) := by rw [hP5.out.cells.cell]; rfl
 have c1 : V5.cell? ⟨w.heap.size, 1, none⟩ = some (.int .i64 ep) := by rw [hP5.out.cells.cell]; rfl
 have c2 : V5.cell? ⟨w.heap.size, 2, none⟩ = some (.int .i64 kd) := by rw [hP5.out.cells.cell]; rfl
 have c3 : V5.cell? ⟨w.heap.size, 3, none⟩ = some (.string (S pl)) := by rw [hP5.out.cells.cell]; rfl
 go_wp2_with fail
 refine (HU.out _).mono ?_; rintro e V6 ⟨rfl, hx⟩
 have hP6 := hid (hP5.out.next hx)
 clear hx
 clear c0 c1 c2 c3
 have c0 : V6.cell? ⟨w.heap.size, 0, none⟩ = some (.int .i64 id) := by rw [hP6.out.cells.cell]; rfl
 have c1 : V6.cell? ⟨w.heap.size, 1, none⟩ = some (.int .i64 ep) := by rw [hP6.out.cells.cell]; rfl
 have c2 : V6.cell? ⟨w.heap.size, 2, none⟩ = some (.int .i64 kd) := by rw [hP6.out.cells.cell]; rfl
 have c3 : V6.cell? ⟨w.heap.size, 3, none⟩ = some (.string (S pl)) := by rw [hP6.out.cells.cell]; rfl
 go_wp2_with fail
 refine (pagePut1 _ gb ([] ++ encI id ++ encI ep) (be 4 kd) hP6.out.var (by simp; try omega)).mono ?_; rintro e V7 ⟨rfl, hv, hx⟩
 have hP7 := hid (hP6.out.put hv hx)
 clear hv hx c0 c1 c2 c3
 have c0 : V7.cell? ⟨w.heap.size, 0, none⟩ = some (.int .i64 id) := by rw [hP7.out.cells.cell]; rfl
 have c1 : V7.cell? ⟨w.heap.size, 1, none⟩ = some (.int .i64 ep) := by rw [hP7.out.cells.cell]; rfl
 have c2 : V7.cell? ⟨w.heap.size, 2, none⟩ = some (.int .i64 kd) := by rw [hP7.out.cells.cell]; rfl
 have c3 : V7.cell? ⟨w.heap.size, 3, none⟩ = some (.string (S pl)) := by rw [hP7.out.cells.cell]; rfl
 go_wp2_with fail
 refine (pagePut1 _ gb ([] ++ encI id ++ encI ep ++ be 4 kd) (pl) hP7.out.var (by simp; try omega)).mono ?_; rintro e V8 ⟨rfl, hv, hx⟩
 have hP8 := hid (hP7.out.put hv hx)
 clear hv hx c0 c1 c2 c3
 have c0 : V8.cell? ⟨w.heap.size, 0, none⟩ = some (.int .i64 id) := by rw [hP8.out.cells.cell]; rfl
 have c1 : V8.cell? ⟨w.heap.size, 1, none⟩ = some (.int .i64 ep) := by rw [hP8.out.cells.cell]; rfl
 have c2 : V8.cell? ⟨w.heap.size, 2, none⟩ = some (.int .i64 kd) := by rw [hP8.out.cells.cell]; rfl
 have c3 : V8.cell? ⟨w.heap.size, 3, none⟩ = some (.string (S pl)) := by rw [hP8.out.cells.cell]; rfl
 go_wp2_with fail
 have hL : ([] ++ encI id ++ encI ep ++ be 4 kd ++ pl).length = 20 + pl.length := by simp; omega
 have HF := hid (pageI_app id ep kd pl)
 generalize [] ++ encI id ++ encI ep ++ be 4 kd ++ pl = hdr at *
 have HL := hid hL
 clear hL
 clear c0 c1 c2 c3
 obtain ⟨m, hm⟩ : ∃ m, m = 232 - pl.length := ⟨_, rfl⟩
 rw [← hm] at HF
 have HM := hid hm
 clear hm
 go_loopg [] (m) (fun n wr => n ≤ m ∧ PPI w wr gb #[.int .i64 id, .int .i64 ep, .int .i64 kd, .string (S pl)] (hdr ++ List.replicate (m - n) 0))
 case atStart => exact ⟨Nat.le_refl _, by simpa using hP8.out⟩
 case round =>
  obtain ⟨hn, hP⟩ := hrel
  obtain ⟨v, hv, hown⟩ := hP.var
  obtain ⟨p, c, rfl⟩ := own_slice2 hown
  have hlen : (hdr ++ List.replicate (m - gk) (0 : UInt8)).length = 252 - gk := by have := HL.out; have := HM.out; simp; omega
  have HP := hid hP
  have hg0 : wr.cell? ⟨gb, 0, none⟩ = some (.slice p (252 - gk) c) := by rw [hv.cell, ← hlen]; rfl
  rw [hlen] at hv
  have hf0 := hv.frozen 0
  have HV := hid hv
  have HO := hid hown
  have HLEN := hid hlen
  have hgl : gk ≤ 252 := by have := HM.out; omega
  clear hP hv hown hlen
  by_cases hz : gk = 0
  ·subst hz
   have PL : Hid ((pageI id ep kd pl).length ≤ 500000 ∧ 0 < (pageI id ep kd pl).length) := hid (by rw [pageI_length _ _ _ hp]; omega)
   have hcv := own_string HO.out
   rw [HLEN.out] at hcv
   have hfin : hdr ++ List.replicate (m - 0) 0 = pageI id ep kd pl := HF.out
   rw [hfin] at hcv
   go_wp2_with (go_at_call 180; refine (crcLay_any (pageI id ep kd pl) _ (PL.out.1) (PL.out.2)).mono ?_; rintro e W9 ⟨rfl, hb9⟩)
   go_ret2
   exact ⟨rfl, HP.out.below.trans (hb9.mono HP.out.below.size)⟩
  ·obtain ⟨i0, hi, hz0, hz1, hz2⟩ := info_parts inf5
   have HLT := hid HV.out.lt
   go_wp2_with (with_reducible refine stopAt .append rfl ?_)
   with_reducible refine goOn ?_
   have hown1 := HO.out.alloc (.cells #[.int .u8 0] 5)
   rw [HLEN.out] at hown1
   refine wpList_append_own _ rfl _ _ 129 rfl (gb + 1) 5 i0 (.int .u8 0) 1 1 Tryz.underlying129 hi hz0 hz1 hz2 rfl (by decide) _ _ _ rfl hown1 ⟨wr.heap.size, 0, none⟩ 1 1 [.int .u8 0] rfl rfl (news1 _ _ _ rfl) (one1 rfl) (by unfold maxLen; omega) (by omega) (by have := HLT.out; simp; omega) ?_
   intro v' W2 hown2 hgr _
   obtain ⟨p', n', c', rfl⟩ := own_slice hown2
   have hb2 := (HV.out.alloc (.cells #[.int .u8 0] 5)).grown hgr (own_ne hown1)
   have hcg : W2.cell? ⟨gb, 0, none⟩ = some (.slice p (252 - gk) c) := by rw [hb2.cell]; rfl
   have hfg := hb2.frozen 0
   have HB2 := hid hb2
   have HO2 := hid hown2
   have HGR := hid hgr
   have HO1 := hid hown1
   clear hb2 hown2 hgr hown1 hg0 hf0
   go_wp2
   go_roundg (gk - 1)
   case measure => omega
   case rel =>
    have hbel : Below (gb + 1) wr W2 := ((Below.refl _ _).alloc (by have := HLT.out; omega) _).grown HGR.out (by have := HLT.out; simp; omega) (fun k hk => (HO1.out.lt k hk).1)
    refine ⟨by omega, HP.out.put ⟨_, by have := HB2.out.set_ 0 (.slice p' n' c'); simpa using this, ?_⟩ ((hbel.mono (by omega)).setCell (by simp) _)⟩
    have hd := ownsRow_setCell_below HO2.out (a := ⟨gb, 0, none⟩) (by simp) (.slice p' n' c')
    have hl2 : (hdr ++ List.replicate (m - (gk - 1)) (0 : UInt8)).length = 252 - gk + 1 := by have := HL.out; have := HM.out; simp; omega
    refine own_eq hd (by rw [hl2]) ?_
    have e : m - (gk - 1) = m - gk + 1 := by omega
    rw [e, List.replicate_succ', ← List.append_assoc]
    simp [cB]
end
end Go.Proofs.YtnnghcooidjlhaaGreat
