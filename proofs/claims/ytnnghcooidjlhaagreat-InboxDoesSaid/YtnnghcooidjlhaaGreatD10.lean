/- Parts of the proof: Td Te Tf Na. -/
import Derived.ArgAppend
import Derived.Laws.AppendOwnNone
import Derived.Test.YtnnghcooidjlhaaGreatD01
import Derived.Test.YtnnghcooidjlhaaGreatD09
set_option linter.all false
set_option maxRecDepth 100000
namespace Go.Proofs.YtnnghcooidjlhaaGreat
section
open Go.RowKit Go.Lib
theorem setAt_end (a r b : Bs) (i : Nat) (hi : i = a.length) : setAt (a ++ r) i b = a ++ b ++ r.drop b.length := by
 subst hi
 unfold setAt
 rw [List.take_append_of_le_length (Nat.le_refl _), List.take_length, List.drop_append, List.drop_of_length_le (by omega), List.nil_append]
 congr 2
 omega
def wstep (cur : Bs) (n heap : Nat) (L : List (Nat × Nat)) (k : Nat) : Bs := two n ++ two heap ++ flatS (L.take k) ++ cur.drop (4 + 4 * k)
theorem wstep_0 (cur : Bs) (n heap : Nat) (L : List (Nat × Nat)) : setAt (setAt cur 0 (two n)) 2 (two heap) = wstep cur n heap L 0 := by
 have e1 : setAt cur 0 (two n) = two n ++ cur.drop 2 := by simpa using setAt_end [] cur (two n) 0 rfl
 rw [e1, setAt_end (two n) (cur.drop 2) (two heap) 2 rfl]
 simp [wstep]
theorem wstep_len {cur : Bs} {n heap : Nat} {L : List (Nat × Nat)} {k : Nat} (hk : k ≤ L.length) (h : 4 + 4 * k ≤ cur.length) : (wstep cur n heap L k).length = cur.length := by
 simp [wstep, Nat.min_eq_left hk]; omega
theorem wstep_succ {cur : Bs} {n heap : Nat} {L : List (Nat × Nat)} {k : Nat} {x : Nat × Nat} (hx : L[k]? = some x) :
  setAt (setAt (wstep cur n heap L k) (4 + 4 * k) (two x.1)) (4 + 4 * k + 2) (two x.2) = wstep cur n heap L (k + 1) := by
 obtain ⟨hlt, hx2⟩ := List.getElem?_eq_some_iff.1 hx
 have hl : (flatS (L.take k)).length = 4 * k := by rw [flatS_length, List.length_take]; omega
 unfold wstep
 rw [setAt_end (two n ++ two heap ++ flatS (L.take k)) _ _ _ (by simp [hl]; omega), setAt_end (two n ++ two heap ++ flatS (L.take k) ++ two x.1) _ _ _ (by simp [hl]; omega)]
 rw [List.take_succ_eq_append_getElem hlt, flatS_append, hx2]
 simp only [flatS_cons, flatS_nil, List.append_nil, List.append_assoc, two_length, List.drop_drop]
 congr 6
set_option maxHeartbeats 1000000 in
theorem with_any {w : World} {B g cp heap : Nat} {cur : Bs} {v : Value} {L : List (Nat × Nat)} (hB : Bk w g cur) (hl : cur.length = 232) (hO : w.ownsRow B 384 2 v L.length (rowV slC L)) (hv : v.ownBlock ≠ some g) (hn : 4 + 4 * L.length ≤ 232)
  (hx : ∀ (k : Nat) x, L[k]? = some x → x.1 < 65536 ∧ x.2 < 65536) (hh : heap < 65536) :
  Calls Tryz.prog 263 #[.slice (some ⟨g, 0, none⟩) 232 cp, v, .int .i64 heap] w fun e w' => e = .returned (.string (S (withB cur L heap))) ∧ Kp [g] w w' := by
 obtain ⟨tp, tc, rfl⟩ := own_slice2 hO
 have HP := hid (fun (w : World) (cur : Bs) (hB : Bk w g cur) (hl : cur.length = 232) (i n : Nat) (i' : Int) (hi : i' = (i : Int)) (h1 : i + 2 ≤ 232) (h2 : n < 65536) => (show Calls Tryz.prog 257 #[.slice (some ⟨g, 0, none⟩) 232 cp, .int .i64 i', .int .i64 n] w _ from hi ▸ putB_any hB i n (by omega) (by omega) h2 232 cp (by omega)))
 have HP1 := hid (HP.out w cur hB hl 0 L.length 0 rfl (by omega) (by omega))
 have HO := hid hO
 have HX := hid hx
 have HH := hid hh
 have HVV := hid hv
 clear hO hx hB hv
 have hlen : ∀ W : World, (Builtin.len_ #[379] 3 #[.slice tp L.length tc]).run Tryz.prog W = .ok (goInt L.length) W := fun W => by
  simp [go_sem]
 have HLEN := hid hlen
 have hlen := hlen w
 go_enter Tryz.func263, Tryz.ntmps263
 go_wp2_with fail
 with_reducible refine HP1.out.mono ?_
 rintro e W1 ⟨rfl, hb1, hk1⟩
 have hl1 : (setAt cur 0 (two L.length)).length = 232 := by rw [setAt_length (by simp; omega), hl]
 have HP2 := hid (HP.out W1 _ hb1 hl1 2 heap 2 rfl (by omega) HH.out)
 have HK1 := hid hk1
 clear hb1 hk1 hlen
 go_wp2_with fail
 with_reducible refine HP2.out.mono ?_
 rintro e W2 ⟨rfl, hb2, hk2⟩
 rw [wstep_0 cur L.length heap L] at hb2
 have HB2 := hid hb2
 have HK2 := hid (HK1.out.trans hk2)
 have hlen := HLEN.out W2
 clear hb2 hk2 hl1
 go_wp2
 go_loopg [18] L.length (fun gg s18 wr => ∃ i : Nat, i ≤ L.length ∧ L.length - i ≤ gg ∧ s18 = .int .i64 i ∧ Hid (Bk wr g (wstep cur L.length heap L i)) ∧ Hid (Kp [g] w wr))
 case atStart => exact ⟨0, Nat.zero_le _, by omega, rfl, HB2, HK2⟩
 case round =>
  clear hlen
  obtain ⟨i, hi, hg, rfl, hBr, hKr⟩ := hrel
  by_cases hlt : i < L.length
  ·obtain ⟨q, c, hv, hg1, hg2, hg3⟩ := own_form HO.out (by omega)
   injection hv with e1 _ e3
   subst e1 e3
   obtain ⟨x, hx⟩ : ∃ x, L[i]? = some x := ⟨_, List.getElem?_eq_getElem hlt⟩
   have hqg : q ≠ g := fun e => HVV.out (by rw [e]; rfl)
   have l0 : wr.cell? ⟨q, i * 2, none⟩ = some (.int .i64 x.1) := (hKr.out.cell (p := ⟨q, i * 2, none⟩) hg2 (by simpa using hqg)).trans (own_at HO.out rfl (j := i * 2) (by rw [show i * 2 = i * 2 + 0 from rfl, rowV_get slC_len _ i x hx 0 (by omega)]; rfl))
   have l1 : wr.cell? ⟨q, i * 2 + 1, none⟩ = some (.int .i64 x.2) := (hKr.out.cell (p := ⟨q, i * 2 + 1, none⟩) hg2 (by simpa using hqg)).trans (own_at HO.out rfl (j := i * 2 + 1) (by rw [rowV_get slC_len _ i x hx 1 (by omega)]; rfl))
   have hqw : q < wr.heap.size := Nat.lt_of_lt_of_le hg2 hKr.out.size
   have hltz : (i : Int) < (L.length : Int) := by omega
   have hxx := HX.out i x hx
   have hwl : (wstep cur L.length heap L i).length = 232 := by rw [wstep_len hi (by omega), hl]
   have hgw := hBr.out.lt
   obtain ⟨wo, hwo⟩ : ∃ wo, wo = wr := ⟨_, rfl⟩
   subst hwo
   have HQ1 := hid (HP.out (wo.alloc (.cells #[.int .i64 x.1, .int .i64 x.2] 384)) _ (hBr.out.alloc _) hwl (4 + 4 * i) x.1 (4 + 4 * (i : Int)) (by omega) (by omega) hxx.1)
   have HX1 := hid hx
   clear hx hg1
   go_wp2_with fail
   with_reducible refine HQ1.out.mono ?_
   rintro e W3 ⟨rfl, hb3, hk3⟩
   have hwl2 : (setAt (wstep cur L.length heap L i) (4 + 4 * i) (two x.1)).length = 232 := by rw [setAt_length (by simp; omega), hwl]
   have HQ2 := hid (HP.out W3 _ hb3 hwl2 (4 + 4 * i + 2) x.2 (4 + 4 * (i : Int) + 2) (by omega) (by omega) hxx.2)
   have hbn : Blk W3 wo.heap.size 384 #[.int .i64 x.1, .int .i64 x.2] := (Blk.new wo 384 #[.int .i64 x.1, .int .i64 x.2]).kp hk3 (by simp; omega)
   have k1 : W3.cell? ⟨wo.heap.size, 1, none⟩ = some (.int .i64 x.2) := hbn.cell 1
   have HK3 := hid ((hKr.out.alloc _).trans hk3)
   clear hb3 hk3 hbn
   go_wp2_with fail
   with_reducible refine HQ2.out.mono ?_
   rintro e W4 ⟨rfl, hb4, hk4⟩
   rw [wstep_succ HX1.out] at hb4
   have HB4 := hid hb4
   have HK4 := hid (HK3.out.trans hk4)
   clear hb4 hk4
   go_wp2
   go_roundg (L.length - (i + 1))
   case measure => omega
   case rel => exact ⟨i + 1, by omega, by omega, by go_num, HB4, HK4⟩
  ·have : i = L.length := by omega
   subst this
   have hstr := bk_string (n := 232) (c := cp) hBr.out (by rw [wstep_len (Nat.le_refl _) (by omega), hl])
   go_wp2
   go_ret
   refine ⟨?_, hKr.out⟩
   show Ending.returned (.string (S (wstep cur L.length heap L L.length))) = _
   unfold wstep withB
   rw [List.take_length]
end
section
open Go.RowKit Go.Lib
theorem run_append_zero {P : Program} {w : World} (t ty e : TypeId) (i : TypeInfo) (ht : P.underlying t = some (.slice e)) (hi : P.info? e = some i) (ao ao' : Option Addr) (n cap c : Nat) (hn : n ≤ cap) :
  (Builtin.append_ #[t, t] ty #[.slice ao n cap, .slice ao' 0 c]).run P w = .ok (.slice ao n cap) w := by
 cases ao <;> cases ao' <;> simp [Builtin.append_, run_underlying ht, sizeOf, typeInfo, hi, Builtin.lenOf, Builtin.firstCells, hn, storeCells, loadCells, loadCellsFrom, Result.andThen]
theorem wpL_append_zero {P : Program} {w : World} {ops : Array Oper} {rest : List Oper} {o : Oper} {a : Act} {Q : Exit → Act → World → Prop} (hgd : o.guard = none) (s x : Operand) (t : TypeId)
  (ho : o.op = .call { callee := .builtin .append, args := #[s, x], argTypes := #[t, t] }) (e : TypeId) (i : TypeInfo) (ht : P.underlying t = some (.slice e)) (hi : P.info? e = some i)
  (ao ao' : Option Addr) (n cap c : Nat) (hn : n ≤ cap) (hs : a.eval s = .slice ao n cap) (hx : a.eval x = .slice ao' 0 c)
  (h : wpList P ops Q rest (a.put o.dst (.slice ao n cap)) w) : wpList P ops Q (o :: rest) a w := by
 refine wpList_plain hgd fun K hK => ?_
 have hrun := run_append_zero (P := P) (w := w) t o.type e i ht hi ao ao' n cap c hn
 unfold Oper.wp
 simp [execOp, ho, resolve, invoke, builtin, hs, hx, hrun, Result.andThen]
 exact hK _ _ h
theorem insert_full {rs : List Bs} {r : Bs} (h : used rs ≤ 232) (hf : 232 < used (rs ++ [r])) (hr : r.length ≤ 1000000) (w : World) :
  Calls Tryz.prog 240 #[.string (S (lay rs)), .int .i64 rs.length, .string (S r)] w fun e w' => e = .returned (.tuple #[.string ⟨#[]⟩, .int .i64 11]) ∧ Below w.heap.size w w' := by
 have HC := hid (check_any h w)
 have HLI := hid (fun w => list_any h w)
 have HR := hid (fun w => room_any h w)
 have hn : rs.length ≤ 57 := by unfold used at h; omega
 have hfull : (228 - 4 * rs.length - rlen rs : Nat) - (4 : Int) < (r.length : Int) := by
  unfold used at h hf
  simp at hf
  omega
 have hw : IntKind.i64.wrap (((228 - 4 * rs.length - rlen rs : Nat) : Int) - 4) = ((228 - 4 * rs.length - rlen rs : Nat) : Int) - 4 := by rw [IntKind.wrap_i64]; omega
 generalize (228 - 4 * rs.length - rlen rs : Nat) = rm at HR hfull hw
 clear h hf
 go_enter Tryz.func240, Tryz.ntmps240
 go_wp2_with (first | (go_at_call 258; with_reducible refine HC.out.mono ?_; rintro e W0 ⟨rfl, hB0⟩) | (go_at_call 259; with_reducible refine (HLI.out _).mono ?_; rintro e W ⟨v, rfl, hO, hB⟩))
 obtain ⟨tp, tc, rfl⟩ := own_slice2 hO
 have HB := hid (hB0.trans (hB.mono hB0.size))
 have hlen : (Builtin.len_ #[379] 3 #[.slice tp rs.length tc]).run Tryz.prog W = .ok (goInt rs.length) W := by
  simp [go_sem]
 rw [hlen]
 clear hO hB hB0
 go_wp2_with (go_at_call 260; with_reducible refine (HR.out _).mono ?_; rintro e W1 ⟨rfl, hB1⟩)
 go_ret2
 exact ⟨rfl, HB.out.trans (hB1.mono HB.out.size)⟩
set_option maxHeartbeats 1000000 in
theorem insert_fits {rs : List Bs} {r : Bs} (hf : used (rs ++ [r]) ≤ 232) (hr : 0 < r.length) (w : World) :
  Calls Tryz.prog 240 #[.string (S (lay rs)), .int .i64 rs.length, .string (S r)] w fun e w' => e = .returned (.tuple #[.string (S (lay (rs ++ [r]))), .int .i64 0]) ∧ Below w.heap.size w w' := by
 have hu : 4 + 4 * (rs.length + 1) + (rlen rs + r.length) ≤ 232 := by simpa [used] using hf
 have h : used rs ≤ 232 := by unfold used; omega
 have HC := hid (check_any h w)
 have HLI := hid (fun w => list_any h w)
 have HR := hid (fun w => room_any h w)
 have HT := hid (fun w => two_at (lay_at2 (rs := rs)) (by rw [lay_length h]; omega) w 2 rfl)
 have hn : rs.length ≤ 57 := by omega
 have hfull : ¬ ((228 - 4 * rs.length - rlen rs : Nat) - (4 : Int) < (r.length : Int)) := by omega
 have hw : IntKind.i64.wrap (((228 - 4 * rs.length - rlen rs : Nat) : Int) - 4) = ((228 - 4 * rs.length - rlen rs : Nat) : Int) - 4 := by rw [IntKind.wrap_i64]; omega
 have hcp : ¬ (((232 - rlen rs : Nat) : Int) < 4 + 4 * ((rs.length : Int) + 1) + (r.length : Int)) := by omega
 have hw2 : IntKind.i64.wrap (((232 - rlen rs : Nat) : Int) - (r.length : Int)) = ((232 - rlen rs - r.length : Nat) : Int) := by rw [IntKind.wrap_i64]; omega
 have hhp : 232 - rlen rs - r.length < 232 := by omega
 generalize hrm : (228 - 4 * rs.length - rlen rs : Nat) = rm at HR hfull hw
 generalize hhp0 : (232 - rlen rs : Nat) = hp0 at HT hcp hw2
 have HF := hid hf
 have HU := hid hu
 have HH := hid h
 have HHP := hid hhp0
 clear h hf hrm
 go_enter Tryz.func240, Tryz.ntmps240
 go_wp2_with (first | (go_at_call 258; with_reducible refine HC.out.mono ?_; rintro e W0 ⟨rfl, hB0⟩) | (go_at_call 259; with_reducible refine (HLI.out _).mono ?_; rintro e W ⟨v, rfl, hO, hB⟩))
 rcases hO.2 with ⟨rfl, h0⟩ | ⟨g, tc, cur, rfl, hg1, hg2, hg3, hg4, hg5, hg6⟩
 ·have hrs : rs = [] := List.eq_nil_of_length_eq_zero h0
  subst hrs
  have HB := hid (hB0.trans (hB.mono hB0.size))
  have hlen : (Builtin.len_ #[379] 3 #[.slice none 0 0]).run Tryz.prog W = .ok (goInt 0) W := by
   simp [go_sem]
  simp only [List.length_nil] at hlen ⊢
  rw [hlen]
  clear hO hB hB0 hlen
  go_wp2_with (go_at_call 260; with_reducible refine (HR.out _).mono ?_; rintro e W1 ⟨rfl, hB1⟩)
  with_reducible refine (HT.out _).mono ?_
  rintro e W1' ⟨rfl, n1, rfl⟩
  go_wp2_with fail
  with_reducible refine (HT.out _).mono ?_
  rintro e W1' ⟨rfl, n2, rfl⟩
  have hpr : hp0 = 232 := by rw [← HHP.out]; rfl
  have hpb : hp0 - r.length < 232 := by omega
  have HPR : Hid (hp0 = 232 ∧ 8 + r.length ≤ 232) := hid ⟨hpr, by have := HU.out; simp at this; omega⟩
  have HB1 := hid (HB.out.trans (hB1.mono HB.out.size))
  have hll := lay_length HH.out
  clear hcp hB1 hhp hpr
  obtain ⟨c, W2, hcv, hbk, hb2, hcc⟩ := bytes_of ((W1.drewN n1).drewN n2) (lay [])
  rw [hll, World.drewN_drewN] at hcv
  rw [hll] at hcc
  rw [World.drewN_drewN] at hbk hb2
  have hcv : (convert 9 129 (.string (S (lay [])))).run Tryz.prog (W1.drewN (n1 + n2)) = .ok (.slice (some ⟨W1.heap.size, 0, none⟩) 232 c) W2 := hcv
  have HBK : Hid (Bk W2 W1.heap.size (lay [])) := hid hbk
  have HBW : Hid (Below W1.heap.size W1 W2) := hid ((below_drewN (Below.refl W1.heap.size W1) (n1 + n2)).trans hb2)
  clear hbk hb2
  go_wp2_with (with_reducible refine stopAt .copy rfl ?_)
  with_reducible refine goOn ?_
  refine wpL_copyK rfl _ _ _ rfl Tryz.underlying129 W1.heap.size (hp0 - r.length) _ _ r (lay []) rfl rfl HBK.out (by have := HPR.out; omega) (by rw [hll]; have := HPR.out; omega) ?_
  intro W3 hB3 hk3
  have HB3 := hid hB3
  have HK3 := hid hk3
  clear hB3 hk3
  go_wp2_with (with_reducible refine stopAt .append rfl ?_)
  with_reducible refine goOn ?_
  obtain ⟨i0, hi, hz0, hz1, hz2⟩ := info_parts infSl
  refine wpList_append_grows _ rfl _ _ 379 rfl 384 i0 (.agg #[.int .i64 0, .int .i64 0]) 2 16 Tryz.underlying379 hi hz0 hz1 hz2 rfl (by decide) none 0 0 [] rfl (fun _ => ⟨rfl, rfl⟩) rfl (fun b hb => by cases hb) ⟨W3.heap.size, 0, none⟩ 1 1 (slC (hp0 - r.length, r.length)) rfl rfl (news_of (Blk.new W3 384 (slC (hp0 - r.length, r.length)).toArray)) (slC_one _) (by omega) (by unfold maxLen; omega) (by omega) ?_
  intro v' W4 hO4 hgr4
  obtain ⟨q, c4, rfl, hq1, hq2, hq3⟩ := own_form hO4 (by omega)
  have hs34 : W3.heap.size + 1 ≤ q := by simpa using hq1
  have hs23 : W2.heap.size ≤ W3.heap.size := HK3.out.size
  have hs12 : W1.heap.size < W2.heap.size := HBK.out.lt
  have hB4 : Bk W4 W1.heap.size (setAt (lay []) (hp0 - r.length) r) := (HB3.out.alloc _).of_block (hgr4.block _ (by simp; omega) (by simp))
  have hbel4 : Below W1.heap.size W1 W4 := ((HBW.out.trans (HK3.out.to_below (by omega) (by simp))).alloc (by omega) _).grown hgr4 (by simp; omega) (by simp)
  have HB4 := hid hB4
  have HBEL := hid hbel4
  have HO4 := hid hO4
  clear hB4 hbel4 hO4 hgr4 hcv
  have hsl : (setAt (lay []) (hp0 - r.length) r).length = 232 := by rw [setAt_length (by rw [hll]; have := HPR.out; omega), hll]
  have hWI := with_any (cp := c) (heap := hp0 - r.length) (v := .slice (some ⟨q, 0, none⟩) 1 c4) (L := slotsOf 232 [r]) HB4.out hsl (by
   have h := HO4.out
   have e : [] ++ slC (hp0 - r.length, r.length) = rowV slC (slotsOf 232 [r]) := by rw [HPR.out.1]; simp [slotsOf]
   rw [e] at h
   exact h) (by
   intro e
   have : q = W1.heap.size := by simpa [Value.ownBlock] using e
   omega) (by simp [slotsOf]) (fun k x hx => by have := slot_facts (rs := [r]) HF.out hx; omega) (by omega)
  have hli : withB (setAt (lay []) (hp0 - r.length) r) (slotsOf 232 [r]) (hp0 - r.length) = lay [r] := by
   rw [HPR.out.1]
   have h := lay_insert (rs := []) (r := r) HF.out
   simp only [rlen_nil, List.nil_append, Nat.sub_zero] at h
   exact h
  rw [hli] at hWI
  have HWI := hid hWI
  clear hWI
  go_wp2_with (with_reducible refine stopAt .append rfl ?_)
  with_reducible refine goOn ?_
  refine wpL_append_zero rfl _ _ _ rfl 384 i0 Tryz.underlying379 hi _ _ _ _ _ ?_ rfl rfl ?_
  ·exact hq3
  ·go_wp2_with (go_at_call 263; with_reducible refine HWI.out.mono ?_; rintro e W5 ⟨rfl, hk5⟩)
   go_ret2
   exact ⟨rfl, HB1.out.trans (HBEL.out.trans (hk5.to_below (by have := HBEL.out.size; omega) (by simp)) |>.mono HB1.out.size)⟩
 ·have HB := hid (hB0.trans (hB.mono hB0.size))
  have HO := hid hO
  have hlen : (Builtin.len_ #[379] 3 #[.slice (some ⟨g, 0, none⟩) rs.length tc]).run Tryz.prog W = .ok (goInt rs.length) W := by
   simp [go_sem]
  rw [hlen]
  clear hO hB hB0 hlen hg6
  go_wp2_with (go_at_call 260; with_reducible refine (HR.out _).mono ?_; rintro e W1 ⟨rfl, hB1⟩)
  with_reducible refine (HT.out _).mono ?_
  rintro e W1' ⟨rfl, n1, rfl⟩
  go_wp2_with fail
  with_reducible refine (HT.out _).mono ?_
  rintro e W1' ⟨rfl, n2, rfl⟩
  have hpb : hp0 - r.length < 232 := by omega
  have hpr : 232 - (hp0 - r.length) = rlen rs + r.length := by omega
  have HPR := hid hpr
  have hB1' := HB.out.trans (hB1.mono HB.out.size)
  have hb2' : Below W.heap.size W W1 := hB1.mono (Nat.le_refl _)
  have hll := lay_length HH.out
  have hgW0 : g < W.heap.size := (Array.getElem?_eq_some_iff.1 hg2).1
  have hgW : g < W1.heap.size := Nat.lt_of_lt_of_le hgW0 hb2'.size
  have HB1 := hid hB1'
  have HB2 := hid hb2'
  clear hcp hB1 hhp hpr hB1' hb2' hg2 hg5
  obtain ⟨c, W2, hcv, hbk, hb2, hcc⟩ := bytes_of ((W1.drewN n1).drewN n2) (lay rs)
  rw [hll, World.drewN_drewN] at hcv
  rw [hll] at hcc
  rw [World.drewN_drewN] at hbk hb2
  have hcv : (convert 9 129 (.string (S (lay rs)))).run Tryz.prog (W1.drewN (n1 + n2)) = .ok (.slice (some ⟨W1.heap.size, 0, none⟩) 232 c) W2 := hcv
  have hbk : Bk W2 W1.heap.size (lay rs) := hbk
  have hb2 : Below W1.heap.size W1 W2 := (below_drewN (Below.refl W1.heap.size W1) (n1 + n2)).trans hb2
  have HBK := hid hbk
  have HBW := hid hb2
  clear hbk hb2
  go_wp2_with (with_reducible refine stopAt .copy rfl ?_)
  with_reducible refine goOn ?_
  refine wpL_copyK rfl _ _ _ rfl Tryz.underlying129 W1.heap.size (hp0 - r.length) _ _ r (lay rs) rfl rfl HBK.out (by have := HPR.out; omega) (by rw [hll]; have := HPR.out; omega) ?_
  intro W3 hB3 hk3
  have hgr : g ≠ W1.heap.size := by omega
  have HB3 := hid hB3
  have HK3 := hid hk3
  have HO3 : Hid (W3.ownsRow W0.heap.size 384 2 (.slice (some ⟨g, 0, none⟩) rs.length tc) rs.length (rowV slC (slotsOf 232 rs))) := hid (row_of HO.out (fun b hb => by
   have : g = b := by simpa [Value.ownBlock] using hb
   subst this
   exact ((hk3.block g (by have := HBW.out.size; omega) (by simpa using hgr)).trans (HBW.out.block g hgW)).trans (HB2.out.block g hgW0)))
  have hlc : (rs.length : Int) ≤ (tc : Int) := by omega
  have hlc0 : (0 : Int) ≤ (rs.length : Int) := by omega
  clear hB3 hk3
  go_wp2_with (with_reducible refine stopAt .append rfl ?_)
  with_reducible refine goOn ?_
  obtain ⟨i0, hi, hz0, hz1, hz2⟩ := info_parts infSl
  refine wpList_append_grows _ rfl _ _ 379 rfl 384 i0 (.agg #[.int .i64 0, .int .i64 0]) 2 16 Tryz.underlying379 hi hz0 hz1 hz2 rfl (by decide) (some ⟨g, 0, none⟩) rs.length rs.length (rowV slC (slotsOf 232 rs)) rfl (fun h => by cases h) (by rw [rowV_length slC_len]; simp) (fun b hb j u hu => by
   injection hb with hb
   subst hb
   exact (HO3.out.alloc _).cells (g := g) rfl j u hu) ⟨W3.heap.size, 0, none⟩ 1 1 (slC (hp0 - r.length, r.length)) rfl rfl (news_of (Blk.new W3 384 (slC (hp0 - r.length, r.length)).toArray)) (slC_one _) (by omega) (by unfold maxLen; omega) (by omega) ?_
  intro v' W4 hO4 hgr4
  obtain ⟨q, c4, rfl, hq1, hq2, hq3⟩ := own_form hO4 (by omega)
  have hs34 : W3.heap.size + 1 ≤ q := by simpa using hq1
  have hs23 : W2.heap.size ≤ W3.heap.size := HK3.out.size
  have hs12 : W1.heap.size < W2.heap.size := HBK.out.lt
  have hB4 : Bk W4 W1.heap.size (setAt (lay rs) (hp0 - r.length) r) := (HB3.out.alloc _).of_block (hgr4.block _ (by simp; omega) (by simp))
  have hbel4 : Below W1.heap.size W1 W4 := ((HBW.out.trans (HK3.out.to_below (by omega) (by simp))).alloc (by omega) _).grown hgr4 (by simp; omega) (by simp)
  have HB4 := hid hB4
  have HBEL := hid hbel4
  have HO4 := hid hO4
  have hspl : rowV slC (slotsOf 232 rs) ++ slC (hp0 - r.length, r.length) = rowV slC (slotsOf 232 (rs ++ [r])) := by
   rw [slotsOf_snoc, rowV_append, ← hhp0]
   simp
  have HSP := hid hspl
  clear hB4 hbel4 hO4 hgr4 hspl hcv
  have hsl : (setAt (lay rs) (hp0 - r.length) r).length = 232 := by rw [setAt_length (by rw [hll]; have := HPR.out; omega), hll]
  have hWI := with_any (cp := c) (heap := hp0 - r.length) (v := .slice (some ⟨q, 0, none⟩) (rs.length + 1) c4) (L := slotsOf 232 (rs ++ [r])) HB4.out hsl (by
   have := HO4.out
   rw [HSP.out] at this
   have e : (slotsOf 232 (rs ++ [r])).length = rs.length + 1 := by simp
   rw [e]
   exact this) (by
   intro e
   have : q = W1.heap.size := by simpa [Value.ownBlock] using e
   omega) (by have := HU.out; simp; omega) (fun k x hx => by have := slot_facts HF.out hx; omega) (by omega)
  rw [← HHP.out, lay_insert HF.out, HHP.out] at hWI
  have HWI := hid hWI
  clear hWI
  by_cases htc : tc = rs.length
  ·subst htc
   go_wp2_with (with_reducible refine stopAt .append rfl ?_)
   with_reducible refine goOn ?_
   refine wpL_append_zero rfl _ _ _ rfl 384 i0 Tryz.underlying379 hi _ _ _ _ _ ?_ rfl rfl ?_
   ·exact hq3
   ·go_wp2_with (go_at_call 263; with_reducible refine HWI.out.mono ?_; rintro e W5 ⟨rfl, hk5⟩)
    go_ret2
    exact ⟨rfl, HB1.out.trans (HBEL.out.trans (hk5.to_below (by have := HBEL.out.size; omega) (by simp)) |>.mono HB1.out.size)⟩
  ·have htc2 : ¬ ((tc : Int) = (rs.length : Int)) := by omega
   go_wp2_with (with_reducible refine stopAt .append rfl ?_)
   with_reducible refine goOn ?_
   refine wpL_append_zero rfl _ _ _ rfl 384 i0 Tryz.underlying379 hi _ _ _ _ _ ?_ rfl rfl ?_
   ·exact hq3
   ·go_wp2_with (go_at_call 263; with_reducible refine HWI.out.mono ?_; rintro e W5 ⟨rfl, hk5⟩)
    go_ret2
    exact ⟨rfl, HB1.out.trans (HBEL.out.trans (hk5.to_below (by have := HBEL.out.size; omega) (by simp)) |>.mono HB1.out.size)⟩
end
section
open Go.RowKit Go.Lib
theorem used_take (l : List Bs) (i : Nat) : used (l.take i) ≤ used l := by
 have := rlen_take_le l i
 have h2 : (l.take i).length ≤ l.length := by rw [List.length_take]; omega
 unfold used; omega
theorem take_snoc (l : List Bs) (i : Nat) (h : i < l.length) : l.take i ++ [l[i]] = l.take (i + 1) := (List.take_succ_eq_append_getElem h).symm
def ofS (l : List Bs) : ByteArray := if used l ≤ 232 then S (lay l) else ⟨#[]⟩
def ofE (l : List Bs) : Int := if used l ≤ 232 then 0 else 11
abbrev ofR (l : List Bs) : Value := .tuple #[.string (ofS l), .int .i64 (ofE l)]
theorem ofR_pos {l : List Bs} (h : used l ≤ 232) : ofR l = .tuple #[.string (S (lay l)), .int .i64 0] := by unfold ofR ofS ofE; rw [if_pos h, if_pos h]
theorem ofR_neg {l : List Bs} (h : ¬ used l ≤ 232) : ofR l = .tuple #[.string ⟨#[]⟩, .int .i64 11] := by unfold ofR ofS ofE; rw [if_neg h, if_neg h]
set_option maxHeartbeats 1000000 in
theorem of_any {w : World} {g c : Nat} {l : List Bs} (hg : g < w.heap.size) (hl : ∀ (j : Nat) r, l[j]? = some r → w.cell? ⟨g, j, none⟩ = some (.string (S r))) (hr : ∀ r ∈ l, 0 < r.length ∧ r.length ≤ 1000000) (hc : l.length ≤ c) (hn : l.length ≤ 1000000) :
  Calls Tryz.prog 215 #[.slice (some ⟨g, 0, none⟩) l.length c] w fun e w' =>
   e = .returned (ofR l) ∧ Below w.heap.size w w' := by
 have HE := hid (empty_any w)
 have HL := hid hl
 have HR := hid hr
 clear hl hr
 go_enter Tryz.func215, Tryz.ntmps215
 go_wp2_with (go_at_call 239; with_reducible refine HE.out.mono ?_; rintro e W0 ⟨rfl, hB0⟩)
 have HB0 := hid hB0
 clear hB0
 go_loopg [4, 12] l.length (fun gg s4 s12 wr => ∃ i : Nat, i ≤ l.length ∧ l.length - i ≤ gg ∧ s12 = .int .i64 i ∧ s4 = .string (S (lay (l.take i))) ∧ Hid (used (l.take i) ≤ 232) ∧ Hid (Below w.heap.size w wr))
 case atStart => exact ⟨0, Nat.zero_le _, by omega, rfl, by simp, hid (by simp [used]), HB0⟩
 case round =>
  obtain ⟨i, hi, hgg, rfl, rfl, hU, hB⟩ := hrel
  by_cases hlt : i < l.length
  ·have l0 : wr.cell? ⟨g, i, none⟩ = some (.string (S l[i])) := (hB.out.cell (p := ⟨g, i, none⟩) hg).trans (HL.out i l[i] (List.getElem?_eq_getElem hlt))
   have hltz : (i : Int) < (l.length : Int) := by omega
   have hgw : g < wr.heap.size := Nat.lt_of_lt_of_le hg hB.out.size
   have hlen : (l.take i).length = i := by rw [List.length_take]; omega
   have hri := HR.out l[i] (List.getElem_mem hlt)
   by_cases hf : used (l.take (i + 1)) ≤ 232
   ·have HI := hid (insert_fits (rs := l.take i) (r := l[i]) (by rw [take_snoc l i hlt]; exact hf) hri.1)
    rw [take_snoc l i hlt, hlen] at HI
    have HF := hid hf
    clear hf hri hlen
    go_wp2_with (go_at_call 240; with_reducible refine (HI.out _).mono ?_; rintro e W1 ⟨rfl, hB1⟩)
    go_roundg (l.length - (i + 1))
    case measure => omega
    case rel => exact ⟨i + 1, by omega, by omega, by go_num, rfl, HF, hid (hB.out.trans (hB1.mono hB.out.size))⟩
   ·have HI := hid (insert_full (rs := l.take i) (r := l[i]) hU.out (by rw [take_snoc l i hlt]; omega) hri.2)
    rw [hlen] at HI
    have HF : Hid (¬ used l ≤ 232) := hid (fun h => hf (Nat.le_trans (used_take l (i + 1)) h))
    clear hf hri hlen
    go_wp2_with (go_at_call 240; with_reducible refine (HI.out _).mono ?_; rintro e W1 ⟨rfl, hB1⟩)
    go_ret2
    rw [ofR_neg HF.out]
    exact ⟨rfl, hB.out.trans (hB1.mono hB.out.size)⟩
  ·have : i = l.length := by omega
   subst this
   rw [List.take_length] at hU ⊢
   have HU := hid hU.out
   clear hU
   go_wp2
   go_ret2
   rw [ofR_pos HU.out]
   exact ⟨rfl, hB.out⟩
end
section
/-! the order of strings -/
theorem bl : ∀ (x y : Bs), Op.bytesLess x y = decide (x < y)
 | [], [] => by simp [Op.bytesLess]
 | _ :: _, [] => by simp [Op.bytesLess]
 | [], _ :: _ => by simp [Op.bytesLess]
 | a :: x, b :: y => by
  rw [Op.bytesLess, bl x y]
  simp only [List.cons_lt_cons_iff]
  by_cases h1 : a < b <;> by_cases h2 : a = b <;> by_cases h3 : x < y <;> simp [h1, h2, h3]
theorem blt_irrefl (a : Bs) : ¬ a < a := List.lt_irrefl a
theorem blt_trans {a b c : Bs} (h : a < b) (k : b < c) : a < c := List.lt_trans h k
theorem blt_asymm {a b : Bs} (h : a < b) : ¬ b < a := List.lt_asymm h
theorem ble_iff {a b : Bs} : a ≤ b ↔ ¬ b < a := List.not_lt.symm
theorem ble_refl (a : Bs) : a ≤ a := List.le_refl a
theorem ble_of_lt {a b : Bs} (h : a < b) : a ≤ b := List.le_of_lt h
theorem ble_trans {a b c : Bs} (h : a ≤ b) (k : b ≤ c) : a ≤ c := List.le_trans h k
theorem blt_of_le_of_lt {a b c : Bs} (h : a ≤ b) (k : b < c) : a < c := List.lt_of_le_of_lt h k
theorem ble_antisymm {a b : Bs} (h : a ≤ b) (k : b ≤ a) : a = b := List.le_antisymm h k
theorem blt_of_lt_of_le {a b c : Bs} (h : a < b) (k : b ≤ c) : a < c := by
 rcases Classical.em (a < c) with h1 | h1
 ·exact h1
 ·have h2 : c ≤ a := List.not_lt.1 h1
  exact absurd h (ble_iff.1 (ble_trans k h2))
theorem blt_tri (a b : Bs) : a < b ∨ a = b ∨ b < a := by
 rcases Classical.em (a < b) with h | h
 ·exact .inl h
 ·rcases Classical.em (b < a) with k | k
  ·exact .inr (.inr k)
  ·exact .inr (.inl (ble_antisymm (ble_iff.2 k) (ble_iff.2 h)))
theorem nil_ble (a : Bs) : ([] : Bs) ≤ a := by
 rw [ble_iff]; exact List.not_lt_nil a
theorem blt_nil {a b : Bs} (h : a < b) : ([] : Bs) < b := blt_of_le_of_lt (nil_ble a) h
structure En where
 key : Bs
 val : Bs
 far : Int
structure Nd where
 leaf : Bool
 l : List En
def encE (x : En) : Bs := UInt8.ofNat x.key.length :: (x.key ++ two (x.far + 1).toNat ++ x.val)
def kindB (b : Bool) : Bs := if b then [1] else [2]
def recs (n : Nd) : List Bs := kindB n.leaf :: n.l.map encE
def enB (x : En) : Nat := x.key.length + x.val.length + 7
def nB (l : List En) : Nat := (l.map enB).sum
@[simp] theorem nB_nil : nB [] = 0 := rfl
@[simp] theorem nB_cons (x : En) (l : List En) : nB (x :: l) = enB x + nB l := by simp [nB]
@[simp] theorem nB_append (a b : List En) : nB (a ++ b) = nB a + nB b := by simp [nB]
theorem encE_length (x : En) : (encE x).length = x.key.length + x.val.length + 3 := by simp [encE]; omega
theorem kindB_length (b : Bool) : (kindB b).length = 1 := by cases b <;> rfl
theorem rlen_map (l : List En) : rlen (l.map encE) + 4 * l.length = nB l := by
 induction l with
 | nil => rfl
 | cons x l ih => simp [encE_length, enB]; omega
theorem used_recs (n : Nd) : used (recs n) = 9 + nB n.l := by
 have := rlen_map n.l
 simp [used, recs, kindB_length]; omega
def rightE (leaf : Bool) (x : En) : Prop := x.key.length ≤ 32 ∧ x.val.length ≤ 40 ∧ (if leaf = true then -1 else 0) ≤ x.far ∧ x.far < 512 ∧ (x.far < 0 ∨ x.val = [])
def Asc (l : List En) : Prop := l.Pairwise fun a b => a.key < b.key
def mayN (n : Nd) : Prop := (∀ x ∈ n.l, rightE n.leaf x) ∧ Asc n.l
theorem rightE_enB {leaf : Bool} {x : En} (h : rightE leaf x) : enB x ≤ 79 := by
 unfold rightE at h; unfold enB; omega
theorem rightE_inner {x : En} (h : rightE false x) : x.val = [] ∧ enB x ≤ 39 ∧ 0 ≤ x.far ∧ x.far < 512 := by
 unfold rightE at h
 simp at h
 have hv : x.val = [] := by
  rcases h.2.2.2.2 with h1 | h1
  ·omega
  ·exact h1
 refine ⟨hv, ?_, h.2.2.1, h.2.2.2.1⟩
 unfold enB
 rw [hv]
 simp
 omega
def strip (n : Nd) : Nd := if n.leaf = true then n else match n.l with
 | [] => n
 | x :: t => ⟨n.leaf, { x with key := [] } :: t⟩
theorem strip_leaf (l : List En) : strip ⟨true, l⟩ = ⟨true, l⟩ := rfl
theorem strip_inner (x : En) (t : List En) : strip ⟨false, x :: t⟩ = ⟨false, { x with key := [] } :: t⟩ := rfl
theorem Asc.cons {x : En} {t : List En} : Asc (x :: t) ↔ (∀ y ∈ t, x.key < y.key) ∧ Asc t := List.pairwise_cons
theorem Asc.append {a b : List En} : Asc (a ++ b) ↔ Asc a ∧ Asc b ∧ ∀ x ∈ a, ∀ y ∈ b, x.key < y.key := List.pairwise_append
theorem mayN_strip {n : Nd} (h : mayN n) : mayN (strip n) := by
 obtain ⟨leaf, l⟩ := n
 cases leaf with
 | true => exact h
 | false =>
  cases l with
  | nil => exact h
  | cons x t =>
   rw [strip_inner]
   obtain ⟨h1, h2⟩ := h
   rw [Asc.cons] at h2
   refine ⟨fun y hy => ?_, Asc.cons.2 ⟨fun y hy => blt_nil (h2.1 y hy), h2.2⟩⟩
   rcases List.mem_cons.1 hy with rfl | hy
   ·have := h1 x (by simp)
    unfold rightE at this ⊢
    exact ⟨by simp, this.2⟩
   ·exact h1 y (by simp [hy])
theorem nB_strip (n : Nd) : nB (strip n).l ≤ nB n.l := by
 obtain ⟨leaf, l⟩ := n
 cases leaf with
 | true => exact Nat.le_refl _
 | false =>
  cases l with
  | nil => exact Nat.le_refl _
  | cons x t => rw [strip_inner]; simp [enB]
theorem strip_leaf_eq (n : Nd) : (strip n).leaf = n.leaf := by
 obtain ⟨leaf, l⟩ := n
 cases leaf with
 | true => rfl
 | false => cases l <;> rfl
/-! the place of a key -/
def cnt (k : Bs) (l : List En) : Nat := l.countP fun x => decide (x.key < k)
theorem cnt_split {l : List En} (h : Asc l) (k : Bs) : (∀ x ∈ l.take (cnt k l), x.key < k) ∧ (∀ x ∈ l.drop (cnt k l), ¬ x.key < k) := by
 induction l with
 | nil => simp [cnt]
 | cons x t ih =>
  rw [Asc.cons] at h
  have ih := ih h.2
  unfold cnt at ih ⊢
  by_cases hx : x.key < k
  ·rw [List.countP_cons_of_pos (by simpa using hx)]
   simp only [List.take_succ_cons, List.drop_succ_cons, List.mem_cons]
   exact ⟨fun y hy => hy.elim (fun e => e ▸ hx) (ih.1 y), ih.2⟩
  ·have h0 : List.countP (fun x => decide (x.key < k)) t = 0 := by
    rw [List.countP_eq_zero]
    intro y hy
    simp only [decide_eq_true_eq]
    exact fun hk => hx (blt_trans (h.1 y hy) hk)
   rw [List.countP_cons_of_neg (by simpa using hx), h0]
   simp only [List.take_zero, List.drop_zero, List.not_mem_nil, false_implies, implies_true, List.mem_cons, true_and]
   intro y hy
   rcases hy with rfl | hy
   ·exact hx
   ·exact fun hk => hx (blt_trans (h.1 y hy) hk)
theorem cnt_le (k : Bs) (l : List En) : cnt k l ≤ l.length := List.countP_le_length
/-! halves -/
end
end Go.Proofs.YtnnghcooidjlhaaGreat
