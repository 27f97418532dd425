/- Parts of the proof: Sch See Ser Sef Seg Set Ses Ok Oqw Orw. -/
import Derived.Laws.EntriesVeiled
import Derived.Deep.Cut
import Derived.Deep.CutRange
import Derived.Deep.CutBlock
import Derived.Test.YtcdiljebkpikbaaGreatRows
import Derived.Deep.Slices
import Derived.ProofKit
import Derived.SizedLaws
import Derived.Laws.Cover2
import Derived.Carry
import Derived.Test.YtcdiljebkpikbaaGreatS11
import Derived.Test.YtcdiljebkpikbaaGreatS12
import Derived.Test.YtcdiljebkpikbaaGreatS30
import Derived.Test.YtcdiljebkpikbaaGreatU31
import Derived.Test.YtcdiljebkpikbaaGreatU32
import Derived.Test.YtcdiljebkpikbaaGreatU34
import Derived.Test.YtcdiljebkpikbaaGreatU36
import Derived.Test.YtcdiljebkpikbaaGreatU37
import Derived.Test.YtcdiljebkpikbaaGreatU38
import Derived.Test.YtcdiljebkpikbaaGreatU39
set_option linter.all false
set_option maxRecDepth 100000
set_option maxHeartbeats 64000000
namespace Go.Proofs.YtcdiljebkpikbaaGreat
section
open Go.RowKit Go.Lib
theorem aVF {α:Type} {f:α→Bs} {k:Nat} {l:List α} (h: ∀x∈l,(f x).length≤k):(l.flatMap f).length≤l.length*k:=by
 induction l with
 |nil=>simp
 |cons a l ih=>
  have h1:=h a (by simp)
  have h2:=ih fun x hx=>h x (by simp[hx])
  rw[List.flatMap_cons,List.length_append,List.length_cons,Nat.add_mul,Nat.one_mul]
  omega
theorem jz {α:Type} {f:α→Bs} {k n:Nat} {l:List α} (hn:l.length≤n) (h: ∀x∈l,(f x).length≤k):(abK f l).length≤8+n*k:=by
 unfold abK
 have:=aVF h
 have:=Nat.mul_le_mul_right k hn
 simp only[List.length_append,aAY]
 omega
theorem aTK (x:In):(aRU x).length=32:=by simp[aRU]
theorem aTj (x:Ini):(aRT x).length=24:=by simp[aRT,agP]
theorem qw (x:Nat):(agP x).length=8:=by simp[agP]
structure Mdl.lgt (m:Mdl):Prop where
 p:m.pr.length≤10
 l:m.lp.length≤20
 d:m.dl.length≤60
 i:m.ini.length≤60
 pi: ∀p∈m.pr,p.length≤100
 li: ∀x∈m.lp,x.2.length≤60
theorem aTz {m:Mdl} (h:m.lgt):(aTe m).length≤45000:=by
 have h1:=jz (f:=agP) (k:=8) h.d (fun x _=>by rw[qw];omega)
 have h2:=jz (f:=abK aRU) (k:=3208) h.p (fun p hp=>jz (k:=32) (h.pi p hp) (fun x _=>by rw[aTK];omega))
 have h3:=jz (f:=aUU) (k:=496) h.l (fun x hx=>by
  have:=jz (f:=X6) (k:=8) (h.li x hx) (fun y _=>by rw[aAY];omega)
  unfold aUU
  rw[List.length_append,aAY]
  omega)
 have h4:=jz (f:=aRT) (k:=24) h.i (fun x _=>by rw[aTj];omega)
 unfold aTe
 simp only[List.length_append,aAY,qw]
 omega
def aVX (x:MdV):Bs:=X6 x.seed++agP x.en++abK agP x.dl++abK (fun q:Prg=>abK aRU q.l) x.ps++abK aS9 x.ls++abK aRT x.is
theorem aUK (x:MdV):aVX x=aTe x.m:=by
 unfold aVX aTe MdV.m abK aS9
 simp only[List.length_map,List.flatMap_map]
structure MdV.nice (x:MdV):Prop where
 ok:x.m.ok
 lgt:x.m.lgt
section
variable {x:MdV} {W:World}
theorem MdV.nice.qn (h:x.nice) (hm:qZ W x):x.dn≤1000∧x.pn≤1000∧x.ln≤1000∧x.im≤1000∧(∀q∈x.ps,q.n≤1000)∧ ∀q∈x.ls,q.n≤1000:=by
 have h1:=h.lgt.d
 have h2:=h.lgt.p
 have h3:=h.lgt.l
 have h4:=h.lgt.i
 unfold MdV.m at h1 h2 h3 h4
 simp only[List.length_map]at h1 h2 h3 h4
 refine⟨by rw[hm.dn];omega,by rw[hm.pn];omega,by rw[hm.ln];omega,by rw[hm.im];omega,fun q hq=>?_,fun q hq=>?_⟩
 ·have:=h.lgt.pi q.l (List.mem_map.2 ⟨q,hq,rfl⟩)
  rw[(hm.pi q hq).1];omega
 ·have:=h.lgt.li (q.k,q.l) (List.mem_map.2 ⟨q,hq,rfl⟩)
  rw[(hm.li q hq).1]
  show q.l.length≤1000
  have:q.l.length≤60:=this
  omega
theorem aVj {w0:World} {g:Nat} {T:TypeId} (hg:Blk w0 g T #[.func (.func 61) #[] #[]]) {l:List Prg} (hv: ∀q∈l,q.n=q.l.length∧Vw 4 inC w0 (.slice q.p q.n q.c) q.l) (hl: ∀q∈l,q.n≤1000) (hok: ∀q∈l,∀x∈q.l,x.ok):
  LaD w0 67 #[.pointer (some ⟨g,0,none⟩)] (fun x:Prg=>Value.slice x.p x.n x.c) (fun q:Prg=>abK aRU q.l) l:=
 ⟨fun vs W=>Tryz.call67 vs W,fun q hq W v b ho hb hb2=>aU1 ho hb hg (hv q hq).2 (hv q hq).1 (hl q hq) (hok q hq) hb2⟩
theorem aV2 {w0:World} {g:Nat} {T:TypeId} (hg:Blk w0 g T #[.func (.func 63) #[] #[]]) {l:List LpR} (hv: ∀q∈l,q.n=q.l.length∧Vw 1 wdC w0 (.slice q.p q.n q.c) q.l) (hl: ∀q∈l,q.n≤1000) (hok: ∀q∈l,okZ q.k∧ ∀x∈q.l,okZ x):
  LaD w0 70 #[.pointer (some ⟨g,0,none⟩)] (fun x:LpR=>Value.agg #[.int .i64 x.k,.slice x.p x.n x.c]) aS9 l:=
 ⟨fun vs W=>Tryz.call70 vs W,fun q hq W v b ho hb hb2=>aVS ho hb hg (hv q hq).2 (hv q hq).1 (hl q hq) (hok q hq).1 (hok q hq).2 hb2⟩
theorem aVL {w0:World} {l:List Ini} (h: ∀x∈l,x.ok):LaD w0 73 #[] (fun x:Ini=>Value.agg #[.float .f64 x.t,.int .i64 x.dst,.int .i64 x.pay]) aRT l:=
 ⟨fun vs W=>Tryz.call73 vs W,fun x hx W v b ho hb hl=>aVt ho hb.size (h x hx) (by rw[aTj]at hl;omega)⟩
theorem aVm (hm:qZ W x) (hx:x.nice):
  Calls Tryz.prog 29 #[.agg (mdC x).toArray] W fun r w'=>r= .returned (.tuple #[.string (S (if yM x.m=true then aTe x.m else [])),.int .i64 (if yM x.m=true then 0 else 15)])∧Below W.heap.size W w':=by
 obtain⟨q1,q2,q3,q4,q5,q6⟩:=hx.qn hm
 obtain⟨W1,hW1⟩: ∃W1,W1=W.alloc (.cells (mdC x).toArray 29):=⟨_,rfl⟩
 have hb1:Below W.heap.size W W1:=by rw[hW1];exact(Below.refl _ W).alloc (Nat.le_refl _) _
 have hB1:=MdB.new hm
 rw[←hW1]at hB1
 have HCK:=hid (abN (W:=W1) hB1.2 q1 q2 q3 q4 q5)
 have HH:=hid (⟨hB1,hb1,hx,q1,q2,q3,q4,q5,q6⟩:_∧_∧_∧_∧_∧_∧_∧_∧_)
 have HW1:=hid hW1
 have k0:W1.cell? ⟨W.heap.size,0,none⟩=some (.int .i64 x.seed):=hB1.1.cell 0
 have k1:W1.cell? ⟨W.heap.size,1,none⟩=some (.float .f64 x.en):=hB1.1.cell 1
 have k2:W1.cell? ⟨W.heap.size,2,none⟩=some (.slice x.dp x.dn x.dc):=hB1.1.cell 2
 have k3:W1.cell? ⟨W.heap.size,3,none⟩=some (.slice x.pp x.pn x.pc):=hB1.1.cell 3
 have k4:W1.cell? ⟨W.heap.size,4,none⟩=some (.slice x.lp x.ln x.lc):=hB1.1.cell 4
 have k5:W1.cell? ⟨W.heap.size,5,none⟩=some (.slice x.ip x.im x.ic):=hB1.1.cell 5
 unfold mdC at HW1 HCK⊢
 clear hm hx hW1 hb1 hB1 q1 q2 q3 q4 q5 q6
 cases hc:yM x.m with
 |false=>
  rw[hc]at HCK
  simp only[Bool.false_eq_true,if_false]at HCK⊢
  clear hc
  go_enter Tryz.func29,Tryz.ntmps29
  go_upto_region 1 with fail
  rw[←HW1.out]
  go_wp2_with ((with_reducible refine HCK.out.mono ?_);rintro r w2 ⟨rfl,hb2⟩)
  go_ret2
  exact⟨rfl,HH.out.2.1.trans (hb2.mono HH.out.2.1.size)⟩
 | true=>
  rw[hc]at HCK
  simp only[if_true]at HCK⊢
  clear hc
  go_enter Tryz.func29,Tryz.ntmps29
  go_upto_region 1 with fail
  rw[←HW1.out]
  go_wp2_with fail
  (with_reducible refine HCK.out.mono ?_)
  rintro r w2 ⟨rfl,hb2⟩
  have HB2:=hid hb2
  clear hb2 k0 k1 k2 k3 k4 k5
  go_upto_region 6 with fail
  obtain⟨W3,hW3⟩: ∃W3,W3=(w2.alloc (.cells #[.func (.func 61) #[] #[]] 119)).alloc (.cells #[.func (.func 63) #[] #[]] 120):=⟨_,rfl⟩
  have hb3:Below w2.heap.size w2 W3:=by rw[hW3];exact((Below.refl _ w2).alloc (Nat.le_refl _) _).alloc (by simp) _
  have hI3:Blk W3 w2.heap.size 119 #[.func (.func 61) #[] #[]]:=by rw[hW3];exact(Blk.new w2 _ _).alloc _
  have hJ3:Blk W3 (w2.heap.size+1) 120 #[.func (.func 63) #[] #[]]:=by
   rw[hW3]
   have:=Blk.new (w2.alloc (.cells #[.func (.func 61) #[] #[]] 119)) 120 #[.func (.func 63) #[] #[]]
   simpa using this
  have hb13:Below W1.heap.size W1 W3:=HB2.out.trans (hb3.mono HB2.out.size)
  have HB3:=hid (⟨HH.out.1.below hb13,HH.out.2.1.trans (hb13.mono HH.out.2.1.size)⟩:MdB W3 W.heap.size x∧Below W.heap.size W W3)
  have HC:Hid (∀W',Below W3.heap.size W3 W'→W'.cell? ⟨W.heap.size,0,none⟩=some (.int .i64 x.seed)∧W'.cell? ⟨W.heap.size,1,none⟩=some (.float .f64 x.en)∧W'.cell? ⟨W.heap.size,2,none⟩=some (.slice x.dp x.dn x.dc)∧W'.cell? ⟨W.heap.size,3,none⟩=some (.slice x.pp x.pn x.pc)∧W'.cell? ⟨W.heap.size,4,none⟩=some (.slice x.lp x.ln x.lc)∧W'.cell? ⟨W.heap.size,5,none⟩=some (.slice x.ip x.im x.ic)):=hid fun W' hb=>(HB3.out.1.below hb).c
  have HD:Hid (Ly W3.heap.size W3 W3.drew):=hid (Ly.of (Z0 (Below.refl _ W3) 1) (Nat.le_refl _))
  have HA:Hid (Ly W3.heap.size W3 (W3.alloc (.cells #[.int .i64 x.seed] 3)).drew):=hid (Ly.alld _ _ _ (Nat.le_refl _))
  have hok:=HH.out.2.2.1.ok
  have HI:Hid (Calls Tryz.prog 62 #[.slice none 0 0,.slice (some ⟨W3.heap.size,0,none⟩) 1 1] (W3.alloc (.cells #[.int .i64 x.seed] 3)).drew (aS6 W3.heap.size (W3.alloc (.cells #[.int .i64 x.seed] 3)).drew (X6 x.seed))):=hid (by
   have:=aTL (l:=[x.seed]) (OB.nil W3.heap.size W3) (Nat.le_refl _) (by simp) (by intro z hz;simp at hz;rw[hz];exact hok.seed) (by simp)
   rw[show []++[x.seed].flatMap X6=X6 x.seed by simp]at this
   exact this)
  have hlen:(aVX x).length≤45000:=by rw[aUK];exact aTz HH.out.2.2.1.lgt
  have HLN:=hid (show 16+(abK agP x.dl).length+(abK (fun q:Prg=>abK aRU q.l) x.ps).length+(abK aS9 x.ls).length+(abK aRT x.is).length≤45000 by
   unfold aVX at hlen
   simp only[List.length_append,aAY,qw]at hlen
   omega)
  have HIJ:=hid (⟨hI3,hJ3⟩:_∧_)
  have HW3:=hid hW3
  rw[←HW3.out]
  clear hW3 hb3 hI3 hJ3 hb13 hok hlen
  refine zB (fun W'=>W'.cell? ⟨W.heap.size,0,none⟩=some (.int .i64 x.seed)∧W'.cell? ⟨W.heap.size,1,none⟩=some (.float .f64 x.en)) 7 (by kernel_rfl) (by obtain⟨z0,z1,_⟩:=HC.out _ HD.out.b;exact⟨z0,z1⟩) (fun hHeld=>?_)
  refine eT 0 hHeld ?_;(try simp only[Act.put,sEa,sEb,sEc]);refine eT 1 hHeld ?_;(try simp only[Act.put,sEa,sEb,sEc]);refine eT 4 hHeld ?_;(try simp only[Act.put,sEa,sEb,sEc]);refine eT 5 hHeld ?_;(try simp only[Act.put,sEa,sEb,sEc]);refine eR 2 (fun K hK=>?_);go_simp;refine hK.out _ _ (by obtain⟨z0,z1,_⟩:=HC.out _ HA.out.b;exact⟨z0,z1⟩) (fun hHeld=>?_);clear hK K;(try simp only[Act.put,sEa,sEb,sEc])
  refine eR 3 (fun K hK=>?_)
  go_simp
  (with_reducible refine HI.out.mono ?_)
  rintro r w4 ⟨v4,rfl,hO4,hl4⟩
  have H4:=hid (⟨hO4,HA.out.trans hl4⟩:OB W3.heap.size w4 v4 (X6 x.seed)∧Ly W3.heap.size W3 w4)
  have HFL:=hid (aS1 (x:=x.en) hO4 H4.out.2.b.size HH.out.2.2.1.ok.en (by simp))
  obtain⟨p4,c4,rfl⟩:=zm hO4
  obtain⟨m4,hm4⟩: ∃m,m=(X6 x.seed).length:=⟨_,rfl⟩
  rw[←hm4]at HFL⊢
  clear hO4 hl4 hm4
  refine hK.out _ _ (by obtain⟨z0,z1,_⟩:=HC.out _ H4.out.2.b;exact⟨z0,z1⟩) (fun hHeld=>?_)
  clear hK K
  (try simp only[Act.put,sEa,sEb,sEc])
  refine eR 6 (fun K hK=>?_)
  go_simp
  (with_reducible refine HFL.out.mono ?_)
  rintro r w5 ⟨v5,rfl,hO5,hl5⟩
  have H5:=hid (⟨hO5,H4.out.2.trans hl5⟩:OB W3.heap.size w5 v5 (X6 x.seed++agP x.en)∧Ly W3.heap.size W3 w5)
  have HL:=hid (aUO (w0:=W3) (aUJ (l:=x.dl) HH.out.2.2.1.ok.dl) hO5 H5.out.2.b HB3.out.1.2.d HB3.out.1.2.dn HH.out.2.2.2.1 (by have:=HLN.out;simp only[List.length_append,aAY,qw];omega))
  obtain⟨p5,c5,rfl⟩:=zm hO5
  obtain⟨m5,hm5⟩: ∃m,m=(X6 x.seed++agP x.en).length:=⟨_,rfl⟩
  rw[←hm5]at HL⊢
  clear hO5 hl5 hm5
  refine hK.out _ _ (by obtain⟨z0,z1,_⟩:=HC.out _ H5.out.2.b;exact⟨z0,z1⟩) (fun hHeld=>?_)
  clear hK K
  (try simp only[Act.put,sEa,sEb,sEc])
  refine eL (fun K hK=>?_);go_simp;refine hK.out _ _ ?_;clear hK K;(try simp only[Act.put,sEa,sEb,sEc])
  clear hHeld
  obtain⟨_,_,k2,_,_,_⟩:=HC.out _ H5.out.2.b
  go_wp2_with fail
  (with_reducible refine HL.out.mono ?_)
  rintro r w6 ⟨v6,rfl,hO6,hl6⟩
  have H6:=hid (⟨hO6,H5.out.2.trans hl6⟩:_∧Ly W3.heap.size W3 w6)
  have HL:=hid (aUS (w0:=W3) (aVj HIJ.out.1 HB3.out.1.2.pi HH.out.2.2.2.2.2.2.2.1 (fun q hq y hy=>HH.out.2.2.1.ok.pr q.l (List.mem_map.2 ⟨q,hq,rfl⟩) y hy)) hO6 H6.out.2.b HB3.out.1.2.p HB3.out.1.2.pn HH.out.2.2.2.2.1 (by have:=HLN.out;simp only[List.length_append,aAY,qw];omega))
  obtain⟨p6,c6,rfl⟩:=zm hO6
  obtain⟨m6,hm6⟩: ∃m,m=(X6 x.seed++agP x.en++abK agP x.dl).length:=⟨_,rfl⟩
  rw[←hm6]at HL⊢
  clear hO6 hl6 hm6 k2
  obtain⟨_,_,_,k3,_,_⟩:=HC.out _ H6.out.2.b
  go_wp2_with fail
  (with_reducible refine HL.out.mono ?_)
  rintro r w7 ⟨v7,rfl,hO7,hl7⟩
  have H7:=hid (⟨hO7,H6.out.2.trans hl7⟩:_∧Ly W3.heap.size W3 w7)
  have HL:=hid (aUQ (w0:=W3) (aV2 HIJ.out.2 HB3.out.1.2.li HH.out.2.2.2.2.2.2.2.2 (fun q hq=>HH.out.2.2.1.ok.lp (q.k,q.l) (List.mem_map.2 ⟨q,hq,rfl⟩))) hO7 H7.out.2.b HB3.out.1.2.l HB3.out.1.2.ln HH.out.2.2.2.2.2.1 (by have:=HLN.out;simp only[List.length_append,aAY,qw];omega))
  obtain⟨p7,c7,rfl⟩:=zm hO7
  obtain⟨m7,hm7⟩: ∃m,m=(X6 x.seed++agP x.en++abK agP x.dl++abK (fun q:Prg=>abK aRU q.l) x.ps).length:=⟨_,rfl⟩
  rw[←hm7]at HL⊢
  clear hO7 hl7 hm7 k3
  obtain⟨_,_,_,_,k4,_⟩:=HC.out _ H7.out.2.b
  go_wp2_with fail
  (with_reducible refine HL.out.mono ?_)
  rintro r w8 ⟨v8,rfl,hO8,hl8⟩
  have H8:=hid (⟨hO8,H7.out.2.trans hl8⟩:_∧Ly W3.heap.size W3 w8)
  have HL:=hid (aUP (w0:=W3) (l:=x.is) (aVL (l:=x.is) HH.out.2.2.1.ok.ini) hO8 H8.out.2.b HB3.out.1.2.i HB3.out.1.2.im HH.out.2.2.2.2.2.2.1 (by have:=HLN.out;simp only[List.length_append,aAY,qw];omega))
  obtain⟨p8,c8,rfl⟩:=zm hO8
  obtain⟨m8,hm8⟩: ∃m,m=(X6 x.seed++agP x.en++abK agP x.dl++abK (fun q:Prg=>abK aRU q.l) x.ps++abK aS9 x.ls).length:=⟨_,rfl⟩
  rw[←hm8]at HL⊢
  clear hO8 hl8 hm8 k4
  obtain⟨_,_,_,_,_,k5⟩:=HC.out _ H8.out.2.b
  go_wp2_with fail
  (with_reducible refine HL.out.mono ?_)
  rintro r w9 ⟨v9,rfl,hO9,hl9⟩
  have hconv:=Xj hO9
  have HF:Hid (Below W.heap.size W w9):=hid (HB3.out.2.trans ((H8.out.2.b.trans hl9.b).mono HB3.out.2.size))
  have HV:Hid (aVX x=aTe x.m):=hid (aUK x)
  obtain⟨p9,c9,rfl⟩:=zm hO9
  change (convert _ _ (Value.slice p9 _ c9)).run _ _=Result.ok (Value.string (S (aVX x))) _ at hconv
  rw[HV.out]at hconv
  obtain⟨m9,hm9⟩: ∃m,m=(X6 x.seed++agP x.en++abK agP x.dl++abK (fun q:Prg=>abK aRU q.l) x.ps++abK aS9 x.ls++abK aRT x.is).length:=⟨_,rfl⟩
  rw[←hm9]at hconv⊢
  clear hO9 hl9 k5 hm9
  go_wp2
  go_ret2
  exact⟨rfl,HF.out⟩
end
end
section
open Go.RowKit Go.Lib
structure Far (B:Nat) (o:Option Nat) (w:World) (p:World→Prop):Prop where
 any: ∀w',w.heap.size≤w'.heap.size→(∀b,B≤b→b<w.heap.size→some b≠o→w'.heap[b]? =w.heap[b]?)→p w'
section
variable {B B':Nat} {o o':Option Nat} {w w':World} {p q:World→Prop}
theorem Far.to (h:Far B o w p) (hs:w.heap.size≤w'.heap.size) (hb: ∀b,B≤b→b<w.heap.size→some b≠o→w'.heap[b]? =w.heap[b]?) (ho:o'=o∨ ∀b,b<w.heap.size→some b≠o'):Far B o' w' p:=
 ⟨fun w2 hs2 hb2=>h.any w2 (Nat.le_trans hs hs2) fun b h1 h2 h3=>(hb2 b h1 (Nat.lt_of_lt_of_le h2 hs) (by
  rcases ho with rfl|ho
  ·exact h3
  ·exact ho b h2)).trans (hb b h1 h2 h3)⟩
theorem Far.below (h:Far B o w p) (hb:Below w.heap.size w w'):Far B o w' p:=h.to hb.size (fun b _ h2 _=>hb.block b h2) (.inl rfl)
theorem Far.and (h:Far B o w p) (k:Far B o w q):Far B o w fun w=>p w∧q w:=⟨fun w' hs hb=>⟨h.any w' hs hb,k.any w' hs hb⟩⟩
theorem Far.imp (h:Far B o w p) (k: ∀w,p w→q w):Far B o w q:=⟨fun w' hs hb=>k _ (h.any w' hs hb)⟩
theorem Far.of (h: ∀w',w.heap.size≤w'.heap.size→(∀b,B'≤b→b<w.heap.size→w'.heap[b]? =w.heap[b]?)→p w') (hB:B≤B') (ho: ∀g,o=some g→g<B'):Far B o w p:=
 ⟨fun w' hs hb=>h w' hs fun b h1 h2=>hb b (Nat.le_trans hB h1) h2 fun e=>by have:=ho b e.symm;omega⟩
theorem Far.app {v v':Value} (h:Far B v.ownBlock w p) (hk:Kp v.ownBlock.toList w w') (hv: ∀g,v'.ownBlock=some g→v.ownBlock=some g∨w.heap.size≤g):Far B v'.ownBlock w' p:=by
 refine h.to hk.size (fun b _ h2 h3=>hk.block b h2 fun hm=>h3 ?_) ?_
 ·exact(Option.mem_toList.1 hm).symm
 ·cases e:v'.ownBlock with
  |none=>exact .inr fun b _=>by simp
  | some g=>
   rcases hv g e with h1|h1
   ·exact .inl h1.symm
   ·refine .inr fun b hb he=>?_
    injection he with he
    omega
end
structure PaI (T:TypeId) (W1:World) (ob:Nat) (s:ScV) (w:World):Prop where
 bw:Below W1.heap.size W1 w
 bo:Blk w ob T (scC s).toArray
 lo:W1.heap.size≤ob
 row:w.ownsRow (ob+1) 53 5 (.slice s.ap s.an s.ac) s.an (yv acC s.ats)
 an:s.an=s.ats.length
 kp:Far (ob+1) (Value.slice s.ap s.an s.ac).ownBlock w fun w=>qZ w s.x∧ ∀a∈s.ats,acd w a
section
variable {T:TypeId} {W1 w w':World} {ob:Nat} {s:ScV}
theorem PaI.below (h:PaI T W1 ob s w) (hb:Below w.heap.size w w'):PaI T W1 ob s w':=
 ⟨h.bw.trans (hb.mono h.bw.size),h.bo.below hb h.bo.lt,h.lo,xN h.row fun b hb'=>hb.block b (h.row.lt b hb').2,h.an,h.kp.below hb⟩
theorem PaI.fin (h:PaI T W1 ob s w) {r:Nat} (hr:r<W1.heap.size) (hs:w.heap.size≤w'.heap.size) (hb: ∀b,b≠r→w'.heap[b]? =w.heap[b]?):aci w' s:=by
 have hl:=h.lo
 have hk:=h.kp.any w' hs fun b h1 _ _=>hb b (by omega)
 exact⟨hk.1,.of_own J0 (xN h.row fun b e=>hb b (by have:=(h.row.lt b e).1;omega)) h.an,h.an,hk.2⟩
theorem PaI.head (h:PaI T W1 ob s w) {w1:World} {sec fr:Int} {y:MdV} (hy:MdF w.heap.size w1 y) (hb:Below w.heap.size w w1): ∃wz,wz=za w1 ob 0 (scC ⟨sec,fr,y,none,0,0,[]⟩)∧PaI T W1 ob ⟨sec,fr,y,none,0,0,[]⟩ wz:=by
 have h1:=h.below hb
 have hob:=h.bo.lt
 obtain⟨wz,hwz,hbz,hfz,hoz⟩:=zS h1.bw h1.bo h.lo (scC ⟨sec,fr,y,none,0,0,[]⟩) rfl
 refine⟨wz,hwz,hfz,hbz,h.lo,qI _ _ _ _,rfl,.of (B':=w.heap.size) (fun w' hs hk=>⟨hy w' fun b e1 e2=>(hk b e1 (by rw[hwz,xO];exact e2)).trans (hoz b (by omega)),fun a ha=>by cases ha⟩) (by omega) (fun g hg=>by cases hg)⟩
theorem PaI.acts (h:PaI T W1 ob s w) {w1 w2:World} {a:AcV} {p:Option Addr} {c:Nat} (ha:AcF w.heap.size w1 a) (hb:Below w.heap.size w w1)
  (ho:w2.ownsRow (ob+1) 53 5 (.slice p (s.an+1) c) (s.an+1) (yv acC (s.ats++[a]))) (hk:Kp (Value.slice s.ap s.an s.ac).ownBlock.toList w1 w2) (hv: ∀g,(Value.slice p (s.an+1) c).ownBlock=some g→(Value.slice s.ap s.an s.ac).ownBlock=some g∨w1.heap.size≤g) (hT:T≠53):
  Blk w2 ob T (scC s).toArray∧PaI T W1 ob { s with ap:=p,an:=s.an+1,ac:=c,ats:=s.ats++[a] } (w2.setCell ⟨ob,8,none⟩ (.slice p (s.an+1) c)):=by
 have h1:=h.below hb
 have hg: ∀g,(Value.slice s.ap s.an s.ac).ownBlock=some g→ob<g∧g<w.heap.size:=fun g hg=>by have:=h.row.lt g hg;omega
 have hbo:Blk w2 ob T (scC s).toArray:=h1.bo.kp hk fun hm=>by have:=(hg ob (Option.mem_toList.1 hm)).1;omega
 have hob2: ∀g,(Value.slice p (s.an+1) c).ownBlock=some g→g≠ob:=fun g e=>by have:=(ho.lt g e).1;omega
 have hkeep:Far (ob+1) (Value.slice s.ap s.an s.ac).ownBlock w1 fun w=>(qZ w s.x∧ ∀a∈s.ats,acd w a)∧acd w a:=
  h1.kp.and (.of (B':=w.heap.size) (fun w' hs hk=>⟨ha.n,(ha.k.any w' hs hk)⟩) (by have:=h.bo.lt;omega) fun g e=>(hg g e).2)
 refine⟨hbo,?_,?_,h.lo,?_,by rw[List.length_append,←h.an];rfl,?_⟩
 ·have hb2:Below W1.heap.size W1 w2:=h1.bw.trans (hk.to_below h1.bw.size fun x hx=>by have:=(hg x (Option.mem_toList.1 hx)).1;have:=h.lo;omega)
  exact⟨hb2.os,hb2.tape,hb2.output,by simpa[World.setCell]using hb2.size,fun k hk=>(Below.heap_setCell _ _ _ _ (by have:=h.lo;simp;omega)).trans (hb2.block k hk)⟩
 ·exact hbo.set_ 8 _
 ·exact xN ho fun b e=>Below.heap_setCell _ _ _ _ (hob2 b e)
 ·refine((hkeep.app (v':= .slice p (s.an+1) c) hk hv).to (by simp[World.setCell]) (fun b e1 _ _=>Below.heap_setCell _ _ _ _ (by simp;omega)) (.inl rfl)).imp fun w' hw=>⟨hw.1.1,fun x hx=>?_⟩
  rcases List.mem_append.1 hx with hx|hx
  ·exact hw.1.2 x hx
  ·rw[List.mem_singleton.1 hx];exact hw.2
end
theorem PaI.new {T:TypeId} (W1:World) {w:World} {ob:Nat} (hb:Below W1.heap.size W1 w) (hB:Blk w ob T (scC scZ).toArray) (lo:W1.heap.size≤ob):PaI T W1 ob scZ w:=
 ⟨hb,hB,lo,qI _ _ _ _,rfl,⟨fun w' _ _=>⟨qS _,fun a ha=>by cases ha⟩⟩⟩
def PaP (W:World) (pr:PR) (e:Ending) (w':World):Prop:= ∃(s:ScV) (i ee:Int),e= .returned (.tuple #[.agg (scC s).toArray,.int .i64 i,.int .i64 ee])∧aCx pr s.s i ee∧aci w' s∧Below W.heap.size W w'
theorem agU {n i:Nat} {st:Option Scr} {ls:List Bs} (h:ls[i]? =none):goL n i st (ls.drop i)=match st with
  |none=> .line n
  |some s=> .ok s:=by
 rw[List.drop_of_length_le (List.getElem?_eq_none_iff.1 h)]
 cases st<;>rfl
def kQ (n i:Nat) (st:Option Scr) (ws r:List Bs):PR:=match st with
 |none=>(match yg ws with
  |none=> .line i
  |some h=>goL n (i+1) (some h) r)
 |some s=>(match xD ws with
  |none=> .line i
  |some a=>goL n (i+1) (some { s with acts:=s.acts++[a] }) r)
theorem aa6 {n i:Nat} {ws r:List Bs} (h:yg ws=none):kQ n i none ws r= .line i:=by
 unfold kQ
 rw[h]
theorem aa7 {n i:Nat} {ws r:List Bs} {x:Scr} (h:yg ws=some x):kQ n i none ws r=goL n (i+1) (some x) r:=by
 unfold kQ
 rw[h]
theorem aa4 {n i:Nat} {s:Scr} {ws r:List Bs} (h:xD ws=none):kQ n i (some s) ws r= .line i:=by
 unfold kQ
 rw[h]
theorem aa5 {n i:Nat} {s:Scr} {ws r:List Bs} {a:Ac} (h:xD ws=some a):kQ n i (some s) ws r=goL n (i+1) (some { s with acts:=s.acts++[a] }) r:=by
 unfold kQ
 rw[h]
theorem anT {n i:Nat} {st:Option Scr} {ls:List Bs} {l:Bs} (h:ls[i]? =some l):goL n i st (ls.drop i)=(if l=[]then goL n (i+1) st (ls.drop (i+1))
  else if []∈zv 32 l then .line i else kQ n i st (zv 32 l) (ls.drop (i+1))):=by
 have e1:ls.drop i=l::ls.drop (i+1):=by
  obtain⟨hlt,e⟩:=List.getElem?_eq_some_iff.1 h
  rw[←e]
  exact List.drop_eq_getElem_cons hlt
 rw[e1,X8]
 cases st<;>rfl
theorem QP (l:List Bs):(l.any List.isEmpty=true)=([]∈l):=by
 rw[List.any_eq_true]
 exact propext ⟨fun ⟨x,h1,h2⟩=>by rw[List.isEmpty_iff.1 h2]at h1;exact h1,fun h=>⟨[],h,rfl⟩⟩
end
section
open Go.RowKit Go.Lib
theorem agd {m:Mdl} (h:yM m=true):m.lgt:=by
 unfold yM X1 at h
 simp only[Bool.and_eq_true,decide_eq_true_eq,List.all_eq_true]at h
 obtain⟨⟨h1,_⟩,_,h2,h3,_⟩:=h
 refine⟨by omega,by omega,by omega,by omega,fun p hp=>?_,fun x hx=>?_⟩
 ·have:=h2 p hp
  unfold xf at this
  simp only[Bool.and_eq_true,decide_eq_true_eq]at this
  omega
 ·have:=h3 x hx
  unfold lpB at this
  simp only[decide_eq_true_eq]at this
  omega
theorem ajw {W:World} {x:ScV} (hx:aci W x) (h:x.s.good) (ha:x.ats.length≤100000):ScS x:=by
 obtain⟨q1,q2,q3,q4,q5,q6⟩:=MdV.nice.qn (⟨h.gm,agd h.gc⟩:x.x.nice) hx.m
 exact⟨q1,q2,q3,q4,q5,q6,by rw[hx.an];exact ha⟩
theorem ajx {W:World} {x:ScV} (hx:aci W x) (h:x.s=scZ.s):ScS x:=by
 have hm:x.x.m=mdZ.m:=congrArg Scr.m h
 have ha:x.ats.map AcV.ac=[]:=congrArg Scr.acts h
 have hd:x.x.dl=[]:=congrArg Mdl.dl hm
 have hp:x.x.ps.map Prg.l=[]:=congrArg Mdl.pr hm
 have hl:(x.x.ls.map fun q=>(q.k,q.l))=[]:=congrArg Mdl.lp hm
 have hi:x.x.is=[]:=congrArg Mdl.ini hm
 have ha:=List.map_eq_nil_iff.1 ha
 have hp:=List.map_eq_nil_iff.1 hp
 have hl:=List.map_eq_nil_iff.1 hl
 exact⟨by rw[hx.m.dn,hd];exact Nat.zero_le _,by rw[hx.m.pn,hp];exact Nat.zero_le _,by rw[hx.m.ln,hl];exact Nat.zero_le _,by rw[hx.m.im,hi];exact Nat.zero_le _,(fun q hq=>by rw[hp]at hq;cases hq),(fun q hq=>by rw[hl]at hq;cases hq),by rw[hx.an,ha];exact Nat.zero_le _⟩
theorem abx {ws:List Bs} {s:Scr} (h:yg ws=some s):s.acts=[]:=by
 unfold yg at h
 split at h
 ·split at h
  ·split at h
   ·injection h with h;subst h;rfl
   ·cases h
  ·cases h
 ·cases h
theorem aA8 {n:Nat} {l:List Bs} : ∀ {i:Nat} {st:Option Scr} {x:Scr} {k:Nat},(∀s,st=some s→s.acts.length≤k)→goL n i st l= .ok x→x.acts.length≤k+l.length:=by
 induction l with
 |nil=>
  intro i st x k hs h
  cases st with
  |none=>simp[goL]at h
  |some s=>unfold goL at h;injection h with h;subst h;exact hs _ rfl
 | cons p r ih=>
  intro i st x k hs h
  rw[X8]at h
  rw[List.length_cons]
  split at h
  ·have:=ih hs h;omega
  ·split at h
   ·cases h
   ·cases st with
    | none=>
     simp only[]at h
     split at h
     ·cases h
     ·next e=>
      have:=ih (k:=k) (fun s e'=>by injection e' with e';subst e';rw[abx e];exact Nat.zero_le _) h
      omega
    | some s=>
     simp only[]at h
     split at h
     ·cases h
     ·next e=>
      have:=ih (k:=k+1) (fun s' e'=>by
       injection e' with e'
       subst e'
       have g:=hs s rfl
       simp
       exact g) h
      omega
theorem ahu {t:Bs} {x:Scr} (h:qW t= .ok x):x.acts.length≤1024:=by
 unfold qW at h
 split at h
 ·cases h
 ·have:=aA8 (k:=0) (fun s e=>by cases e) h
  omega
theorem aaQ {W:World} {t:Bs} {x:ScV} {i e:Int} (hx:aci W x) (h:aCx (qW t) x.s i e):ScS x∧ ∀a∈x.ats,okA a.ac=true:=by
 have zero:x.s=scZ.s→ScS x∧ ∀a∈x.ats,okA a.ac=true:=fun hz=>⟨ajx hx hz,fun a hm=>by
  have h1:x.ats.map AcV.ac=[]:=congrArg Scr.acts hz
  rw[List.map_eq_nil_iff.1 h1]at hm
  cases hm⟩
 cases hp:qW t with
 |full=>rw[hp]at h;exact zero h.2.2
 |line n=>rw[hp]at h;exact zero h.2.2
 |ok y=>
  rw[hp]at h
  have hg:=abS hp
  rw[←h.2.2]at hg
  have hl:=ahu hp
  rw[←h.2.2]at hl
  have hl:(x.ats.map AcV.ac).length≤1024:=hl
  rw[List.length_map]at hl
  exact⟨ajw hx hg (by omega),fun a hm=>List.all_eq_true.1 hg.ga a.ac (List.mem_map.2 ⟨a,hm,rfl⟩)⟩
theorem aBU (sec fr sd:Int) (en:Nat) (dp:Option Addr) (dn dc:Nat) (pp:Option Addr) (pn pc:Nat) (lp:Option Addr) (ln lc:Nat) (ip:Option Addr) (im ic:Nat) (ap:Option Addr) (an ac:Nat) (W:World):
  Calls Tryz.prog 10 #[.agg #[.int .i64 sec,.int .i64 fr,.int .i64 sd,.float .f64 en,.slice dp dn dc,.slice pp pn pc,.slice lp ln lc,.slice ip im ic,.slice ap an ac]] W fun r w'=>r= .returned (.agg #[.int .i64 sec,.int .i64 fr,.int .i64 sd,.float .f64 en,.slice dp dn dc,.slice pp pn pc,.slice lp ln lc,.slice ip im ic,.slice ap an ac])∧Below W.heap.size W w':=by
 obtain⟨xb,hxb⟩: ∃k,k=W.heap.size:=⟨_,rfl⟩
 obtain⟨r0,hr0⟩: ∃k,k=W.heap.size+1:=⟨_,rfl⟩
 obtain⟨w1,hw1⟩: ∃w,w=(W.alloc (.cells #[.int .i64 sec,.int .i64 fr,.int .i64 sd,.float .f64 en,.slice dp dn dc,.slice pp pn pc,.slice lp ln lc,.slice ip im ic,.slice ap an ac] 32)).alloc (.cells #[.int .i64 0,.int .i64 0,.int .i64 0,.float .f64 0,.slice none 0 0,.slice none 0 0,.slice none 0 0,.slice none 0 0,.slice none 0 0] 36):=⟨_,rfl⟩
 have hX:Blk w1 xb 32 #[.int .i64 sec,.int .i64 fr,.int .i64 sd,.float .f64 en,.slice dp dn dc,.slice pp pn pc,.slice lp ln lc,.slice ip im ic,.slice ap an ac]:=by rw[hw1,hxb];exact(Blk.new _ _ _).alloc _
 have hR:Blk w1 r0 36 #[.int .i64 0,.int .i64 0,.int .i64 0,.float .f64 0,.slice none 0 0,.slice none 0 0,.slice none 0 0,.slice none 0 0,.slice none 0 0]:=by
  have:=Blk.new (W.alloc (.cells #[.int .i64 sec,.int .i64 fr,.int .i64 sd,.float .f64 en,.slice dp dn dc,.slice pp pn pc,.slice lp ln lc,.slice ip im ic,.slice ap an ac] 32)) 36 #[.int .i64 0,.int .i64 0,.int .i64 0,.float .f64 0,.slice none 0 0,.slice none 0 0,.slice none 0 0,.slice none 0 0,.slice none 0 0]
  rw[World.size_alloc]at this
  rw[hw1,hr0]
  exact this
 have hb:Below W.heap.size W w1:=by rw[hw1];exact((Below.refl _ W).alloc (Nat.le_refl _) _).alloc (by simp) _
 obtain⟨x0,x1,x2,x3,x4,x5,x6,x7,x8⟩:=zZ hX
 obtain⟨z0,z1,z2,z3,z4,z5,z6,z7,z8⟩:=zZ hR
 obtain⟨y0,y1,y2,y3,y4,y5,y6,y7,y8,zlt⟩:=yA hR
 obtain⟨wz,hwz,hbz,hfz,-⟩:=zS hb hR (by omega) [.int .i64 sec,.int .i64 fr,.int .i64 sd,.float .f64 en,.slice dp dn dc,.slice pp pn pc,.slice lp ln lc,.slice ip im ic,.slice ap an ac] rfl
 have HW:=hid (⟨hxb,hr0,hw1⟩:_∧_∧_)
 unfold za za za za za za za za za za at hwz
 have HZ:=hid (⟨hwz,hbz,hfz⟩:_∧_∧_)
 clear hxb hr0 hw1 hX hR hb hwz hbz hfz
 go_enter Tryz.func10,Tryz.ntmps10
 go_upto_region 1 with fail
 rw[←HW.out.2.1,←HW.out.1,←HW.out.2.2]
 go_wp2
 rw[←HZ.out.1]
 obtain⟨v0,v1,v2,v3,v4,v5,v6,v7,v8⟩:=zZ HZ.out.2.1
 refine bodyPost_ret (v:= .agg #[.int .i64 sec,.int .i64 fr,.int .i64 sd,.float .f64 en,.slice dp dn dc,.slice pp pn pc,.slice lp ln lc,.slice ip im ic,.slice ap an ac]) (by simp[results,Tryz.results10,go_sem,v0,v1,v2,v3,v4,v5,v6,v7,v8]) rfl ⟨rfl,HZ.out.2.2⟩
end
section
open Go.RowKit Go.Lib
theorem anX:(Tryz.prog.info? 53).map (fun i=>(i.zero,i.size,i.bytes))=some (some (.agg #[.int .i64 0,.int .i64 0,.slice none 0 0,.int .i64 0,.int .i64 0]),5,56):=by kernel_rfl
theorem ab6 (s:Bs) (hs:s.length≤250000) (hq:(zv 10 s).length≤100000) (hm: ∀l∈zv 10 s,l.length≤45000) (W:World):Calls Tryz.prog 7 #[.string (S s)] W (PaP W (qW s)):=by
 obtain⟨ls,hls⟩: ∃ls,ls=zv 10 s:=⟨_,rfl⟩
 obtain⟨pr,hpr⟩: ∃pr,pr=qW s:=⟨_,rfl⟩
 have HPR:Hid (pr=if 1024<ls.length then .full else goL ls.length 0 none ls):=hid (by rw[hpr,hls];rfl)
 have HL:Hid ((∀l∈ls,l.length≤45000)∧ls≠[]):=hid ⟨fun l hl=>hm l (hls▸hl),by rw[hls];exact jq _ _⟩
 obtain⟨r0,hr0⟩: ∃n,n=W.heap.size:=⟨_,rfl⟩
 obtain⟨W0,hW0⟩: ∃W0,W0=W.alloc (.cells #[.int .i64 0,.int .i64 0,.int .i64 0,.float .f64 0,.slice none 0 0,.slice none 0 0,.slice none 0 0,.slice none 0 0,.slice none 0 0] 32):=⟨_,rfl⟩
 have HP:Hid (Calls Tryz.prog 18 #[.string (S s),.int .u8 10] W0 fun e w'=> ∃p n k,e= .returned (.slice p n k)∧n=ls.length∧Vw 1 jQ w' (.slice p n k) ls∧Below W0.heap.size W0 w'):=hid (by rw[hls];exact JM s 10 hs hq W0)
 have HB0:Hid (Below W.heap.size W W0∧Blk W0 r0 32 #[.int .i64 0,.int .i64 0,.int .i64 0,.float .f64 0,.slice none 0 0,.slice none 0 0,.slice none 0 0,.slice none 0 0,.slice none 0 0]):=hid ⟨by rw[hW0];exact(Below.refl _ W).alloc (Nat.le_refl _) _,by rw[hW0,hr0];exact Blk.new W _ _⟩
 have HR0:=hid hr0
 have HW0:=hid hW0
 rw[←hpr]
 clear hpr hls hs hq hm hr0 hW0
 go_enter Tryz.func7,Tryz.ntmps7
 go_wp2
 rw[←HW0.out,←HR0.out]
 go_step3
 go_wp2_with fail
 (with_reducible refine HP.out.mono ?_)
 rintro e W1 ⟨lp,n,lk,rfl,hn,hv,hb⟩
 have HRT:Hid (∀w,Below W1.heap.size W1 w→Below W.heap.size W w∧Blk w r0 32 #[.int .i64 0,.int .i64 0,.int .i64 0,.float .f64 0,.slice none 0 0,.slice none 0 0,.slice none 0 0,.slice none 0 0,.slice none 0 0]):=hid fun w h=>by
  have h1:=hb.trans (h.mono hb.size)
  exact⟨HB0.out.1.trans (h1.mono HB0.out.1.size),HB0.out.2.below h1 HB0.out.2.lt⟩
 obtain⟨gb,off,lc,e1,e2,e3,e4⟩:=hv.ex HL.out.2
 injection e1 with e1 e5 e6
 subst e1 e6
 have HC:Hid (∀W',Below W1.heap.size W1 W'→ ∀i x,ls[i]? =some x→W'.cell? ⟨gb,off+i,none⟩=some (.string (S x))):=hid fun W' hb i x hx=>by
  have:=e4 i x hx 0 (.string (S x)) rfl
  rw[←this]
  simpa using World.cell?_of_block (hb.block gb e3)
 have HN:=hid hn
 clear hv hb e2 e3 e4 e5 hn HP
 by_cases hf:1024<n
 ·have HF:Hid (PR.full=pr):=hid (by rw[HPR.out,←HN.out,if_pos hf])
  have hfz:1024<(n:Int):=by omega
  obtain⟨hbw,hbr⟩:=HRT.out W1 (Below.refl _ _)
  obtain⟨z0,z1,z2,z3,z4,z5,z6,z7,z8⟩:=zZ hbr
  obtain⟨y0,y1,y2,y3,y4,y5,y6,y7,y8,zlt⟩:=yA hbr
  obtain⟨wz,hwz,hbz,hfz,hoz⟩:=zS hbw hbr (by rw[HR0.out];exact Nat.le_refl _) [.int .i64 0,.int .i64 0,.int .i64 0,.float .f64 0,.slice none 0 0,.slice none 0 0,.slice none 0 0,.slice none 0 0,.slice none 0 0] rfl
  unfold za za za za za za za za za za at hwz
  have HZ:=hid (⟨hwz,hbz,hfz,hoz⟩:_∧_∧_∧_)
  clear hwz hbz hfz hoz hbw hbr
  go_wp2
  rw[←HZ.out.1]
  obtain⟨v0,v1,v2,v3,v4,v5,v6,v7,v8⟩:=zZ HZ.out.2.1
  refine bodyPost_ret (v:= .tuple #[.agg #[.int .i64 0,.int .i64 0,.int .i64 0,.float .f64 0,.slice none 0 0,.slice none 0 0,.slice none 0 0,.slice none 0 0,.slice none 0 0],.int .i64 0,.int .i64 11]) (by simp[results,Tryz.results7,go_sem,v0,v1,v2,v3,v4,v5,v6,v7,v8]) rfl ?_
  exact⟨scZ,_,_,rfl,by rw[←HF.out];exact⟨rfl,rfl,rfl⟩,jW _,HZ.out.2.2.1⟩
 ·have HG:Hid (goL n 0 none (ls.drop 0)=pr):=hid (by rw[HPR.out,HN.out,if_neg (by rw[←HN.out];exact hf)];rfl)
  have hfz:(n:Int)≤1024:=by omega
  obtain⟨ob,hob⟩: ∃k,k=W1.heap.size:=⟨_,rfl⟩
  obtain⟨wa,hwa⟩: ∃w,w=W1.alloc (.cells #[.int .i64 0,.int .i64 0,.int .i64 0,.float .f64 0,.slice none 0 0,.slice none 0 0,.slice none 0 0,.slice none 0 0,.slice none 0 0] 32):=⟨_,rfl⟩
  have HI0:Hid (PaI 32 W1 ob scZ wa):=hid (.new W1 (by rw[hwa];exact(Below.refl _ _).alloc (Nat.le_refl _) _) (by rw[hwa,hob];exact Blk.new W1 _ _) (by omega))
  have HWA:=hid (⟨hob,hwa⟩:_∧_)
  clear hf hob hwa
  go_wp2
  rw[←HWA.out.1,←HWA.out.2]
  go_step3
  go_wp2
  go_loopg [7,21] n (fun gg s7 s21 wr=> ∃(i:Nat) (st:Option Scr) (sv:ScV),i≤n∧n-i≤gg∧s7= .bool st.isSome∧s21= .int .i64 i∧Hid (PaI 32 W1 ob sv wr)∧Hid (goL n i st (ls.drop i)=pr)∧Hid (∀x,st=some x→sv.s=x)∧sv.an≤i)
  case atStart=>exact⟨0,none,scZ,by omega,by omega,rfl,rfl,HI0,HG,hid fun x hx=>(by cases hx),Nat.le_refl _⟩
  case round=>
   obtain⟨i,st,sv,hi,hgg,rfl,rfl,HI,HG,HS,hani⟩:=hrel
   by_cases hj:i<n
   ·have hjz:(i:Int)<(n:Int):=by omega
    obtain⟨l,hl⟩: ∃x,ls[i]? =some x:=⟨_,List.getElem?_eq_getElem (by rw[←HN.out];exact hj)⟩
    have hc:=HC.out wr HI.out.bw i l hl
    have HGL:=hid (HG.out.symm.trans (anT hl)).symm
    have HLL:=hid (HL.out.1 l (List.mem_of_getElem? hl))
    have HJ:=hid hj
    clear hl
    cases hle:l.isEmpty with
    |true=>
     have HG2:Hid (goL n (i+1) st (ls.drop (i+1))=pr):=hid (by rw[←HGL.out,if_pos (List.isEmpty_iff.1 hle)])
     go_wp2
     go_roundg (n- (i+1))
     case measure=>omega
     case rel=>exact⟨i+1,st,sv,by have:=HJ.out;omega,by omega,rfl,by go_num,HI,HG2,HS,by omega⟩
    | false=>
     have hl0:l≠[]:=fun e=>by rw[e]at hle;cases hle
     have HGL:Hid ((if []∈zv 32 l then PR.line i else kQ n i st (zv 32 l) (ls.drop (i+1)))=pr):=hid (by rw[←HGL.out,if_neg hl0])
     obtain⟨ws,hws⟩: ∃ws,ws=zv 32 l:=⟨_,rfl⟩
     have HPS:Hid (Calls Tryz.prog 18 #[.string (S l),.int .u8 32] wr fun e w'=> ∃p n k,e= .returned (.slice p n k)∧n=ws.length∧Vw 1 jQ w' (.slice p n k) ws∧Below wr.heap.size wr w'):=hid (by rw[hws];exact ah9 l 32 (by have:=HLL.out;omega) wr)
     have HWS:Hid (ws≠[]∧ws.length≤90001∧ ∀x∈ws,x.length≤90000):=hid ⟨by rw[hws];exact jq _ _,by have:=xz 32 l;have:=HLL.out;rw[hws];omega,fun x hx=>by have:=jH (hws▸hx);have:=HLL.out;omega⟩
     rw[←hws]at HGL
     clear hws hl0
     go_wp2_with fail
     (with_reducible refine HPS.out.mono ?_)
     rintro e w2 ⟨wp,wn,wk,rfl,hwn,hwv,hb2⟩
     have HV:=hid (⟨hwn,hwv⟩:_∧_)
     have HI:=hid (HI.out.below hb2)
     clear hwn hwv hb2 HPS hc
     have HCT:Hid (Calls Tryz.prog 19 #[.slice wp wn wk,.string ⟨#[]⟩] w2 fun e w'=>e= .returned (.bool (ws.any List.isEmpty))∧w2=w'):=hid (QB ws wp wn wk HV.out.1 HWS.out.1 HWS.out.2.1 w2 HV.out.2)
     obtain⟨ae,hae⟩: ∃b,b=ws.any List.isEmpty:=⟨_,rfl⟩
     rw[←hae]at HCT
     have HAE:Hid (ae=true↔[]∈ws):=hid (by rw[hae,QP])
     clear hae
     go_wp2_with fail
     (with_reducible refine HCT.out.mono ?_)
     rintro e w3 ⟨rfl,rfl⟩
     clear HCT
     cases ae with
     |true=>
      have HF:Hid (PR.line i=pr):=hid (by rw[←HGL.out,if_pos (HAE.out.1 rfl)])
      obtain⟨hbw,hbr⟩:=HRT.out w2 HI.out.bw
      obtain⟨z0,z1,z2,z3,z4,z5,z6,z7,z8⟩:=zZ hbr
      obtain⟨y0,y1,y2,y3,y4,y5,y6,y7,y8,zlt⟩:=yA hbr
      obtain⟨wz,hwz,hbz,hfz,hoz⟩:=zS hbw hbr (by rw[HR0.out];exact Nat.le_refl _) [.int .i64 0,.int .i64 0,.int .i64 0,.float .f64 0,.slice none 0 0,.slice none 0 0,.slice none 0 0,.slice none 0 0,.slice none 0 0] rfl
      unfold za za za za za za za za za za at hwz
      have HZ:=hid (⟨hwz,hbz,hfz,hoz⟩:_∧_∧_∧_)
      clear hwz hbz hfz hoz hbw hbr
      go_wp2
      rw[←HZ.out.1]
      obtain⟨v0,v1,v2,v3,v4,v5,v6,v7,v8⟩:=zZ HZ.out.2.1
      refine bodyPost_ret (v:= .tuple #[.agg #[.int .i64 0,.int .i64 0,.int .i64 0,.float .f64 0,.slice none 0 0,.slice none 0 0,.slice none 0 0,.slice none 0 0,.slice none 0 0],.int .i64 i,.int .i64 30]) (by simp[results,Tryz.results7,go_sem,v0,v1,v2,v3,v4,v5,v6,v7,v8]) rfl ?_
      exact⟨scZ,_,_,rfl,by rw[←HF.out];exact⟨rfl,rfl,rfl⟩,jW _,HZ.out.2.2.1⟩
     | false=>
      have HGL:Hid (kQ n i st ws (ls.drop (i+1))=pr):=hid (by rw[←HGL.out,if_neg (fun h=>by have:=HAE.out.2 h;cases this)])
      cases st with
      | none=>
       obtain⟨o,ho⟩: ∃o,o=yg ws:=⟨_,rfl⟩
       have HHD:Hid (Calls Tryz.prog 20 #[.slice wp wn wk] w2 fun e w'=> ∃(sec fr:Int) (y:MdV),e= .returned (.tuple #[.agg #[.int .i64 sec,.int .i64 fr,.int .i64 y.seed,.float .f64 y.en,.slice y.dp y.dn y.dc,.slice y.pp y.pn y.pc,.slice y.lp y.ln y.lc,.slice y.ip y.im y.ic,.slice none 0 0],.bool o.isSome])∧(∀z,o=some z→(ScV.mk sec fr y none 0 0 []).s=z)∧MdF w2.heap.size w' y∧Below w2.heap.size w2 w'):=hid (by rw[ho];exact ah3 ws wp wn wk HV.out.1 HWS.out.1 HWS.out.2.2 w2 HV.out.2)
       have HG0:Hid (o=none→PR.line i=pr):=hid fun h=>by rw[←HGL.out,aa6 (ho▸h)]
       have HG1:Hid (∀x,o=some x→goL n (i+1) (some x) (ls.drop (i+1))=pr):=hid fun x h=>by rw[←HGL.out,aa7 (ho▸h)]
       clear ho HGL
       go_wp2_with fail
       (with_reducible refine HHD.out.mono ?_)
       rintro e w3 ⟨sec,fr,y,rfl,hz,hmd,hb3⟩
       obtain⟨wz,hwz,hpz⟩:=HI.out.head hmd hb3
       have HZ3:=hid hz
       obtain⟨z0,z1,z2,z3,z4,z5,z6,z7,z8⟩:=zZ (HI.out.below hb3).bo
       obtain⟨y0,y1,y2,y3,y4,y5,y6,y7,y8,zlt⟩:=yA (HI.out.below hb3).bo
       have HWZ:Hid (wz=za w3 ob 0 [.int .i64 sec,.int .i64 fr,.int .i64 y.seed,.float .f64 y.en,.slice y.dp y.dn y.dc,.slice y.pp y.pn y.pc,.slice y.lp y.ln y.lc,.slice y.ip y.im y.ic,.slice none 0 0]):=hid hwz
       have HI:=hid hpz
       clear hwz hpz hz hmd hb3 HHD
       go_upto_region 14 with fail
       have hwz:=HWZ.out
       unfold za za za za za za za za za za at hwz
       rw[←hwz]
       clear hwz HWZ z0 z1 z2 z3 z4 z5 z6 z7 z8 y0 y1 y2 y3 y4 y5 y6 y7 y8 zlt
       cases o with
       |none=>
        have HF:Hid (PR.line i=pr):=hid (HG0.out rfl)
        obtain⟨hbw,hbr⟩:=HRT.out wz HI.out.bw
        obtain⟨z0,z1,z2,z3,z4,z5,z6,z7,z8⟩:=zZ hbr
        obtain⟨y0,y1,y2,y3,y4,y5,y6,y7,y8,zlt⟩:=yA hbr
        obtain⟨wz,hwz,hbz,hfz,hoz⟩:=zS hbw hbr (by rw[HR0.out];exact Nat.le_refl _) [.int .i64 0,.int .i64 0,.int .i64 0,.float .f64 0,.slice none 0 0,.slice none 0 0,.slice none 0 0,.slice none 0 0,.slice none 0 0] rfl
        unfold za za za za za za za za za za at hwz
        have HZ:=hid (⟨hwz,hbz,hfz,hoz⟩:_∧_∧_∧_)
        clear hwz hbz hfz hoz hbw hbr
        go_wp2
        rw[←HZ.out.1]
        obtain⟨v0,v1,v2,v3,v4,v5,v6,v7,v8⟩:=zZ HZ.out.2.1
        refine bodyPost_ret (v:= .tuple #[.agg #[.int .i64 0,.int .i64 0,.int .i64 0,.float .f64 0,.slice none 0 0,.slice none 0 0,.slice none 0 0,.slice none 0 0,.slice none 0 0],.int .i64 i,.int .i64 30]) (by simp[results,Tryz.results7,go_sem,v0,v1,v2,v3,v4,v5,v6,v7,v8]) rfl ?_
        exact⟨scZ,_,_,rfl,by rw[←HF.out];exact⟨rfl,rfl,rfl⟩,jW _,HZ.out.2.2.1⟩
       |some x=>
        have HG2:=hid (HG1.out x rfl)
        go_wp2
        go_roundg (n- (i+1))
        case measure=>have:=HJ.out;omega
        case rel=>exact⟨i+1,some x,_,by have:=HJ.out;omega,by omega,rfl,by go_num,HI,HG2,hid fun z hz=>by injection hz with hz;rw[←hz];exact HZ3.out _ rfl,Nat.zero_le _⟩
      | some sx=>
       obtain⟨o,ho⟩: ∃o,o=xD ws:=⟨_,rfl⟩
       have HG0:Hid (o=none→PR.line i=pr):=hid fun h=>by rw[←HGL.out,aa4 (ho▸h)]
       have HG1:Hid (∀x,o=some x→goL n (i+1) (some { sx with acts:=sx.acts++[x] }) (ls.drop (i+1))=pr):=hid fun x h=>by rw[←HGL.out,aa5 (ho▸h)]
       obtain⟨ab,hab⟩: ∃k,k=w2.heap.size:=⟨_,rfl⟩
       obtain⟨wb,hwb⟩: ∃w,w=w2.alloc (.cells #[.int .i64 0,.int .i64 0,.slice none 0 0,.int .i64 0,.int .i64 0] 53):=⟨_,rfl⟩
       have hbb:Below w2.heap.size w2 wb:=by rw[hwb];exact(Below.refl _ _).alloc (Nat.le_refl _) _
       have hBb:Blk wb ab 53 #[.int .i64 0,.int .i64 0,.slice none 0 0,.int .i64 0,.int .i64 0]:=by rw[hwb,hab];exact Blk.new _ _ _
       have HAC:Hid (Calls Tryz.prog 21 #[.slice wp wn wk] wb fun e w'=> ∃a:AcV,e= .returned (.tuple #[.agg #[.int .i64 a.kind,.int .i64 a.n,.slice a.kp a.kn a.kc,.int .i64 a.torn,.int .i64 a.bytes],.bool o.isSome])∧(∀z,o=some z→a.ac=z)∧AcF wb.heap.size w' a∧Below wb.heap.size wb w'):=hid (by rw[ho];exact ajt ws wp wn wk HV.out.1 HWS.out.1 HWS.out.2.2 wb (HV.out.2.below hbb))
       have HWB:=hid (⟨hab,hwb,hbb,hBb⟩:_∧_∧_∧_)
       clear ho HGL hab hwb hbb hBb
       go_upto_region 17 with fail
       rw[←HWB.out.1,←HWB.out.2.1]
       go_wp2_with fail
       (with_reducible refine HAC.out.mono ?_)
       rintro e w4 ⟨a,rfl,hz,haf,hb4⟩
       have HZ3:=hid hz
       have hB4:=HWB.out.2.2.2.below hb4 HWB.out.2.2.2.lt
       obtain⟨⟨m0,m1,m2,m3,m4⟩,⟨g0,g1,g2,g3,g4⟩,mlt⟩:=yq hB4
       obtain⟨w5,hw5⟩: ∃w,w=za w4 ab 0 [.int .i64 a.kind,.int .i64 a.n,.slice a.kp a.kn a.kc,.int .i64 a.torn,.int .i64 a.bytes]:=⟨_,rfl⟩
       have hB5:Blk w5 ab 53 #[.int .i64 a.kind,.int .i64 a.n,.slice a.kp a.kn a.kc,.int .i64 a.torn,.int .i64 a.bytes]:=by rw[hw5];exact((((hB4.set_ 0 _).set_ 1 _).set_ 2 _).set_ 3 _).set_ 4 _
       have hb5:Below w2.heap.size w2 w5:=(HWB.out.2.2.1.trans (hb4.mono HWB.out.2.2.1.size)).trans (by rw[hw5];exact(zU (O:=[ab]) (.inl (by simp)) _ w4 0 (Kp.refl _ _)).to_below (Nat.le_trans HWB.out.2.2.1.size hb4.size) fun x hx=>by have:=HWB.out.1;simp at hx;omega)
       have haf5:AcF w2.heap.size w5 a:=⟨haf.n,(haf.k.to (by rw[hw5,xO];exact Nat.le_refl _) fun b h1 _=>by rw[hw5];exact yB _ _ _ _ _ (by have:=HWB.out.2.2.2.lt;omega)).mono HWB.out.2.2.1.size⟩
       have HI5:=hid (HI.out.below hb5)
       have HA5:=hid (⟨haf5,hb5,hB5⟩:_∧_∧_)
       have HW5:=hid hw5
       clear hz haf hb4 hB4 hw5 hB5 hb5 haf5 HAC
       go_upto_region 18 with fail
       have hw5:=HW5.out
       unfold za za za za za za at hw5
       rw[←hw5]
       clear hw5 HW5 m0 m1 m2 m3 m4 g0 g1 g2 g3 g4 mlt
       obtain⟨⟨m0,m1,m2,m3,m4⟩,_,_⟩:=yq HA5.out.2.2
       have z8:w5.cell? ⟨ob,8,none⟩=some (.slice sv.ap sv.an sv.ac):=(zZ HI5.out.bo).2.2.2.2.2.2.2.2
       go_wp2_with (with_reducible refine yd .append rfl ?_)
       with_reducible refine ki ?_
       refine zO rfl _ _ 30 rfl acC anX Tryz.underlying30 rfl (by decide) (by decide) J0 ack a HI5.out.row (by have:=HJ.out;omega) HI5.out.bo.lt rfl rfl ?_
       intro v6 w6 ho6 hk6 hv6
       obtain⟨p6,c6,rfl⟩:=zm ho6
       have h7:=HI.out.acts HA5.out.1 HA5.out.2.1 ho6 hk6 hv6 (by decide)
       obtain⟨z0,z1,z2,z3,z4,z5,z6,z7,q8⟩:=zZ h7.1
       obtain⟨y0,y1,y2,y3,y4,y5,y6,y7,y8,zlt⟩:=yA h7.1
       obtain⟨w7,hw7⟩: ∃w,w=w6.setCell ⟨ob,8,none⟩ (.slice p6 (sv.an+1) c6):=⟨_,rfl⟩
       rw[←hw7]at h7
       have HI:=hid h7.2
       clear ho6 hk6 hv6 h7 z0 z1 z2 z3 z4 z5 z6 z7 y0 y1 y2 y3 y4 y5 y6 y7 m0 m1 m2 m3 m4 z8 HI5 HA5 HWB
       go_upto_region 19 with fail
       rw[←hw7]
       clear hw7 q8 y8 zlt
       cases o with
       |none=>
        have HF:Hid (PR.line i=pr):=hid (HG0.out rfl)
        obtain⟨hbw,hbr⟩:=HRT.out w7 HI.out.bw
        obtain⟨z0,z1,z2,z3,z4,z5,z6,z7,z8⟩:=zZ hbr
        obtain⟨y0,y1,y2,y3,y4,y5,y6,y7,y8,zlt⟩:=yA hbr
        obtain⟨wz,hwz,hbz,hfz,hoz⟩:=zS hbw hbr (by rw[HR0.out];exact Nat.le_refl _) [.int .i64 0,.int .i64 0,.int .i64 0,.float .f64 0,.slice none 0 0,.slice none 0 0,.slice none 0 0,.slice none 0 0,.slice none 0 0] rfl
        unfold za za za za za za za za za za at hwz
        have HZ:=hid (⟨hwz,hbz,hfz,hoz⟩:_∧_∧_∧_)
        clear hwz hbz hfz hoz hbw hbr
        go_wp2
        rw[←HZ.out.1]
        obtain⟨v0,v1,v2,v3,v4,v5,v6,v7,v8⟩:=zZ HZ.out.2.1
        refine bodyPost_ret (v:= .tuple #[.agg #[.int .i64 0,.int .i64 0,.int .i64 0,.float .f64 0,.slice none 0 0,.slice none 0 0,.slice none 0 0,.slice none 0 0,.slice none 0 0],.int .i64 i,.int .i64 30]) (by simp[results,Tryz.results7,go_sem,v0,v1,v2,v3,v4,v5,v6,v7,v8]) rfl ?_
        exact⟨scZ,_,_,rfl,by rw[←HF.out];exact⟨rfl,rfl,rfl⟩,jW _,HZ.out.2.2.1⟩
       |some x=>
        have HG2:=hid (HG1.out x rfl)
        have HS2:=hid (HZ3.out _ rfl)
        go_wp2
        go_roundg (n- (i+1))
        case measure=>have:=HJ.out;omega
        case rel=>exact⟨i+1,some _,_,by have:=HJ.out;omega,by omega,rfl,by go_num,HI,HG2,hid fun z hz=>by injection hz with hz;rw[←hz,←HS.out _ rfl,←HS2.out];simp[ScV.s],Nat.succ_le_succ hani⟩
   ·have hjz: ¬(i:Int)<(n:Int):=by omega
    have hgn:=agU (n:=n) (st:=st) (show ls[i]? =none from List.getElem?_eq_none (by rw[←HN.out];omega))
    cases st with
    |none=>
     have HF:Hid (PR.line n=pr):=hid (hgn.symm.trans HG.out)
     clear hgn
     obtain⟨hbw,hbr⟩:=HRT.out wr HI.out.bw
     obtain⟨z0,z1,z2,z3,z4,z5,z6,z7,z8⟩:=zZ hbr
     obtain⟨y0,y1,y2,y3,y4,y5,y6,y7,y8,zlt⟩:=yA hbr
     obtain⟨wz,hwz,hbz,hfz,hoz⟩:=zS hbw hbr (by rw[HR0.out];exact Nat.le_refl _) [.int .i64 0,.int .i64 0,.int .i64 0,.float .f64 0,.slice none 0 0,.slice none 0 0,.slice none 0 0,.slice none 0 0,.slice none 0 0] rfl
     unfold za za za za za za za za za za at hwz
     have HZ:=hid (⟨hwz,hbz,hfz,hoz⟩:_∧_∧_∧_)
     clear hwz hbz hfz hoz hbw hbr
     go_wp2
     rw[←HZ.out.1]
     obtain⟨v0,v1,v2,v3,v4,v5,v6,v7,v8⟩:=zZ HZ.out.2.1
     refine bodyPost_ret (v:= .tuple #[.agg #[.int .i64 0,.int .i64 0,.int .i64 0,.float .f64 0,.slice none 0 0,.slice none 0 0,.slice none 0 0,.slice none 0 0,.slice none 0 0],.int .i64 n,.int .i64 30]) (by simp[results,Tryz.results7,go_sem,v0,v1,v2,v3,v4,v5,v6,v7,v8]) rfl ?_
     exact⟨scZ,_,_,rfl,by rw[←HF.out];exact⟨rfl,rfl,rfl⟩,jW _,HZ.out.2.2.1⟩
    |some sx=>
     have HF:Hid (PR.ok sx=pr):=hid (hgn.symm.trans HG.out)
     obtain⟨x0,x1,x2,x3,x4,x5,x6,x7,x8⟩:=zZ HI.out.bo
     clear hgn
     obtain⟨hbw,hbr⟩:=HRT.out wr HI.out.bw
     obtain⟨z0,z1,z2,z3,z4,z5,z6,z7,z8⟩:=zZ hbr
     obtain⟨y0,y1,y2,y3,y4,y5,y6,y7,y8,zlt⟩:=yA hbr
     obtain⟨wz,hwz,hbz,hfz,hoz⟩:=zS hbw hbr (by rw[HR0.out];exact Nat.le_refl _) [.int .i64 sv.sec,.int .i64 sv.fr,.int .i64 sv.x.seed,.float .f64 sv.x.en,.slice sv.x.dp sv.x.dn sv.x.dc,.slice sv.x.pp sv.x.pn sv.x.pc,.slice sv.x.lp sv.x.ln sv.x.lc,.slice sv.x.ip sv.x.im sv.x.ic,.slice sv.ap sv.an sv.ac] rfl
     have HSZ:Hid (wr.heap.size≤wz.heap.size):=hid (by rw[hwz,xO];exact Nat.le_refl _)
     unfold za za za za za za za za za za at hwz
     have HZ:=hid (⟨hwz,hbz,hfz,hoz⟩:_∧_∧_∧_)
     clear hwz hbz hfz hoz hbw hbr
     go_wp2
     rw[←HZ.out.1]
     obtain⟨v0,v1,v2,v3,v4,v5,v6,v7,v8⟩:=zZ HZ.out.2.1
     refine bodyPost_ret (v:= .tuple #[.agg #[.int .i64 sv.sec,.int .i64 sv.fr,.int .i64 sv.x.seed,.float .f64 sv.x.en,.slice sv.x.dp sv.x.dn sv.x.dc,.slice sv.x.pp sv.x.pn sv.x.pc,.slice sv.x.lp sv.x.ln sv.x.lc,.slice sv.x.ip sv.x.im sv.x.ic,.slice sv.ap sv.an sv.ac],.int .i64 0,.int .i64 0]) (by simp[results,Tryz.results7,go_sem,v0,v1,v2,v3,v4,v5,v6,v7,v8]) rfl ?_
     exact⟨sv,_,_,rfl,by rw[←HF.out];exact⟨rfl,rfl,HS.out _ rfl⟩,HI.out.fin (HRT.out W1 (Below.refl _ _)).2.lt HSZ.out HZ.out.2.2.2,HZ.out.2.2.1⟩
theorem ab5 (s:Bs) (hs:s.length≤45000) (W:World):Calls Tryz.prog 7 #[.string (S s)] W (PaP W (qW s)):=
 ab6 s (by omega) (by have:=xz 10 s;omega) (fun l hl=>Nat.le_trans (jH hl) hs) W
end
section
open Go.RowKit Go.Lib
theorem MdF.alloc {B:Nat} {w:World} {y:MdV} (h:MdF B w y) (o:Obj):MdF B (w.alloc o) y:=fun w' hk=>h w' fun b h1 h2=>(hk b h1 (by simp;omega)).trans (Below.heap_alloc _ _ _ h2)
end
section
open Go.RowKit Go.Lib
def ace:Prop:= ∀w,Calls Tryz.prog 6 #[] w fun e w'=>e= .returned (.bool true)∧Below w.heap.size w w'
end
section
open Go.RowKit Go.Lib
theorem ZC:ace:=fun w=>Kv.plain_run Kv.awtop rfl rfl (by decide+kernel) (args':=[]) (fun ρ=>rfl) (by rfl) w
end
section
open Go.ChangeShapes Go.WideShapes Go.ChangeAt Go.RowKit Go.Deep
theorem own:ownKnob Tryz.prog.godebug=none:=by kernel_rfl
theorem aSC:laidOutB Tryz.prog=true:=by kernel_rfl
section
variable {H:Type} {enc:TypeId×Value→H}
theorem qN {P:Program} {W W':World} (hl:laidOutB P=true) (hb:Below W.heap.size W W'): ∀ {ts:List TypeId} {vs:List Value} {ds:List (DataW H)} {ps:List MemPlace},
  DataW.TrodAll enc P W 0 (fun _=>true) true ts vs ds ps→(∀t∈ts,P.readableRec t=true∧t<P.types.size)→
  DataW.TrodAll enc P W' 0 (fun b=>decide (b<W.heap.size)) true ts vs ds ps
 | [],[],[],_,h,_=>h
 |t::ts,v::vs,d::ds,_,h,ht=>by
  obtain⟨p,q,h1,h2,rfl⟩:=h
  obtain⟨a,b⟩:=ht t (by simp)
  refine⟨p,q,Below.trod hl a b h1 hb ?_,qN hl hb h2 (fun t ht'=>ht t (by simp[ht'])),rfl⟩
  obtain⟨fuel,hf⟩:=h1
  exact DataW.trod_lt _ _ _ _ hf
 | [],[],_::_,_,h,_=>h.elim
 | [],_::_,_,_,h,_=>h.elim
 |_::_,[],_,_,h,_=>h.elim
 |_::_,_::_,[],_,h,_=>h.elim
end
end
section
open Go.ChangeShapes Go.WideShapes Go.ChangeAt Go.RowKit Go.Deep
section
variable {H:Type} {enc:TypeId×Value→H} {P:Program} {w:World} {base:Nat} {spare:Nat→Bool} {held:Bool}
theorem aUV {α β:Type} (f:α→Option β): ∀(l:List α) (ys:List β),l.mapM f=some ys→ ∀a∈l,∃b,f a=some b:=by
 intro l
 induction l with
 |nil=>intro ys _ a ha;cases ha
 | cons x l ih=>
  intro ys h a ha
  rw[List.mapM_cons]at h
  cases hx:f x with
  |none=>rw[hx]at h;cases h
  | some b=>
   cases hl:l.mapM f with
   |none=>rw[hx,hl]at h;cases h
   |some bs=>
    cases ha with
    |head=>exact⟨b,hx⟩
    |tail _ ha=>exact ih bs hl a ha
theorem aSM {t:TypeId} {fs:Array Field} {n:Nat} {cs:List Value} {x:DataW H×List MemPlace} (hu:P.underlying t=some (.struct fs)) (h:DataW.trod enc P w base spare held (n+1) t cs=some x):
  cs.length=P.cellsOf t∧ ∀f∈fs.toList,∃y,DataW.trod enc P w base spare held n f.type ((cs.drop f.offset).take (P.cellsOf f.type))=some y:=by
 simp only[DataW.trod,hu]at h
 split at h
 ·rename_i hl
  refine⟨hl,?_⟩
  cases hm:fs.toList.mapM fun f=>DataW.trod enc P w base spare held n f.type ((cs.drop f.offset).take (P.cellsOf f.type))with
  |none=>rw[hm]at h;cases h
  |some ys=>exact aUV _ _ ys hm
 ·cases h
theorem qp {t:TypeId} {k:IntKind} {n:Nat} {c:Value} {x:DataW H×List MemPlace} (hu:P.underlying t=some (.int k)) (h:DataW.trod enc P w base spare held n t [c]=some x): ∃z,c= .int k z∧(Lit.int k z).wf=true:=by
 cases n with
 |zero=>cases h
 |succ n=>
  cases c<;>simp[DataW.trod,hu]at h
  rename_i k' z
  obtain⟨⟨rfl,hw⟩,_⟩:=h
  exact⟨z,rfl,hw⟩
theorem aS8 {t:TypeId} {k:FloatKind} {n:Nat} {c:Value} {x:DataW H×List MemPlace} (hu:P.underlying t=some (.float k)) (h:DataW.trod enc P w base spare held n t [c]=some x): ∃z,c= .float k z∧(Lit.float k z).wf=true:=by
 cases n with
 |zero=>cases h
 |succ n=>
  cases c<;>simp[DataW.trod,hu]at h
  rename_i k' z
  obtain⟨⟨rfl,hw⟩,_⟩:=h
  exact⟨z,rfl,hw⟩
theorem aTD {b:Nat} (h:(Lit.float .f64 b).wf=true):b<18446744073709551616:=by
 simpa[Lit.wf,FloatKind.has]using h
theorem aSS {z:Int} (h:(Lit.int .i64 z).wf=true): -9223372036854775808≤z∧z<9223372036854775808:=by
 have:=h
 simp[Lit.wf,IntKind.has,IntKind.min,IntKind.max,IntKind.signed,IntKind.bits]at this
 omega
theorem aUL {t:TypeId} {n:Nat} {c:Value} {x:DataW H×List MemPlace} (hu:P.underlying t=some .bool) (h:DataW.trod enc P w base spare held n t [c]=some x): ∃z,c= .bool z:=by
 cases n with
 |zero=>cases h
 |succ n=>
  cases c<;>simp[DataW.trod,hu]at h
  exact⟨_,rfl⟩
end
theorem aSR:Tryz.prog.cellsOf 3=1:=by kernel_rfl
theorem aS7:Tryz.prog.cellsOf 23=1:=by kernel_rfl
end
section
open Go.ChangeShapes Go.WideShapes Go.ChangeAt Go.RowKit Go.Deep
section
variable {H:Type} {enc:TypeId×Value→H} {w:World} {spare:Nat→Bool} {held:Bool}
theorem aUY {α:Type} (d0:α) {k:Nat} {encA:α→List Value} {R:α→Prop} {t e:TypeId} (ht:Tryz.prog.underlying t=some (.slice e)) (hc:Tryz.prog.cellsOf e=k) (hk0:0<k) (hk: ∀x,(encA x).length=k)
  (ho: ∀(fuel:Nat) (cs:List Value) (x:DataW H×List MemPlace),DataW.trod enc Tryz.prog w 0 spare held fuel e cs=some x→ ∃y,cs=encA y∧R y) {fuel:Nat} {v:Value} {x:DataW H×List MemPlace} (h:DataW.trod enc Tryz.prog w 0 spare held fuel t [v]=some x):
  ∃(p:Option Addr) (n c:Nat) (l:List α),v= .slice p n c∧n=l.length∧Vw k encA w (.slice p n c) l∧ ∀y∈l,R y:=by
 rcases open_slice ht h with⟨hcs,_⟩ | ⟨a,len,cap,m,n,D,Pl,hcs,_,hl,hm,hmm,_,hel⟩
 ·simp at hcs
  subst hcs
  exact⟨none,0,0,[],rfl,rfl,Vw.nil _ _ _ _ _,by simp⟩
 ·simp at hcs
  subst hcs
  have hlm:len≤m:=by rw[hmm];split<;>omega
  have h1: ∀i,∃y:α,i<len→(R y∧ ∃cs',w.cells? 0 (a.add (i*k)) k=some cs'∧cs'=encA y):=by
   intro i
   by_cases hi:i<len
   ·obtain⟨cs',h1,h2⟩:=hel i (by omega)
    rw[hc]at h1
    obtain⟨y,hy,hr⟩:=ho _ _ _ h2
    exact⟨y,fun _=>⟨hr,cs',h1,hy⟩⟩
   ·exact⟨d0,fun h=>absurd h hi⟩
  obtain⟨F,hF⟩:=Classical.axiomOfChoice h1
  have hg: ∀i y,((List.range len).map F)[i]? =some y→i<len∧y=F i:=fun i y hy=>by
   have hi:i<len:=by
    have:=(List.getElem?_eq_some_iff.1 hy).1
    simpa using this
   refine⟨hi,?_⟩
   simp[hi]at hy
   exact hy.symm
  refine⟨some a,len,cap,(List.range len).map F,rfl,by simp,⟨some a,cap,by simp,by simpa using hl,?_⟩,?_⟩
  ·by_cases h0:len=0
   ·left;simp[h0]
   ·right
    obtain⟨b,off,spot⟩:=a
    have hcell: ∀i j,i<len→j<k→w.cell? ((⟨b,off,spot⟩:Addr).add (i*k+j))=(encA (F i))[j]? :=by
     intro i j hi hj
     obtain⟨_,cs',h1,h2⟩:=hF i hi
     rw[h2]at h1
     have h3:=World.cells?_some h1
     rw[←add_add]
     exact h3.2.2 j hj
    have hsome: ∀j,j<k→ ∃u,(encA (F 0))[j]? =some u:=fun j hj=>⟨_,List.getElem?_eq_getElem (by rw[hk];exact hj)⟩
    have hspot:spot=none:=by
     obtain⟨u,hu⟩:=hsome 0 hk0
     have:=(hcell 0 0 (by omega) hk0).trans hu
     simpa[Addr.add]using World.cell?_spot this
    subst hspot
    have hcell': ∀i j,i<len→j<k→w.cell? ⟨b,off+i*k+j,none⟩=(encA (F i))[j]? :=by
     intro i j hi hj
     have:=hcell i j hi hj
     rw[add_plain]at this
     rw[←this]
     congr 2
     omega
    refine⟨b,off,rfl,?_,fun i y hy q u hu=>?_⟩
    ·obtain⟨u,hu⟩:=hsome 0 hk0
     exact World.block_lt_of_cell? w _ ((hcell' 0 0 (by omega) hk0).trans hu)
    ·obtain⟨hi,rfl⟩:=hg i y hy
     have hq:q<k:=by
      have:=(List.getElem?_eq_some_iff.1 hu).1
      rwa[hk]at this
     exact(hcell' i q hi hq).trans hu
  ·intro y hy
   rw[List.mem_map]at hy
   obtain⟨i,hi,rfl⟩:=hy
   exact(hF i (by simpa using hi)).1
end
end
end Go.Proofs.YtcdiljebkpikbaaGreat
