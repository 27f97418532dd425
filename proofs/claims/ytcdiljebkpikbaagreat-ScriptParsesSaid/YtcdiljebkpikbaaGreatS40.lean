/- Parts of the proof: Sed Sep. -/
import Derived.Test.YtcdiljebkpikbaaGreatS31
import Derived.Test.YtcdiljebkpikbaaGreatS35
import Derived.Test.YtcdiljebkpikbaaGreatS37
import Derived.Test.YtcdiljebkpikbaaGreatS39
set_option linter.all false
set_option maxRecDepth 100000
set_option maxHeartbeats 64000000
namespace Go.Proofs.YtcdiljebkpikbaaGreat
section
open Go.RowKit Go.Lib
theorem YA {W:World} {xb kb gb off n c i:Nat} {iz:Int} (hz:iz=(i:Int)) {b:Bool} {w:Bs} (hx:W.cell? ⟨xb,0,none⟩=some (.slice (some ⟨gb,off,none⟩) n c)) (hw:W.cell? ⟨gb,off+i,none⟩=some (.string (S w))) (hl:w.length≤90000) (hi:i<n) (hi9:i≤9) (hk:Blk W kb 4 #[.bool b]):
  Calls Tryz.prog 50 #[.int .i64 iz,.pointer (some ⟨xb,0,none⟩),.pointer (some ⟨kb,0,none⟩)] W fun r w'=> ∃v:Int,r= .returned (.int .i64 v)∧(∀k,yR w=some k→v=k)∧w'=W.setCell ⟨kb,0,none⟩ (.bool (b&&(yR w).isSome)):=by
 subst hz
 obtain⟨o,ho⟩: ∃o,o=yR w:=⟨_,rfl⟩
 have HN:Hid (∀w1,Calls Tryz.prog 46 #[.string (S w)] w1 fun e w'=> ∃n:Int,e= .returned (.tuple #[.int .i64 n,.bool o.isSome])∧(∀k,o=some k→n=k)∧w1=w'):=hid (by rw[ho];exact kJ w hl)
 rw[←ho]
 clear ho hl
 have k0:W.cell? ⟨kb,0,none⟩=some (.bool b):=hk.cell 0
 have f0:=hk.frozen 0
 have hlt:=hk.lt
 have hiz:(i:Int)<(n:Int):=by omega
 clear hk
 go_enter Tryz.func50,Tryz.ntmps50
 have HF:=hid (HN.out W)
 go_wp2_with fail
 (with_reducible refine HF.out.mono ?_)
 rintro r w6 ⟨v,rfl,hv,rfl⟩
 have HV:=hid hv
 clear hv HF
 cases b
 all_goals
  go_wp2
  go_ret
  exact⟨v,rfl,HV.out,rfl⟩
structure AcX (W:World) (xb:Nat) (sv:Value) (r b:Nat) (x0 x1 x2 x3 x4:Value) (w:World):Prop where
 ii:AcI W r b x0 x1 x2 x3 x4 w
 xx:Blk w xb 56 #[sv]
structure AcK (W:World) (xb:Nat) (sv:Value) (k:Nat) (m:Bool) (r b:Nat) (x0 x1 x2 x3 x4:Value) (w:World):Prop where
 ii:AcI W r b x0 x1 x2 x3 x4 w
 xx:Blk w xb 56 #[sv]
 kk:Blk w k 4 #[.bool m]
 lo:W.heap.size≤k
section
variable {W w w':World} {xb r b k:Nat} {sv x0 x1 x2 x3 x4:Value} {m:Bool}
theorem AcX.below (h:AcX W xb sv r b x0 x1 x2 x3 x4 w) (hb:Below w.heap.size w w'):AcX W xb sv r b x0 x1 x2 x3 x4 w':=⟨h.ii.below hb,h.xx.below hb h.xx.lt⟩
theorem AcK.below (h:AcK W xb sv k m r b x0 x1 x2 x3 x4 w) (hb:Below w.heap.size w w'):AcK W xb sv k m r b x0 x1 x2 x3 x4 w':=⟨h.ii.below hb,h.xx.below hb h.xx.lt,h.kk.below hb h.kk.lt,h.lo⟩
theorem AcX.set0 (h:AcX W xb sv r b x0 x1 x2 x3 x4 w) (u:Value):AcX W xb sv r b u x1 x2 x3 x4 (w.setCell ⟨b,0,none⟩ u):=⟨h.ii.set0 u,h.xx.far (h.xx.ne_ h.ii.bm (by decide)) _⟩
theorem AcK.set1 (h:AcK W xb sv k m r b x0 x1 x2 x3 x4 w) (u:Value):AcK W xb sv k m r b x0 u x2 x3 x4 (w.setCell ⟨b,1,none⟩ u):=⟨h.ii.set1 u,h.xx.far (h.xx.ne_ h.ii.bm (by decide)) _,h.kk.far (h.kk.ne_ h.ii.bm (by decide)) _,h.lo⟩
theorem AcK.set2 (h:AcK W xb sv k m r b x0 x1 x2 x3 x4 w) (u:Value):AcK W xb sv k m r b x0 x1 u x3 x4 (w.setCell ⟨b,2,none⟩ u):=⟨h.ii.set2 u,h.xx.far (h.xx.ne_ h.ii.bm (by decide)) _,h.kk.far (h.kk.ne_ h.ii.bm (by decide)) _,h.lo⟩
theorem AcK.set3 (h:AcK W xb sv k m r b x0 x1 x2 x3 x4 w) (u:Value):AcK W xb sv k m r b x0 x1 x2 u x4 (w.setCell ⟨b,3,none⟩ u):=⟨h.ii.set3 u,h.xx.far (h.xx.ne_ h.ii.bm (by decide)) _,h.kk.far (h.kk.ne_ h.ii.bm (by decide)) _,h.lo⟩
theorem AcK.set4 (h:AcK W xb sv k m r b x0 x1 x2 x3 x4 w) (u:Value):AcK W xb sv k m r b x0 x1 x2 x3 u (w.setCell ⟨b,4,none⟩ u):=⟨h.ii.set4 u,h.xx.far (h.xx.ne_ h.ii.bm (by decide)) _,h.kk.far (h.kk.ne_ h.ii.bm (by decide)) _,h.lo⟩
theorem AcK.setk (h:AcK W xb sv k m r b x0 x1 x2 x3 x4 w) (u:Bool):AcK W xb sv k u r b x0 x1 x2 x3 x4 (w.setCell ⟨k,0,none⟩ (.bool u)):=
 ⟨⟨⟨h.ii.bw.os,h.ii.bw.tape,h.ii.bw.output,by simpa[World.setCell]using h.ii.bw.size,fun j hj=>(Below.heap_setCell _ _ _ _ (by have:=h.lo;simp;omega)).trans (h.ii.bw.block j hj)⟩,h.ii.br.far (h.ii.br.ne_ h.kk (by decide)) _,h.ii.bm.far (h.ii.bm.ne_ h.kk (by decide)) _,h.ii.lo,h.ii.ne⟩,h.xx.far (h.xx.ne_ h.kk (by decide)) _,h.kk.set_ 0 _,h.lo⟩
theorem AcX.mark (h:AcX W xb sv r b x0 x1 x2 x3 x4 w):AcK W xb sv w.heap.size true r b x0 x1 x2 x3 x4 (w.alloc (.cells #[.bool true] 4)):=
 ⟨⟨h.ii.bw.alloc h.ii.bw.size _,h.ii.br.alloc _,h.ii.bm.alloc _,h.ii.lo,h.ii.ne⟩,h.xx.alloc _,Blk.new _ _ _,h.ii.bw.size⟩
end
theorem aow {ws:List Bs} {o1:Option (List Bool)} {o2 o3:Option Nat} {kl:List Bool} {tt bb:Int} (h:xD ws=match o1,o2,o3 with
  |some b,some t,some n=>some ⟨7,0,b,t,n⟩
  |_,_,_=>none) (h1: ∀z,o1=some z→kl=z) (h2: ∀k:Nat,o2=some k→tt=k) (h3: ∀k:Nat,o3=some k→bb=k):
  ((o2.isSome&&o3.isSome)&&o1.isSome)=(xD ws).isSome∧ ∀z,xD ws=some z→(⟨7,0,kl,tt,bb⟩:Ac)=z:=by
 rw[h]
 cases o1 with
 |none=>exact⟨by simp,fun z hz=>by cases hz⟩
 | some a=>
  cases o2 with
  |none=>exact⟨rfl,fun z hz=>by cases hz⟩
  |some b=>
   cases o3 with
   |none=>exact⟨rfl,fun z hz=>by cases hz⟩
   |some c=>exact⟨rfl,fun z hz=>by injection hz with hz;rw[←hz,h1 _ rfl,h2 _ rfl,h3 _ rfl]⟩
theorem ajt (ws:List Bs) (p:Option Addr) (n c:Nat) (hn:n=ws.length) (h0:ws≠[]) (hl: ∀x∈ws,x.length≤90000) (W:World) (hv:Vw 1 jQ W (.slice p n c) ws):Calls Tryz.prog 21 #[.slice p n c] W (AcP W ws):=by
 obtain⟨gb,off,cc,e1,e2,e3,e4⟩:=hv.ex h0
 injection e1 with e1 e5 e6
 subst e1 e6
 obtain⟨w0,hw0⟩: ∃w0,w0=ws.getD 0 []:=⟨_,rfl⟩
 have hg0:ws[0]? =some w0:=by
  rw[hw0]
  cases ws with
  |nil=>exact absurd rfl h0
  |cons a l=>rfl
 have HC:Hid (∀W',Below W.heap.size W W'→ ∀i x,ws[i]? =some x→W'.cell? ⟨gb,off+i,none⟩=some (.string (S x))):=hid fun W' hb i x hx=>by
  have:=e4 i x hx 0 (.string (S x)) rfl
  rw[←this]
  simpa using World.cell?_of_block (hb.block gb e3)
 have hlen:1≤n:=by rw[hn];exact List.length_pos_iff.2 h0
 have HW:=hid (⟨hn,h0,hg0,e3,hw0,hl⟩:_∧_∧_∧_∧_∧_)
 clear hv e2 e3 e4 e5 hn h0 hg0 hw0 hl
 obtain⟨xb,hxb⟩: ∃n,n=W.heap.size:=⟨_,rfl⟩
 obtain⟨r0,hr0⟩: ∃n,n=W.heap.size+1:=⟨_,rfl⟩
 obtain⟨mb,hmb⟩: ∃n,n=W.heap.size+2:=⟨_,rfl⟩
 obtain⟨W1,hW1⟩: ∃W1,W1=(W.alloc (.cells #[.slice (some ⟨gb,off,none⟩) n c] 56)).alloc (.cells #[.int .i64 0,.int .i64 0,.slice none 0 0,.int .i64 0,.int .i64 0] 53):=⟨_,rfl⟩
 have hx1:Blk W1 xb 56 #[.slice (some ⟨gb,off,none⟩) n c]:=by rw[hW1,hxb];exact(Blk.new W _ _).alloc _
 have hr1:Blk W1 r0 53 #[.int .i64 0,.int .i64 0,.slice none 0 0,.int .i64 0,.int .i64 0]:=by
  have hm:=Blk.new (W.alloc (.cells #[.slice (some ⟨gb,off,none⟩) n c] 56)) 53 #[.int .i64 0,.int .i64 0,.slice none 0 0,.int .i64 0,.int .i64 0]
  rw[World.size_alloc,←hr0]at hm
  rw[hW1]
  exact hm
 have hb1:Below W.heap.size W W1:=by rw[hW1];exact((Below.refl _ W).alloc (Nat.le_refl _) _).alloc (by simp) _
 have hs1:W1.heap.size=W.heap.size+2:=by rw[hW1];simp
 obtain⟨W2,hW2⟩: ∃W2,W2=za (W1.alloc (.cells #[.int .i64 0,.int .i64 0,.slice none 0 0,.int .i64 0,.int .i64 0] 53)) mb 0 [.int .i64 0,.int .i64 0,.slice none 0 0,.int .i64 0,.int .i64 0]:=⟨_,rfl⟩
 have hm1:AcX W xb (.slice (some ⟨gb,off,none⟩) n c) r0 mb (.int .i64 0) (.int .i64 0) (.slice none 0 0) (.int .i64 0) (.int .i64 0) (W1.alloc (.cells #[.int .i64 0,.int .i64 0,.slice none 0 0,.int .i64 0,.int .i64 0] 53)):=by
  have hm:=Blk.new W1 53 #[.int .i64 0,.int .i64 0,.slice none 0 0,.int .i64 0,.int .i64 0]
  rw[hs1,←hmb]at hm
  exact⟨⟨hb1.alloc hb1.size _,hr1.alloc _,hm,by omega,by omega⟩,hx1.alloc _⟩
 have hm2:AcX W xb (.slice (some ⟨gb,off,none⟩) n c) r0 mb (.int .i64 0) (.int .i64 0) (.slice none 0 0) (.int .i64 0) (.int .i64 0) W2:=by
  rw[hW2]
  exact⟨((((hm1.ii.set0 _).set1 _).set2 _).set3 _).set4 _,((((hm1.xx.far (hm1.xx.ne_ hm1.ii.bm (by decide)) _).far (hm1.xx.ne_ hm1.ii.bm (by decide)) _).far (hm1.xx.ne_ hm1.ii.bm (by decide)) _).far (hm1.xx.ne_ hm1.ii.bm (by decide)) _).far (hm1.xx.ne_ hm1.ii.bm (by decide)) _⟩
 have HI2:=hid hm2
 have HM1:=hid (⟨hm1.ii.bm,hs1⟩:_∧_)
 have HRW:=hid (⟨hxb,hr0,hmb,hW1,hW2⟩:_∧_∧_∧_∧_)
 clear hx1 hr1 hb1 hm1 hm2 hxb hr0 hmb hW1 hW2 hs1
 go_enter Tryz.func21,Tryz.ntmps21
 go_upto_region 1 with fail
 rw[←HRW.out.2.1,←HRW.out.1,←HRW.out.2.2.2.1]
 go_wp2_with (with_reducible refine YF 53 rfl ?_)
 with_reducible refine ki ?_
 have hsz:W1.heap.size=mb:=by rw[HM1.out.2,HRW.out.2.2.1]
 rw[hsz]
 obtain⟨⟨m0,m1,m2,m3,m4⟩,⟨g0,g1,g2,g3,g4⟩,mlt⟩:=yq HM1.out.1
 obtain⟨wx,hwx⟩: ∃wx,wx=W1.alloc (.cells #[.int .i64 0,.int .i64 0,.slice none 0 0,.int .i64 0,.int .i64 0] 53):=⟨_,rfl⟩
 have HX2:Hid (W2=za wx mb 0 [.int .i64 0,.int .i64 0,.slice none 0 0,.int .i64 0,.int .i64 0]):=hid (by rw[hwx];exact HRW.out.2.2.2.2)
 rw[←hwx]at m0 m1 m2 m3 m4 g0 g1 g2 g3 g4 mlt⊢
 clear hwx hsz
 go_wp2
 have hX2:=HX2.out
 unfold za za za za za za at hX2
 rw[←hX2]
 clear hX2 HX2 m0 m1 m2 m3 m4 g0 g1 g2 g3 g4 mlt
 go_loopg [5] 10 (fun gg s5 wr=> ∃i:Nat,1≤i∧i≤10∧10-i≤gg∧s5= .int .i64 i∧Hid (AcX W xb (.slice (some ⟨gb,off,none⟩) n c) r0 mb (.int .i64 (kkn w0 i)) (.int .i64 0) (.slice none 0 0) (.int .i64 0) (.int .i64 0) wr))
 case atStart=>exact⟨1,by omega,by omega,by omega,rfl,hid (by rw[ag4];exact HI2.out)⟩
 case round=>
  obtain⟨i,hi1,hi2,hgg,rfl,HI⟩:=hrel
  by_cases hi:i<10
  ·have hiz:(i:Int)≤9:=by omega
   have HN:=hid ((ajP i hi wr.drew).mono fun e w' h=>(⟨h.1,((Below.refl _ wr).drew).trans h.2⟩:_∧Below wr.heap.size wr w'))
   obtain⟨q,hq⟩: ∃q,q=kw i:=⟨_,rfl⟩
   have HQ:=hid hq
   rw[←hq]at HN
   clear hq
   have hcell:=HC.out wr HI.out.ii.bw 0 w0 HW.out.2.2.1
   rw[Nat.add_zero]at hcell
   have hxc:wr.cell? ⟨xb,0,none⟩=some (.slice (some ⟨gb,off,none⟩) n c):=HI.out.xx.cell 0
   have hlz:0<n:=by omega
   by_cases he:q=w0
   ·have HI3:Hid (kkn w0 (i+1)=i):=hid (anZ hi1 (by omega) (HQ.out▸he))
    subst he
    go_upto_region 5 with fail
    refine zB (fun W'=>W'.cell? ⟨xb,0,none⟩=some (.slice (some ⟨gb,off,none⟩) n c)∧W'.cell? ⟨gb,off,none⟩=some (.string (S q))) 5 (by kernel_rfl) ⟨by simpa using hxc,by simpa using hcell⟩ (fun hHeld=>?_)
    refine eT 0 hHeld ?_;(try simp only[Act.put,sEa,sEb,sEc]);refine eT 2 hHeld ?_;(try simp only[Act.put,sEa,sEb,sEc]);refine eT 3 hHeld ?_;(try simp only[Act.put,sEa,sEb,sEc]);refine eT 4 hHeld ?_;(try simp only[Act.put,sEa,sEb,sEc])
    refine eR 1 (fun K hK=>?_)
    go_simp
    (with_reducible refine HN.out.mono ?_)
    rintro r w2 ⟨rfl,hb2⟩
    have HI2:=hid (HI.out.below hb2)
    clear hb2 HN
    have hc2:=HC.out w2 HI2.out.ii.bw 0 _ HW.out.2.2.1
    rw[Nat.add_zero]at hc2
    have hx2:w2.cell? ⟨xb,0,none⟩=some (.slice (some ⟨gb,off,none⟩) n c):=HI2.out.xx.cell 0
    refine hK.out _ _ ⟨hx2,hc2⟩ (fun hHeld=>?_)
    clear hK K hc2 hx2
    (try simp only[Act.put,sEa,sEb,sEc])
    refine eL (fun K hK=>?_);go_simp;refine hK.out _ _ ?_;clear hK K;(try simp only[Act.put,sEa,sEb,sEc])
    obtain⟨⟨m0,-⟩,⟨f0,-⟩,mlt⟩:=yq HI2.out.ii.bm
    have HI4:Hid (AcX W xb (.slice (some ⟨gb,off,none⟩) n c) r0 mb (.int .i64 (kkn q (i+1))) (.int .i64 0) (.slice none 0 0) (.int .i64 0) (.int .i64 0) (w2.setCell ⟨mb,0,none⟩ (.int .i64 i))):=hid (by rw[HI3.out];exact HI2.out.set0 _)
    go_wp2
    go_roundg (10- (i+1))
    case measure=>omega
    case rel=>exact⟨i+1,by omega,by omega,by omega,by go_num,HI4⟩
   ·have HI3:Hid (kkn w0 (i+1)=kkn w0 i):=hid (an0 hi1 (by omega) (HQ.out▸he))
    have hne:(q==w0)=false:=by simpa using he
    clear he
    go_upto_region 5 with fail
    refine zB (fun W'=>W'.cell? ⟨xb,0,none⟩=some (.slice (some ⟨gb,off,none⟩) n c)∧W'.cell? ⟨gb,off,none⟩=some (.string (S w0))) 5 (by kernel_rfl) ⟨by simpa using hxc,by simpa using hcell⟩ (fun hHeld=>?_)
    refine eT 0 hHeld ?_;(try simp only[Act.put,sEa,sEb,sEc]);refine eT 2 hHeld ?_;(try simp only[Act.put,sEa,sEb,sEc]);refine eT 3 hHeld ?_;(try simp only[Act.put,sEa,sEb,sEc]);refine eT 4 hHeld ?_;(try simp only[Act.put,sEa,sEb,sEc])
    refine eR 1 (fun K hK=>?_)
    go_simp
    (with_reducible refine HN.out.mono ?_)
    rintro r w2 ⟨rfl,hb2⟩
    have HI2:=hid (HI.out.below hb2)
    clear hb2 HN
    have hc2:=HC.out w2 HI2.out.ii.bw 0 _ HW.out.2.2.1
    rw[Nat.add_zero]at hc2
    have hx2:w2.cell? ⟨xb,0,none⟩=some (.slice (some ⟨gb,off,none⟩) n c):=HI2.out.xx.cell 0
    refine hK.out _ _ ⟨hx2,hc2⟩ (fun hHeld=>?_)
    clear hK K hc2 hx2
    (try simp only[Act.put,sEa,sEb,sEc])
    refine eL (fun K hK=>?_);go_simp;refine hK.out _ _ ?_;clear hK K;(try simp only[Act.put,sEa,sEb,sEc])
    have HI4:Hid (AcX W xb (.slice (some ⟨gb,off,none⟩) n c) r0 mb (.int .i64 (kkn w0 (i+1))) (.int .i64 0) (.slice none 0 0) (.int .i64 0) (.int .i64 0) w2):=hid (by rw[HI3.out];exact HI2.out)
    go_wp2
    go_roundg (10- (i+1))
    case measure=>omega
    case rel=>exact⟨i+1,by omega,by omega,by omega,by go_num,HI4⟩
  ·have hiz: ¬(i:Int)≤9:=by omega
   have hi10:i=10:=by omega
   subst hi10
   obtain⟨kd,hkd⟩: ∃k,k=zh w0:=⟨_,rfl⟩
   rw[ag5,←hkd]at HI
   have hk9:kd≤9:=by rw[hkd];exact vO w0
   have HKD:Hid (zh (ws.getD 0 [])=kd):=hid (by rw[hkd,HW.out.2.2.2.2.1])
   have HMK:=HI.out.mark
   obtain⟨kb,hkb⟩: ∃k,k=wr.heap.size:=⟨_,rfl⟩
   obtain⟨wk,hwk⟩: ∃w,w=wr.alloc (.cells #[.bool true] 4):=⟨_,rfl⟩
   rw[←hwk,←hkb]at HMK
   have HJ:=hid HMK
   have HWK:=hid (⟨hkb,hwk⟩:_∧_)
   clear hkd hkb hwk HMK
   go_upto_region 8 with fail
   rw[←HWK.out.2,←HWK.out.1]
   clear HWK HI
   by_cases hk0:kd=0
   ·have HO:Hid (xD ws=none):=hid (ajX (HKD.out.trans hk0))
    subst hk0
    have HJ:Hid (AcK W xb (.slice (some ⟨gb,off,none⟩) n c) kb true r0 mb (.int .i64 0) (.int .i64 0) (.slice none 0 0) (.int .i64 0) (.int .i64 0) wk):=HJ
    obtain⟨⟨m0,m1,m2,m3,m4⟩,⟨g0,g1,g2,g3,g4⟩,mlt⟩:=yq HJ.out.ii.bm
    obtain⟨⟨z0,z1,z2,z3,z4⟩,⟨y0,y1,y2,y3,y4⟩,zlt⟩:=yq HJ.out.ii.br
    obtain⟨wz,hwz,hbz,hfz,hvz⟩:=HJ.out.ii.fin (by have:=HRW.out.2.1;omega)
    unfold za za za za za za at hwz
    have HZ:=hid (⟨hwz,hbz,hfz,hvz⟩:_∧_∧_∧_)
    clear hwz hbz hfz hvz
    go_wp2
    rw[←HZ.out.1]
    obtain⟨⟨v0,v1,v2,v3,v4⟩,_,_⟩:=yq HZ.out.2.1
    refine bodyPost_ret (v:= .tuple #[.agg #[.int .i64 0,.int .i64 0,.slice none 0 0,.int .i64 0,.int .i64 0],.bool false]) (by simp[results,Tryz.results21,go_sem,v0,v1,v2,v3,v4]) rfl ?_
    exact⟨⟨0,0,none,0,0,[],0,0⟩,by rw[HO.out];rfl,(fun z hz=>by rw[HO.out]at hz;cases hz),⟨rfl,.nil ..⟩,HZ.out.2.2.1⟩
   ·by_cases hk3:kd=3
    ·have HO:Hid (xD ws=if ws.length=1 then some ⟨3,0,[],0,0⟩else none):=hid (ajY (HKD.out.trans hk3))
     subst hk3
     have HJ:Hid (AcK W xb (.slice (some ⟨gb,off,none⟩) n c) kb true r0 mb (.int .i64 3) (.int .i64 0) (.slice none 0 0) (.int .i64 0) (.int .i64 0) wk):=HJ
     have HE:Hid (((n:Int)==1)=(xD ws).isSome∧ ∀z,xD ws=some z→(⟨3,0,[],0,0⟩:Ac)=z):=hid (by
      rw[HO.out]
      by_cases hn1:n=1
      ·rw[if_pos (by rw[←HW.out.1];exact hn1),hn1]
       exact⟨rfl,fun z hz=>by injection hz⟩
      ·rw[if_neg (by rw[←HW.out.1];exact hn1)]
       exact⟨by show _=false;rw[beq_eq_false_iff_ne];omega,fun z hz=>by cases hz⟩)
     have hxc:wk.cell? ⟨xb,0,none⟩=some (.slice (some ⟨gb,off,none⟩) n c):=HJ.out.xx.cell 0
     obtain⟨⟨m0,m1,m2,m3,m4⟩,⟨g0,g1,g2,g3,g4⟩,mlt⟩:=yq HJ.out.ii.bm
     obtain⟨⟨z0,z1,z2,z3,z4⟩,⟨y0,y1,y2,y3,y4⟩,zlt⟩:=yq HJ.out.ii.br
     obtain⟨wz,hwz,hbz,hfz,hvz⟩:=HJ.out.ii.fin (by have:=HRW.out.2.1;omega)
     unfold za za za za za za at hwz
     have HZ:=hid (⟨hwz,hbz,hfz,hvz⟩:_∧_∧_∧_)
     clear hwz hbz hfz hvz
     clear hk9
     have ek: ∀o,wz.cell? ⟨mb,o,none⟩=wk.cell? ⟨mb,o,none⟩:=fun o=>World.cell?_of_block (HZ.out.2.2.2.1 mb (Ne.symm HJ.out.ii.ne))
     have ex:wz.cell? ⟨xb,0,none⟩=wk.cell? ⟨xb,0,none⟩:=World.cell?_of_block (HZ.out.2.2.2.1 xb (HJ.out.xx.ne_ HJ.out.ii.br (by decide)))
     go_upto_region 12 with fail
     refine zB (fun W'=>(W'.cell? ⟨mb,0,none⟩=some (.int .i64 3)∧W'.cell? ⟨mb,1,none⟩=some (.int .i64 0)∧W'.cell? ⟨mb,2,none⟩=some (.slice none 0 0)∧W'.cell? ⟨mb,3,none⟩=some (.int .i64 0)∧W'.cell? ⟨mb,4,none⟩=some (.int .i64 0))∧W'.cell? ⟨xb,0,none⟩=some (.slice (some ⟨gb,off,none⟩) n c)) 5 (by kernel_rfl) ⟨⟨m0,m1,m2,m3,m4⟩,hxc⟩ (fun hHeld=>?_)
     refine eT 0 hHeld ?_;(try simp only[Act.put,sEa,sEb,sEc]);refine eT 1 hHeld ?_;(try simp only[Act.put,sEa,sEb,sEc]);refine eT 2 hHeld ?_;(try simp only[Act.put,sEa,sEb,sEc]);refine eT 3 hHeld ?_;(try simp only[Act.put,sEa,sEb,sEc])
     refine eR 4 (fun K hK=>?_)
     go_simp
     rw[←HZ.out.1]
     refine hK.out _ _ ⟨⟨(ek 0).trans m0,(ek 1).trans m1,(ek 2).trans m2,(ek 3).trans m3,(ek 4).trans m4⟩,ex.trans hxc⟩ (fun hHeld=>?_)
     clear hK K
     (try simp only[Act.put,sEa,sEb,sEc])
     refine eL (fun K hK=>?_);go_simp;refine hK.out _ _ ?_;clear hK K;(try simp only[Act.put,sEa,sEb,sEc])
     go_wp2
     obtain⟨⟨v0,v1,v2,v3,v4⟩,_,_⟩:=yq HZ.out.2.1
     refine bodyPost_ret (v:= .tuple #[.agg #[.int .i64 3,.int .i64 0,.slice none 0 0,.int .i64 0,.int .i64 0],.bool ((n:Int)==1)]) (by simp[results,Tryz.results21,go_sem,v0,v1,v2,v3,v4]) rfl ?_
     exact⟨⟨3,0,none,0,0,[],0,0⟩,by rw[HE.out.1];rfl,HE.out.2,⟨rfl,.nil ..⟩,HZ.out.2.2.1.drew⟩
    ·by_cases hk7:kd=7
     ·have HO:=hid (ajZ (HKD.out.trans hk7))
      subst hk7
      have HJ:Hid (AcK W xb (.slice (some ⟨gb,off,none⟩) n c) kb true r0 mb (.int .i64 7) (.int .i64 0) (.slice none 0 0) (.int .i64 0) (.int .i64 0) wk):=HJ
      have hxc:wk.cell? ⟨xb,0,none⟩=some (.slice (some ⟨gb,off,none⟩) n c):=HJ.out.xx.cell 0
      by_cases hn4:n=4
      ·subst hn4
       obtain⟨w1,hw1⟩: ∃x,ws[1]? =some x:=⟨_,List.getElem?_eq_getElem (by rw[←HW.out.1];omega)⟩
       have HW1:Hid (ws.getD 1 []=w1∧w1.length≤90000):=hid ⟨by rw[List.getD_eq_getElem?_getD,hw1];rfl,HW.out.2.2.2.2.2 _ (List.mem_of_getElem? hw1)⟩
       have HC1:=hid (fun W' hb=>HC.out W' hb 1 w1 hw1)
       clear hw1
       obtain⟨w2,hw2⟩: ∃x,ws[2]? =some x:=⟨_,List.getElem?_eq_getElem (by rw[←HW.out.1];omega)⟩
       have HW2:Hid (ws.getD 2 []=w2∧w2.length≤90000):=hid ⟨by rw[List.getD_eq_getElem?_getD,hw2];rfl,HW.out.2.2.2.2.2 _ (List.mem_of_getElem? hw2)⟩
       have HC2:=hid (fun W' hb=>HC.out W' hb 2 w2 hw2)
       clear hw2
       obtain⟨w3,hw3⟩: ∃x,ws[3]? =some x:=⟨_,List.getElem?_eq_getElem (by rw[←HW.out.1];omega)⟩
       have HW3:Hid (ws.getD 3 []=w3∧w3.length≤90000):=hid ⟨by rw[List.getD_eq_getElem?_getD,hw3];rfl,HW.out.2.2.2.2.2 _ (List.mem_of_getElem? hw3)⟩
       have HC3:=hid (fun W' hb=>HC.out W' hb 3 w3 hw3)
       clear hw3
       have HO:Hid (xD ws=match zX w1,yR w2,yR w3 with
        |some b,some t,some n=>some ⟨7,0,b,t,n⟩
        |_,_,_=>none):=hid (by rw[HO.out,if_pos HW.out.1.symm,HW1.out.1,HW2.out.1,HW3.out.1];rfl)
       obtain⟨⟨m0,m1,m2,m3,m4⟩,⟨g0,g1,g2,g3,g4⟩,mlt⟩:=yq HJ.out.ii.bm
       have c1:=HC1.out _ HJ.out.ii.bw
       obtain⟨o1,ho1⟩: ∃o,o=zX w1:=⟨_,rfl⟩
       obtain⟨o2,ho2⟩: ∃o,o=yR w2:=⟨_,rfl⟩
       obtain⟨o3,ho3⟩: ∃o,o=yR w3:=⟨_,rfl⟩
       rw[←ho1,←ho2,←ho3]at HO
       have HLT:Hid (mb<wk.heap.size∧r0<wk.heap.size∧W.heap.size≤wk.heap.size∧kb<wk.heap.size):=hid ⟨mlt,HJ.out.ii.br.lt,HJ.out.ii.bw.size,HJ.out.kk.lt⟩
       have HF:=ab9 w1 HW1.out.2 wk
       unfold BtP at HF
       rw[←ho1]at HF
       have HF:=hid HF
       have HN2:Hid (∀w (m:Bool),w.cell? ⟨xb,0,none⟩=some (.slice (some ⟨gb,off,none⟩) 4 c)→w.cell? ⟨gb,off+2,none⟩=some (.string (S w2))→Blk w kb 4 #[.bool m]→Calls Tryz.prog 50 #[.int .i64 2,.pointer (some ⟨xb,0,none⟩),.pointer (some ⟨kb,0,none⟩)] w fun r w'=> ∃v:Int,r= .returned (.int .i64 v)∧(∀k,o2=some k→v=k)∧w'=w.setCell ⟨kb,0,none⟩ (.bool (m&&o2.isSome))):=hid (fun w m h1 h2 h3=>by rw[ho2];exact YA (i:=2) rfl h1 h2 HW2.out.2 (by omega) (by omega) h3)
       have HN3:Hid (∀w (m:Bool),w.cell? ⟨xb,0,none⟩=some (.slice (some ⟨gb,off,none⟩) 4 c)→w.cell? ⟨gb,off+3,none⟩=some (.string (S w3))→Blk w kb 4 #[.bool m]→Calls Tryz.prog 50 #[.int .i64 3,.pointer (some ⟨xb,0,none⟩),.pointer (some ⟨kb,0,none⟩)] w fun r w'=> ∃v:Int,r= .returned (.int .i64 v)∧(∀k,o3=some k→v=k)∧w'=w.setCell ⟨kb,0,none⟩ (.bool (m&&o3.isSome))):=hid (fun w m h1 h2 h3=>by rw[ho3];exact YA (i:=3) rfl h1 h2 HW3.out.2 (by omega) (by omega) h3)
       clear ho1 ho2 ho3
       go_wp2_with fail
       (with_reducible refine HF.out.mono ?_)
       rintro r w5 ⟨kl,kp,kn,kc,rfl,hkn,hkz,hkv,hb5⟩
       have HJ:=hid (HJ.out.below hb5)
       have HK:=hid (⟨hkn,hkz⟩:_∧_)
       have HV7:=hid (⟨hkv,trivial⟩:_∧True)
       clear m0 m1 m2 m3 m4 g0 g1 g2 g3 g4 mlt c1 hxc hkn hkz hkv hb5 HF
       have hx2:w5.cell? ⟨xb,0,none⟩=some (.slice (some ⟨gb,off,none⟩) 4 c):=HJ.out.xx.cell 0
       have HF:=hid (HN2.out w5 true hx2 (HC2.out _ HJ.out.ii.bw) HJ.out.kk)
       clear hx2
       go_wp2_with fail
       (with_reducible refine HF.out.mono ?_)
       rintro r w6 ⟨tt,rfl,htt,hwn⟩
       have HJ:Hid (AcK W xb (.slice (some ⟨gb,off,none⟩) 4 c) kb (true&&o2.isSome) r0 mb (.int .i64 7) (.int .i64 0) (.slice none 0 0) (.int .i64 0) (.int .i64 0) w6):=hid (by rw[hwn];exact HJ.out.setk _)
       have HV7:Hid (VwF wk.heap.size 1 boC w6 (.slice kp kn kc) kl∧True):=hid ⟨HV7.out.1.to (by rw[hwn];simp[World.setCell]) (fun c h1 _=>by
        have hc:c≠kb:=by have:=HLT.out.2.2.2;omega
        rw[hwn];exact Below.heap_setCell _ _ _ _ hc),trivial⟩
       have Htt:=hid htt
       clear htt hwn HF
       have hx3:w6.cell? ⟨xb,0,none⟩=some (.slice (some ⟨gb,off,none⟩) 4 c):=HJ.out.xx.cell 0
       have HF:=hid (HN3.out w6 (true&&o2.isSome) hx3 (HC3.out _ HJ.out.ii.bw) HJ.out.kk)
       clear hx3
       go_wp2_with fail
       (with_reducible refine HF.out.mono ?_)
       rintro r w7 ⟨bb,rfl,hbb,hwn⟩
       have HJ:Hid (AcK W xb (.slice (some ⟨gb,off,none⟩) 4 c) kb ((true&&o2.isSome)&&o3.isSome) r0 mb (.int .i64 7) (.int .i64 0) (.slice none 0 0) (.int .i64 0) (.int .i64 0) w7):=hid (by rw[hwn];exact HJ.out.setk _)
       have HV7:Hid (VwF wk.heap.size 1 boC w7 (.slice kp kn kc) kl∧True):=hid ⟨HV7.out.1.to (by rw[hwn];simp[World.setCell]) (fun c h1 _=>by
        have hc:c≠kb:=by have:=HLT.out.2.2.2;omega
        rw[hwn];exact Below.heap_setCell _ _ _ _ hc),trivial⟩
       have Hbb:=hid hbb
       clear hbb hwn HF
       have HE:=hid (aow HO.out HK.out.2 Htt.out Hbb.out)
       obtain⟨ob,hob⟩: ∃b,b=((true&&o2.isSome)&&o3.isSome):=⟨_,rfl⟩
       rw[←hob]at HJ
       have HOB:Hid (ob=(o2.isSome&&o3.isSome)):=hid (by rw[hob,Bool.true_and])
       clear hob
       obtain⟨⟨m0,m1,m2,m3,m4⟩,⟨g0,g1,g2,g3,g4⟩,mlt⟩:=yq HJ.out.ii.bm
       go_upto_region 18 with fail
       obtain⟨wn,hwn⟩: ∃wn,wn=((w7.setCell ⟨mb,2,none⟩ (.slice kp kn kc)).setCell ⟨mb,3,none⟩ (.int .i64 tt)).setCell ⟨mb,4,none⟩ (.int .i64 bb):=⟨_,rfl⟩
       rw[←hwn]
       have HJN:Hid (AcK W xb (.slice (some ⟨gb,off,none⟩) 4 c) kb ob r0 mb (.int .i64 7) (.int .i64 0) (.slice kp kn kc) (.int .i64 tt) (.int .i64 bb) wn):=hid (by rw[hwn];exact((HJ.out.set2 _).set3 _).set4 _)
       have HKV:Hid (VwF wk.heap.size 1 boC wn (.slice kp kn kc) kl):=hid (HV7.out.1.to (by rw[hwn];simp[World.setCell]) (fun c h1 _=>by
        have hc:c≠mb:=by have:=HLT.out.1;omega
        rw[hwn];exact((Below.heap_setCell _ _ _ _ hc).trans (Below.heap_setCell _ _ _ _ hc)).trans (Below.heap_setCell _ _ _ _ hc)))
       clear hwn m0 m1 m2 m3 m4 g0 g1 g2 g3 g4 mlt HJ
       have HJ:=HJN
       clear HJN
       have hkc:wn.cell? ⟨kb,0,none⟩=some (.bool ob):=HJ.out.kk.cell 0
       have HAT:Hid (∀wz,(∀b,b≠r0→wz.heap[b]? =wn.heap[b]?)∧wn.heap.size≤wz.heap.size→AcF W.heap.size wz ⟨7,0,kp,kn,kc,kl,tt,bb⟩):=hid fun wz h=>⟨HK.out.1,(HKV.out.to h.2 fun b h1 _=>h.1 b (by have:=HLT.out.2.1;omega)).mono HLT.out.2.2.1⟩
       have HE2:Hid ((ob&&o1.isSome)=(xD ws).isSome):=hid (by rw[HOB.out];exact HE.out.1)
       cases ob
       all_goals
        obtain⟨⟨m0,m1,m2,m3,m4⟩,⟨g0,g1,g2,g3,g4⟩,mlt⟩:=yq HJ.out.ii.bm
        obtain⟨⟨z0,z1,z2,z3,z4⟩,⟨y0,y1,y2,y3,y4⟩,zlt⟩:=yq HJ.out.ii.br
        obtain⟨wz,hwz,hbz,hfz,hvz⟩:=HJ.out.ii.fin (by have:=HRW.out.2.1;omega)
        unfold za za za za za za at hwz
        have HZ:=hid (⟨hwz,hbz,hfz,hvz⟩:_∧_∧_∧_)
        clear hwz hbz hfz hvz
        go_wp2
        rw[←HZ.out.1]
        obtain⟨⟨v0,v1,v2,v3,v4⟩,_,_⟩:=yq HZ.out.2.1
       ·refine bodyPost_ret (v:= .tuple #[.agg #[.int .i64 7,.int .i64 0,.slice kp kn kc,.int .i64 tt,.int .i64 bb],.bool false]) (by simp[results,Tryz.results21,go_sem,v0,v1,v2,v3,v4]) rfl ?_
        exact⟨⟨7,0,kp,kn,kc,kl,tt,bb⟩,by rw[←HE2.out];rfl,HE.out.2,HAT.out _ HZ.out.2.2.2,HZ.out.2.2.1⟩
       ·refine bodyPost_ret (v:= .tuple #[.agg #[.int .i64 7,.int .i64 0,.slice kp kn kc,.int .i64 tt,.int .i64 bb],.bool o1.isSome]) (by simp[results,Tryz.results21,go_sem,v0,v1,v2,v3,v4]) rfl ?_
        exact⟨⟨7,0,kp,kn,kc,kl,tt,bb⟩,by rw[←HE2.out];rfl,HE.out.2,HAT.out _ HZ.out.2.2.2,HZ.out.2.2.1⟩
      ·have HO:Hid (xD ws=none):=hid (by rw[HO.out,if_neg (by rw[←HW.out.1];exact hn4)])
       have hnz:((n:Int)==4)=false:=by rw[beq_eq_false_iff_ne];omega
       have hnz2:((n:Int) != 4)=true:=by rw[bne_iff_ne];omega
       obtain⟨⟨m0,m1,m2,m3,m4⟩,⟨g0,g1,g2,g3,g4⟩,mlt⟩:=yq HJ.out.ii.bm
       obtain⟨⟨z0,z1,z2,z3,z4⟩,⟨y0,y1,y2,y3,y4⟩,zlt⟩:=yq HJ.out.ii.br
       obtain⟨wz,hwz,hbz,hfz,hvz⟩:=HJ.out.ii.fin (by have:=HRW.out.2.1;omega)
       unfold za za za za za za at hwz
       have HZ:=hid (⟨hwz,hbz,hfz,hvz⟩:_∧_∧_∧_)
       clear hwz hbz hfz hvz
       go_wp2
       rw[←HZ.out.1]
       obtain⟨⟨v0,v1,v2,v3,v4⟩,_,_⟩:=yq HZ.out.2.1
       refine bodyPost_ret (v:= .tuple #[.agg #[.int .i64 7,.int .i64 0,.slice none 0 0,.int .i64 0,.int .i64 0],.bool false]) (by simp[results,Tryz.results21,go_sem,v0,v1,v2,v3,v4]) rfl ?_
       exact⟨⟨7,0,none,0,0,[],0,0⟩,by rw[HO.out];rfl,(fun z hz=>by rw[HO.out]at hz;cases hz),⟨rfl,.nil ..⟩,HZ.out.2.2.1⟩
     ·have HO:=hid (aj0 (by rw[HKD.out];exact hk0) (by rw[HKD.out];exact hk3) (by rw[HKD.out];exact hk7))
      rw[HKD.out]at HO
      have k0:((kd:Int)==0)=false:=by rw[beq_eq_false_iff_ne];omega
      have k3:((kd:Int)==3)=false:=by rw[beq_eq_false_iff_ne];omega
      have k7:((kd:Int)==7)=false:=by rw[beq_eq_false_iff_ne];omega
      have hxc:wk.cell? ⟨xb,0,none⟩=some (.slice (some ⟨gb,off,none⟩) n c):=HJ.out.xx.cell 0
      clear hk0 hk3 hk7
      by_cases hn2:n=2
      ·subst hn2
       obtain⟨w1,hw1⟩: ∃x,ws[1]? =some x:=⟨_,List.getElem?_eq_getElem (by rw[←HW.out.1];omega)⟩
       have HW1:Hid (ws.getD 1 []=w1∧w1.length≤90000):=hid ⟨by rw[List.getD_eq_getElem?_getD,hw1];rfl,HW.out.2.2.2.2.2 _ (List.mem_of_getElem? hw1)⟩
       have HC1:=hid (fun W' hb=>HC.out W' hb 1 w1 hw1)
       clear hw1
       have HO:Hid (xD ws=match yR w1 with
        |some n=>some ⟨kd,n,[],0,0⟩
        |none=>none):=hid (by rw[HO.out,if_pos HW.out.1.symm,HW1.out.1];rfl)
       obtain⟨⟨m0,m1,m2,m3,m4⟩,⟨g0,g1,g2,g3,g4⟩,mlt⟩:=yq HJ.out.ii.bm
       obtain⟨o1,ho1⟩: ∃o,o=yR w1:=⟨_,rfl⟩
       rw[←ho1]at HO
       have HN1:Hid (∀w (m:Bool),w.cell? ⟨xb,0,none⟩=some (.slice (some ⟨gb,off,none⟩) 2 c)→w.cell? ⟨gb,off+1,none⟩=some (.string (S w1))→Blk w kb 4 #[.bool m]→Calls Tryz.prog 50 #[.int .i64 1,.pointer (some ⟨xb,0,none⟩),.pointer (some ⟨kb,0,none⟩)] w fun r w'=> ∃v:Int,r= .returned (.int .i64 v)∧(∀k,o1=some k→v=k)∧w'=w.setCell ⟨kb,0,none⟩ (.bool (m&&o1.isSome))):=hid (fun w m h1 h2 h3=>by rw[ho1];exact YA (i:=1) rfl h1 h2 HW1.out.2 (by omega) (by omega) h3)
       clear ho1
       have hx1:wk.cell? ⟨xb,0,none⟩=some (.slice (some ⟨gb,off,none⟩) 2 c):=HJ.out.xx.cell 0
       have HF:=hid (HN1.out wk true hx1 (HC1.out _ HJ.out.ii.bw) HJ.out.kk)
       clear hx1
       go_wp2_with fail
       (with_reducible refine HF.out.mono ?_)
       rintro r w6 ⟨tt,rfl,htt,hwn⟩
       have HJ:Hid (AcK W xb (.slice (some ⟨gb,off,none⟩) 2 c) kb (true&&o1.isSome) r0 mb (.int .i64 kd) (.int .i64 0) (.slice none 0 0) (.int .i64 0) (.int .i64 0) w6):=hid (by rw[hwn];exact HJ.out.setk _)
       have Htt:=hid htt
       clear htt hwn HF
       clear m0 m1 m2 m3 m4 g0 g1 g2 g3 g4 mlt hxc
       obtain⟨⟨m0,m1,m2,m3,m4⟩,⟨g0,g1,g2,g3,g4⟩,mlt⟩:=yq HJ.out.ii.bm
       go_upto_region 22 with fail
       obtain⟨wn,hwn⟩: ∃wn,wn=w6.setCell ⟨mb,1,none⟩ (.int .i64 tt):=⟨_,rfl⟩
       rw[←hwn]
       have HJN:Hid (AcK W xb (.slice (some ⟨gb,off,none⟩) 2 c) kb o1.isSome r0 mb (.int .i64 kd) (.int .i64 tt) (.slice none 0 0) (.int .i64 0) (.int .i64 0) wn):=hid (by rw[hwn];have h:=HJ.out.set1 (.int .i64 tt);rwa[Bool.true_and]at h)
       clear hwn m0 m1 m2 m3 m4 g0 g1 g2 g3 g4 mlt HJ
       have HJ:=HJN
       clear HJN
       have hkc:wn.cell? ⟨kb,0,none⟩=some (.bool o1.isSome):=HJ.out.kk.cell 0
       have HE:Hid (o1.isSome=(xD ws).isSome∧ ∀z,xD ws=some z→(⟨kd,tt,[],0,0⟩:Ac)=z):=hid (by
        rw[HO.out]
        cases o1 with
        |none=>exact⟨rfl,fun z hz=>by cases hz⟩
        |some a=>exact⟨rfl,fun z hz=>by injection hz with hz;rw[←hz,Htt.out _ rfl]⟩)
       obtain⟨⟨m0,m1,m2,m3,m4⟩,⟨g0,g1,g2,g3,g4⟩,mlt⟩:=yq HJ.out.ii.bm
       obtain⟨⟨z0,z1,z2,z3,z4⟩,⟨y0,y1,y2,y3,y4⟩,zlt⟩:=yq HJ.out.ii.br
       obtain⟨wz,hwz,hbz,hfz,hvz⟩:=HJ.out.ii.fin (by have:=HRW.out.2.1;omega)
       unfold za za za za za za at hwz
       have HZ:=hid (⟨hwz,hbz,hfz,hvz⟩:_∧_∧_∧_)
       clear hwz hbz hfz hvz
       have ek: ∀o,wz.cell? ⟨mb,o,none⟩=wn.cell? ⟨mb,o,none⟩:=fun o=>World.cell?_of_block (HZ.out.2.2.2.1 mb (Ne.symm HJ.out.ii.ne))
       have eb:wz.cell? ⟨kb,0,none⟩=wn.cell? ⟨kb,0,none⟩:=World.cell?_of_block (HZ.out.2.2.2.1 kb (HJ.out.kk.ne_ HJ.out.ii.br (by decide)))
       refine zB (fun W'=>(W'.cell? ⟨mb,0,none⟩=some (.int .i64 kd)∧W'.cell? ⟨mb,1,none⟩=some (.int .i64 tt)∧W'.cell? ⟨mb,2,none⟩=some (.slice none 0 0)∧W'.cell? ⟨mb,3,none⟩=some (.int .i64 0)∧W'.cell? ⟨mb,4,none⟩=some (.int .i64 0))∧W'.cell? ⟨kb,0,none⟩=some (.bool o1.isSome)) 3 (by kernel_rfl) ⟨⟨m0,m1,m2,m3,m4⟩,hkc⟩ (fun hHeld=>?_)
       refine eT 0 hHeld ?_;(try simp only[Act.put,sEa,sEb,sEc]);refine eT 1 hHeld ?_;(try simp only[Act.put,sEa,sEb,sEc])
       refine eR 2 (fun K hK=>?_)
       go_simp
       rw[←HZ.out.1]
       refine hK.out _ _ ⟨⟨(ek 0).trans m0,(ek 1).trans m1,(ek 2).trans m2,(ek 3).trans m3,(ek 4).trans m4⟩,eb.trans hkc⟩ (fun hHeld=>?_)
       clear hK K
       (try simp only[Act.put,sEa,sEb,sEc])
       refine eL (fun K hK=>?_);go_simp;refine hK.out _ _ ?_;clear hK K;(try simp only[Act.put,sEa,sEb,sEc])
       go_wp2
       obtain⟨⟨v0,v1,v2,v3,v4⟩,_,_⟩:=yq HZ.out.2.1
       refine bodyPost_ret (v:= .tuple #[.agg #[.int .i64 kd,.int .i64 tt,.slice none 0 0,.int .i64 0,.int .i64 0],.bool o1.isSome]) (by simp[results,Tryz.results21,go_sem,v0,v1,v2,v3,v4]) rfl ?_
       exact⟨⟨kd,tt,none,0,0,[],0,0⟩,by rw[HE.out.1];rfl,HE.out.2,⟨rfl,.nil ..⟩,HZ.out.2.2.1.drew⟩
      ·have HO:Hid (xD ws=none):=hid (by rw[HO.out,if_neg (by rw[←HW.out.1];exact hn2)])
       have hnz:((n:Int)==2)=false:=by rw[beq_eq_false_iff_ne];omega
       have hnz2:((n:Int) != 2)=true:=by rw[bne_iff_ne];omega
       obtain⟨⟨m0,m1,m2,m3,m4⟩,⟨g0,g1,g2,g3,g4⟩,mlt⟩:=yq HJ.out.ii.bm
       obtain⟨⟨z0,z1,z2,z3,z4⟩,⟨y0,y1,y2,y3,y4⟩,zlt⟩:=yq HJ.out.ii.br
       obtain⟨wz,hwz,hbz,hfz,hvz⟩:=HJ.out.ii.fin (by have:=HRW.out.2.1;omega)
       unfold za za za za za za at hwz
       have HZ:=hid (⟨hwz,hbz,hfz,hvz⟩:_∧_∧_∧_)
       clear hwz hbz hfz hvz
       go_wp2
       rw[←HZ.out.1]
       obtain⟨⟨v0,v1,v2,v3,v4⟩,_,_⟩:=yq HZ.out.2.1
       refine bodyPost_ret (v:= .tuple #[.agg #[.int .i64 kd,.int .i64 0,.slice none 0 0,.int .i64 0,.int .i64 0],.bool false]) (by simp[results,Tryz.results21,go_sem,v0,v1,v2,v3,v4]) rfl ?_
       exact⟨⟨kd,0,none,0,0,[],0,0⟩,by rw[HO.out];rfl,(fun z hz=>by rw[HO.out]at hz;cases hz),⟨rfl,.nil ..⟩,HZ.out.2.2.1⟩
end
section
open Go.RowKit Go.Lib
theorem af2 (l:List Bool):(XV l).length≤l.length+1:=by
 unfold XV
 split
 ·simp
 ·simp
theorem X3 {x:Int} (h:YH x=true):(Xb x).length≤100:=by
 obtain⟨h1,h2,h3⟩:=aam h
 rw[h1]
 exact X4 _ (by omega)
theorem Qh {x:Int} (h:YH x=true):okZ x:=by
 obtain⟨h1,h2,h3⟩:=aam h
 unfold okZ
 omega
theorem aCB (s1 s2 s3:Bs):S ([99,114,97,115,104,32]++s1++[32]++s2++[32]++s3)=({ data:= #[99,114,97,115,104,32] } :ByteArray)++S s1++({ data:= #[32] } :ByteArray)++S s2++({ data:= #[32] } :ByteArray)++S s3:=by
 rw[←qz,←qz,←qz,←qz,←qz]
 rfl
theorem aCA (s1 s2:Bs):S (s1++[32]++s2)=S s1++({ data:= #[32] } :ByteArray)++S s2:=by
 rw[←qz,←qz]
 rfl
theorem aMD (k:Nat):(kw k).length≤10:=by
 unfold kw
 split<;>decide
theorem aR2 {a:Ac} (hk:a.kind=7) (h:okA a=true):YH a.torn=true∧YH a.bytes=true∧a.keep.length≤64:=by
 unfold okA at h
 rw[hk]at h
 simpa using h
theorem aR4 {a:Ac} (h3:a.kind≠3) (h7:a.kind≠7) (h:okA a=true):YH a.n=true:=by
 unfold okA at h
 rw[if_neg h3,if_neg h7]at h
 simp only[Bool.and_eq_true]at h
 exact h.2
theorem aR3 {a:Ac} (h:okA a=true):1≤a.kind∧a.kind≤9:=by
 unfold okA at h
 simp only[Bool.and_eq_true,decide_eq_true_eq]at h
 exact h.1
theorem aaZ {W:World} {a:AcV} (ha:acd W a) (h:okA a.ac=true):Calls Tryz.prog 27 #[.agg #[.int .i64 a.kind,.int .i64 a.n,.slice a.kp a.kn a.kc,.int .i64 a.torn,.int .i64 a.bytes]] W fun r w'=>r= .returned (.tuple #[.string (S (kH a.ac)),.bool true])∧Below W.heap.size W w':=by
 obtain⟨kd,n,kp,kn,kc,kl,tt,bb⟩:=a
 obtain⟨k1,k2⟩:=aR3 h
 dsimp only[AcV.ac]at k1 k2
 have HK:=hid (⟨k1,k2⟩:_∧_)
 have hn:=ha.n
 have hv:=ha.k
 dsimp only at hn hv
 have HN:=hid hn
 clear hn
 obtain⟨xb,hxb⟩: ∃k,k=W.heap.size:=⟨_,rfl⟩
 obtain⟨w1,hw1⟩: ∃w,w=W.alloc (.cells #[.int .i64 kd,.int .i64 n,.slice kp kn kc,.int .i64 tt,.int .i64 bb] 53):=⟨_,rfl⟩
 have hB:Blk w1 xb 53 #[.int .i64 kd,.int .i64 n,.slice kp kn kc,.int .i64 tt,.int .i64 bb]:=by rw[hw1,hxb];exact Blk.new _ _ _
 have HB:=hid (⟨hB,(by rw[hw1];exact(Below.refl _ W).alloc (Nat.le_refl _) _:Below W.heap.size W w1),hxb,hw1⟩:_∧_∧_∧_)
 obtain⟨⟨c0,c1,c2,c3,c4⟩,_,_⟩:=yq hB
 clear hB hxb hw1 ha
 by_cases h3:kd=3
 ·subst h3
  have HL:Hid (kH (AcV.ac ⟨3,n,kp,kn,kc,kl,tt,bb⟩)=[114,111,117,110,100]):=hid rfl
  rw[HL.out]
  go_enter Tryz.func27,Tryz.ntmps27
  go_upto_region 1 with fail
  rw[←HB.out.2.2.1,←HB.out.2.2.2]
  go_wp2
  go_ret2
  exact⟨rfl,HB.out.2.1⟩
 ·by_cases h7:kd=7
  ·subst h7
   obtain⟨m1,m2,m3⟩:=aR2 rfl h
   dsimp only[AcV.ac]at m1 m2 m3
   have HLE:=hid (Ki kl kp kn kc HN.out (by omega) w1.drew ((hv.below HB.out.2.1).below (Below.refl w1.heap.size w1).drew))
   have HD1:=hid (fun w=>vl (Qh m1) w)
   have HD2:=hid (fun w=>vl (Qh m2) w)
   have HM1:Hid (∀w,Calls Tryz.prog 36 #[.int .i64 tt] w fun e w'=>e= .returned (.bool true)∧w=w'):=hid fun w=>by rw[←m1];exact QE tt w
   have HM2:Hid (∀w,Calls Tryz.prog 36 #[.int .i64 bb] w fun e w'=>e= .returned (.bool true)∧w=w'):=hid fun w=>by rw[←m2];exact QE bb w
   have l1:=af2 kl
   have l2:=X3 m1
   have l3:=X3 m2
   obtain⟨s1,hs1⟩: ∃s,s=XV kl:=⟨_,rfl⟩
   obtain⟨s2,hs2⟩: ∃s,s=Xb tt:=⟨_,rfl⟩
   obtain⟨s3,hs3⟩: ∃s,s=Xb bb:=⟨_,rfl⟩
   have HL:Hid (kH (AcV.ac ⟨7,n,kp,kn,kc,kl,tt,bb⟩)=[99,114,97,115,104,32]++s1++[32]++s2++[32]++s3):=hid (by
    rw[hs1,hs2,hs3]
    show abI [kw 7,XV kl,Xb tt,Xb bb]=_
    simp[abI,kw])
   obtain⟨sx,hsx⟩: ∃sx,sx=kH (AcV.ac ⟨7,n,kp,kn,kc,kl,tt,bb⟩):=⟨_,rfl⟩
   have HSX:Hid (S sx=({ data:= #[99,114,97,115,104,32] } :ByteArray)++S s1++({ data:= #[32] } :ByteArray)++S s2++({ data:= #[32] } :ByteArray)++S s3):=hid (by rw[hsx,HL.out,aCB])
   rw[←hsx]
   clear hsx HL
   rw[←hs1]at HLE l1
   rw[←hs2]at HD1 l2
   rw[←hs3]at HD2 l3
   have hl1:s1.length≤65:=by omega
   have hkn:(kn:Int)≤64:=by have:=HN.out;omega
   clear hs1 hs2 hs3 m1 m2 l1 h HK hv
   go_enter Tryz.func27,Tryz.ntmps27
   go_upto_region 6 with fail
   rw[←HB.out.2.2.1,←HB.out.2.2.2]
   refine zB (fun W'=>W'.cell? ⟨xb,0,none⟩=some (.int .i64 7)∧W'.cell? ⟨xb,1,none⟩=some (.int .i64 n)∧W'.cell? ⟨xb,2,none⟩=some (.slice kp kn kc)∧W'.cell? ⟨xb,3,none⟩=some (.int .i64 tt)∧W'.cell? ⟨xb,4,none⟩=some (.int .i64 bb)) 35 (by kernel_rfl) ⟨c0,c1,c2,c3,c4⟩ (fun hHeld=>?_)
   have HX:Hid (Below w1.heap.size w1 w1.drew):=hid (Below.refl w1.heap.size w1).drew
   refine eT 0 hHeld ?_;(try simp only[Act.put,sEa,sEb,sEc]);refine eT 1 hHeld ?_;(try simp only[Act.put,sEa,sEb,sEc]);refine eT 2 hHeld ?_;(try simp only[Act.put,sEa,sEb,sEc]);refine eT 6 hHeld ?_;(try simp only[Act.put,sEa,sEb,sEc]);refine eT 7 hHeld ?_;(try simp only[Act.put,sEa,sEb,sEc]);refine eT 8 hHeld ?_;(try simp only[Act.put,sEa,sEb,sEc]);refine eT 12 hHeld ?_;(try simp only[Act.put,sEa,sEb,sEc]);refine eT 13 hHeld ?_;(try simp only[Act.put,sEa,sEb,sEc]);refine eT 14 hHeld ?_;(try simp only[Act.put,sEa,sEb,sEc]);refine eT 17 hHeld ?_;(try simp only[Act.put,sEa,sEb,sEc]);refine eT 18 hHeld ?_;(try simp only[Act.put,sEa,sEb,sEc]);refine eT 19 hHeld ?_;(try simp only[Act.put,sEa,sEb,sEc])
   refine eR 3 (fun K hK=>?_)
   go_simp
   (with_reducible refine(HLE.out).mono ?_)
   rintro r w9 ⟨rfl,rfl⟩
   refine hK.out _ _ hHeld (fun hHeld=>?_)
   clear hK K
   (try simp only[Act.put,sEa,sEb,sEc])
   have q2: ¬9223372036854775807<6+s1.length:=by omega
   have q3: ¬9223372036854775807<6+s1.length+1:=by omega
   have q4: ¬9223372036854775807<6+s1.length+1+s2.length:=by omega
   have q5: ¬9223372036854775807<6+s1.length+1+s2.length+1:=by omega
   have q6: ¬9223372036854775807<6+s1.length+1+s2.length+1+s3.length:=by omega
   refine eT 4 hHeld ?_;(try simp only[Act.put,sEa,sEb,sEc]);refine eT 5 hHeld ?_;(try simp only[Act.put,sEa,sEb,sEc])
   refine eR 9 (fun K hK=>?_)
   go_simp
   (with_reducible refine(HD1.out _).mono ?_)
   rintro r w9 ⟨rfl,hb⟩
   have HX:=hid (HX.out.trans (hb.mono HX.out.size))
   obtain⟨⟨c0,c1,c2,c3,c4⟩,_,_⟩:=yq (HB.out.1.below HX.out HB.out.1.lt)
   clear hb
   refine hK.out _ _ ⟨c0,c1,c2,c3,c4⟩ (fun hHeld=>?_)
   clear hK K
   (try simp only[Act.put,sEa,sEb,sEc])
   refine eT 10 hHeld ?_;(try simp only[Act.put,sEa,sEb,sEc]);refine eT 11 hHeld ?_;(try simp only[Act.put,sEa,sEb,sEc])
   refine eR 15 (fun K hK=>?_)
   go_simp
   (with_reducible refine(HD2.out _).mono ?_)
   rintro r w15 ⟨rfl,hb⟩
   have HX:=hid (HX.out.trans (hb.mono HX.out.size))
   obtain⟨⟨c0,c1,c2,c3,c4⟩,_,_⟩:=yq (HB.out.1.below HX.out HB.out.1.lt)
   clear hb
   refine hK.out _ _ ⟨c0,c1,c2,c3,c4⟩ (fun hHeld=>?_)
   clear hK K
   (try simp only[Act.put,sEa,sEb,sEc])
   refine eT 16 hHeld ?_;(try simp only[Act.put,sEa,sEb,sEc])
   refine eR 20 (fun K hK=>?_)
   go_simp
   (with_reducible refine(HM1.out _).mono ?_)
   rintro r w9 ⟨rfl,rfl⟩
   refine hK.out _ _ hHeld (fun hHeld=>?_)
   clear hK K
   (try simp only[Act.put,sEa,sEb,sEc])
   refine eT 21 hHeld ?_;(try simp only[Act.put,sEa,sEb,sEc]);refine eT 22 hHeld ?_;(try simp only[Act.put,sEa,sEb,sEc]);refine eT 23 hHeld ?_;(try simp only[Act.put,sEa,sEb,sEc]);refine eT 24 hHeld ?_;(try simp only[Act.put,sEa,sEb,sEc])
   refine eR 25 (fun K hK=>?_)
   go_simp
   (with_reducible refine(HM2.out _).mono ?_)
   rintro r w9 ⟨rfl,rfl⟩
   refine hK.out _ _ hHeld (fun hHeld=>?_)
   clear hK K
   (try simp only[Act.put,sEa,sEb,sEc])
   refine eT 26 hHeld ?_;(try simp only[Act.put,sEa,sEb,sEc]);refine eT 27 hHeld ?_;(try simp only[Act.put,sEa,sEb,sEc]);refine eT 28 hHeld ?_;(try simp only[Act.put,sEa,sEb,sEc]);refine eT 29 hHeld ?_;(try simp only[Act.put,sEa,sEb,sEc]);refine eT 30 hHeld ?_;(try simp only[Act.put,sEa,sEb,sEc]);refine eT 31 hHeld ?_;(try simp only[Act.put,sEa,sEb,sEc]);refine eT 32 hHeld ?_;(try simp only[Act.put,sEa,sEb,sEc]);refine eT 33 hHeld ?_;(try simp only[Act.put,sEa,sEb,sEc]);refine eT 34 hHeld ?_;(try simp only[Act.put,sEa,sEb,sEc]);refine eL (fun K hK=>?_);go_simp;refine hK.out _ _ ?_;clear hK K;(try simp only[Act.put,sEa,sEb,sEc])
   go_wp2
   go_ret2
   exact⟨by rw[HSX.out];rfl,HB.out.2.1.trans (HX.out.mono HB.out.2.1.size)⟩
  ·have m1:=aR4 (a:=AcV.ac ⟨kd,n,kp,kn,kc,kl,tt,bb⟩) h3 h7 h
   dsimp only[AcV.ac]at m1
   obtain⟨k,hk⟩: ∃k:Nat,(k:Int)=kd:=⟨kd.toNat,by omega⟩
   subst hk
   have HNM:=hid (aaG k (by omega) w1.drew)
   have HD1:=hid (fun w=>vl (Qh m1) w)
   have HM1:Hid (∀w,Calls Tryz.prog 36 #[.int .i64 n] w fun e w'=>e= .returned (.bool true)∧w=w'):=hid fun w=>by rw[←m1];exact QE n w
   have l2:=X3 m1
   have l1:=aMD k
   obtain⟨s1,hs1⟩: ∃s,s=kw k:=⟨_,rfl⟩
   obtain⟨s2,hs2⟩: ∃s,s=Xb n:=⟨_,rfl⟩
   have HL:Hid (kH (AcV.ac ⟨k,n,kp,kn,kc,kl,tt,bb⟩)=s1++[32]++s2):=hid (by
    rw[hs1,hs2]
    unfold kH aos AcV.ac
    rw[if_pos ⟨k1,k2⟩,if_neg h3,if_neg h7]
    simp[abI,kwI])
   obtain⟨sx,hsx⟩: ∃sx,sx=kH (AcV.ac ⟨k,n,kp,kn,kc,kl,tt,bb⟩):=⟨_,rfl⟩
   have HSX:Hid (S sx=S s1++({ data:= #[32] } :ByteArray)++S s2):=hid (by rw[hsx,HL.out,aCA])
   rw[←hsx]
   clear hsx HL
   rw[←hs1]at HNM l1
   rw[←hs2]at HD1 l2
   have k3:((k:Int)==3)=false:=by rw[beq_eq_false_iff_ne];exact h3
   have k7:((k:Int)==7)=false:=by rw[beq_eq_false_iff_ne];exact h7
   have k4: ¬(k:Int)<1:=by omega
   have k5: ¬9<(k:Int):=by omega
   clear hs1 hs2 m1 h HK hv h3 h7 HN
   go_enter Tryz.func27,Tryz.ntmps27
   go_upto_region 7 with fail
   rw[←HB.out.2.2.1,←HB.out.2.2.2]
   refine zB (fun W'=>W'.cell? ⟨xb,0,none⟩=some (.int .i64 k)∧W'.cell? ⟨xb,1,none⟩=some (.int .i64 n)∧W'.cell? ⟨xb,2,none⟩=some (.slice kp kn kc)∧W'.cell? ⟨xb,3,none⟩=some (.int .i64 tt)∧W'.cell? ⟨xb,4,none⟩=some (.int .i64 bb)) 12 (by kernel_rfl) ⟨c0,c1,c2,c3,c4⟩ (fun hHeld=>?_)
   have HX:Hid (Below w1.heap.size w1 w1.drew):=hid (Below.refl w1.heap.size w1).drew
   refine eT 0 hHeld ?_;(try simp only[Act.put,sEa,sEb,sEc]);refine eT 1 hHeld ?_;(try simp only[Act.put,sEa,sEb,sEc]);refine eT 4 hHeld ?_;(try simp only[Act.put,sEa,sEb,sEc]);refine eT 5 hHeld ?_;(try simp only[Act.put,sEa,sEb,sEc]);refine eT 8 hHeld ?_;(try simp only[Act.put,sEa,sEb,sEc]);refine eT 9 hHeld ?_;(try simp only[Act.put,sEa,sEb,sEc])
   refine eR 2 (fun K hK=>?_)
   go_simp
   (with_reducible refine(HNM.out).mono ?_)
   rintro r w2 ⟨rfl,hb⟩
   have HX:=hid (HX.out.trans (hb.mono HX.out.size))
   obtain⟨⟨c0,c1,c2,c3,c4⟩,_,_⟩:=yq (HB.out.1.below HX.out HB.out.1.lt)
   clear hb
   refine hK.out _ _ ⟨c0,c1,c2,c3,c4⟩ (fun hHeld=>?_)
   clear hK K
   (try simp only[Act.put,sEa,sEb,sEc])
   have q2: ¬9223372036854775807<s1.length+1:=by omega
   have q3: ¬9223372036854775807<s1.length+1+s2.length:=by omega
   refine eT 3 hHeld ?_;(try simp only[Act.put,sEa,sEb,sEc])
   refine eR 6 (fun K hK=>?_)
   go_simp
   (with_reducible refine(HD1.out _).mono ?_)
   rintro r w6 ⟨rfl,hb⟩
   have HX:=hid (HX.out.trans (hb.mono HX.out.size))
   obtain⟨⟨c0,c1,c2,c3,c4⟩,_,_⟩:=yq (HB.out.1.below HX.out HB.out.1.lt)
   clear hb
   refine hK.out _ _ ⟨c0,c1,c2,c3,c4⟩ (fun hHeld=>?_)
   clear hK K
   (try simp only[Act.put,sEa,sEb,sEc])
   refine eT 7 hHeld ?_;(try simp only[Act.put,sEa,sEb,sEc])
   refine eR 10 (fun K hK=>?_)
   go_simp
   (with_reducible refine(HM1.out _).mono ?_)
   rintro r w9 ⟨rfl,rfl⟩
   refine hK.out _ _ hHeld (fun hHeld=>?_)
   clear hK K
   (try simp only[Act.put,sEa,sEb,sEc])
   refine eT 11 hHeld ?_;(try simp only[Act.put,sEa,sEb,sEc]);refine eL (fun K hK=>?_);go_simp;refine hK.out _ _ ?_;clear hK K;(try simp only[Act.put,sEa,sEb,sEc])
   go_wp2
   go_ret2
   exact⟨by rw[HSX.out];rfl,HB.out.2.1.trans (HX.out.mono HB.out.2.1.size)⟩
end
end Go.Proofs.YtcdiljebkpikbaaGreat
