/- Parts of the proof: Seq Scf Scg. -/
import Derived.Test.YtcdiljebkpikbaaGreatU31
import Derived.Test.YtcdiljebkpikbaaGreatU32
import Derived.Test.YtcdiljebkpikbaaGreatU34
import Derived.Test.YtcdiljebkpikbaaGreatU37
import Derived.Test.YtcdiljebkpikbaaGreatU38
set_option linter.all false
set_option maxRecDepth 100000
set_option maxHeartbeats 64000000
namespace Go.Proofs.YtcdiljebkpikbaaGreat
section
open Go.RowKit Go.Lib
structure ScS (x:ScV):Prop where
 d:x.x.dn≤1000
 p:x.x.pn≤1000
 l:x.x.ln≤1000
 i:x.x.im≤1000
 pi: ∀q∈x.x.ps,q.n≤1000
 li: ∀q∈x.x.ls,q.n≤1000
 a:x.an≤100000
theorem JH {W:World} {x y:ScV} (hx:aci W x) (hy:aci W y) (h:ahW x.s y.s=true) (hs:ScS x) (okx: ∀a∈x.ats,okA a.ac=true) (oky: ∀a∈y.ats,okA a.ac=true):
  Calls Tryz.prog 9 #[.agg (scC x).toArray,.agg (scC y).toArray] W fun r w'=>r= .returned (.bool true)∧Below W.heap.size W w':=by
 unfold ahW at h
 simp only[Bool.and_eq_true,decide_eq_true_eq]at h
 obtain⟨e1,e2,e3,e4⟩:=h
 obtain⟨l1,l2⟩:=qt e4
 obtain⟨sec,fr,⟨sd,en,dp,dn,dc,dl,pp,pn,pc,ps,lp,ln,lc,ls,ip,im,ic,is⟩,ap,an,ac,ats⟩:=x
 obtain⟨sec',fr',⟨sd',en',dp',dn',dc',dl',pp',pn',pc',ps',lp',ln',lc',ls',ip',im',ic',is'⟩,ap',an',ac',ats'⟩:=y
 dsimp only[ScV.s]at e1 e2 e3 e4 l1 l2 okx oky
 rw[List.length_map,List.length_map]at l1
 have han:=hx.an
 have han':=hy.an
 dsimp only at han han'
 obtain rfl:an'=an:=by rw[han,han',l1]
 subst e1 e2
 have HA:Hid (∀j,j<an'→ ∃(a b:AcV) (g1 o1 g2 o2:Nat),ap=some ⟨g1,o1,none⟩∧ap'=some ⟨g2,o2,none⟩∧okA a.ac=true∧okA b.ac=true∧kH a.ac=kH b.ac∧(∀W',Below W.heap.size W W'→(W'.cell? ⟨g1,o1+j*5,none⟩=some (.int .i64 a.kind)∧W'.cell? ⟨g1,o1+j*5+1,none⟩=some (.int .i64 a.n)∧W'.cell? ⟨g1,o1+j*5+2,none⟩=some (.slice a.kp a.kn a.kc)∧W'.cell? ⟨g1,o1+j*5+3,none⟩=some (.int .i64 a.torn)∧W'.cell? ⟨g1,o1+j*5+4,none⟩=some (.int .i64 a.bytes))∧
   (W'.cell? ⟨g2,o2+j*5,none⟩=some (.int .i64 b.kind)∧W'.cell? ⟨g2,o2+j*5+1,none⟩=some (.int .i64 b.n)∧W'.cell? ⟨g2,o2+j*5+2,none⟩=some (.slice b.kp b.kn b.kc)∧W'.cell? ⟨g2,o2+j*5+3,none⟩=some (.int .i64 b.torn)∧W'.cell? ⟨g2,o2+j*5+4,none⟩=some (.int .i64 b.bytes))∧acd W' a∧acd W' b)):=hid fun j hj=>by
  obtain⟨a,ha⟩: ∃a,ats[j]? =some a:=⟨_,List.getElem?_eq_getElem (by rw[←han];exact hj)⟩
  obtain⟨b',hb',hs⟩:=l2 j a.ac (by rw[List.getElem?_map,ha];rfl)
  rw[List.getElem?_map,Option.map_eq_some_iff]at hb'
  obtain⟨b,hb,rfl⟩:=hb'
  unfold aju at hs
  simp only[Bool.and_eq_true,decide_eq_true_eq]at hs
  have hxa:=hx.a
  have hya:=hy.a
  dsimp only at hxa hya
  obtain⟨g1,o1,f1,k1⟩:=hxa.elt ha
  obtain⟨g2,o2,f2,k2⟩:=hya.elt hb
  have ma:=List.mem_of_getElem? ha
  have mb:=List.mem_of_getElem? hb
  exact⟨a,b,g1,o1,g2,o2,f1,f2,okx a ma,oky b mb,hs.1,fun W' hb=>⟨⟨k1 W' hb 0 _ rfl,k1 W' hb 1 _ rfl,k1 W' hb 2 _ rfl,k1 W' hb 3 _ rfl,k1 W' hb 4 _ rfl⟩,⟨k2 W' hb 0 _ rfl,k2 W' hb 1 _ rfl,k2 W' hb 2 _ rfl,k2 W' hb 3 _ rfl,k2 W' hb 4 _ rfl⟩,(hx.ai a ma).below hb,(hy.ai b mb).below hb⟩⟩
 have HSM:Hid (∀W',Below W.heap.size W W'→Calls Tryz.prog 26 #[.agg #[.int .i64 sd,.float .f64 en,.slice dp dn dc,.slice pp pn pc,.slice lp ln lc,.slice ip im ic],.agg #[.int .i64 sd',.float .f64 en',.slice dp' dn' dc',.slice pp' pn' pc',.slice lp' ln' lc',.slice ip' im' ic']] W' fun r w'=>r= .returned (.bool true)∧Below W'.heap.size W' w'):=hid fun W' hb=>by
  have hm1:qZ W ⟨sd,en,dp,dn,dc,dl,pp,pn,pc,ps,lp,ln,lc,ls,ip,im,ic,is⟩:=hx.m
  have hm2:qZ W ⟨sd',en',dp',dn',dc',dl',pp',pn',pc',ps',lp',ln',lc',ls',ip',im',ic',is'⟩:=hy.m
  have q1:dn≤1000:=hs.d
  have q2:pn≤1000:=hs.p
  have q3:ln≤1000:=hs.l
  have q4:im≤1000:=hs.i
  have q5: ∀q∈ps,q.n≤1000:=hs.pi
  have q6: ∀q∈ls,q.n≤1000:=hs.li
  clear HA hx hy l1 l2 okx oky hs
  have h0:=JG (hm1.below hb) (hm2.below hb) e3 q1 q2 q3 q4 q5 q6
  exact h0
 have haz:=hs.a
 dsimp only at haz
 clear hx hy e3 e4 l1 l2 okx oky hs han han'
 obtain⟨bx,hbx⟩: ∃k,k=W.heap.size:=⟨_,rfl⟩
 obtain⟨by',hby⟩: ∃k,k=W.heap.size+1:=⟨_,rfl⟩
 obtain⟨W1,hW1⟩: ∃w,w=(W.alloc (.cells #[.int .i64 sec,.int .i64 fr,.int .i64 sd,.float .f64 en,.slice dp dn dc,.slice pp pn pc,.slice lp ln lc,.slice ip im ic,.slice ap an' ac] 36)).alloc (.cells #[.int .i64 sec,.int .i64 fr,.int .i64 sd',.float .f64 en',.slice dp' dn' dc',.slice pp' pn' pc',.slice lp' ln' lc',.slice ip' im' ic',.slice ap' an' ac'] 36):=⟨_,rfl⟩
 have hb1:Below W.heap.size W W1:=by rw[hW1];exact((Below.refl _ W).alloc (Nat.le_refl _) _).alloc (by simp) _
 have hX:Blk W1 bx 36 #[.int .i64 sec,.int .i64 fr,.int .i64 sd,.float .f64 en,.slice dp dn dc,.slice pp pn pc,.slice lp ln lc,.slice ip im ic,.slice ap an' ac]:=by rw[hW1,hbx];exact(Blk.new W _ _).alloc _
 have hY:Blk W1 by' 36 #[.int .i64 sec,.int .i64 fr,.int .i64 sd',.float .f64 en',.slice dp' dn' dc',.slice pp' pn' pc',.slice lp' ln' lc',.slice ip' im' ic',.slice ap' an' ac']:=by
  have:=Blk.new (W.alloc (.cells #[.int .i64 sec,.int .i64 fr,.int .i64 sd,.float .f64 en,.slice dp dn dc,.slice pp pn pc,.slice lp ln lc,.slice ip im ic,.slice ap an' ac] 36)) 36 #[.int .i64 sec,.int .i64 fr,.int .i64 sd',.float .f64 en',.slice dp' dn' dc',.slice pp' pn' pc',.slice lp' ln' lc',.slice ip' im' ic',.slice ap' an' ac']
  rw[World.size_alloc]at this
  rw[hW1,hby]
  exact this
 have HX:=hid (⟨hX,hY,hb1⟩:_∧_∧_)
 have HW:=hid (⟨hbx,hby,hW1⟩:_∧_∧_)
 obtain⟨x0,x1,x2,x3,x4,x5,x6,x7,x8⟩:=zZ hX
 obtain⟨y0,y1,y2,y3,y4,y5,y6,y7,y8⟩:=zZ hY
 clear hbx hby hW1 hX hY hb1
 show Calls _ _ #[.agg #[.int .i64 sec,.int .i64 fr,.int .i64 sd,.float .f64 en,.slice dp dn dc,.slice pp pn pc,.slice lp ln lc,.slice ip im ic,.slice ap an' ac],.agg #[.int .i64 sec,.int .i64 fr,.int .i64 sd',.float .f64 en',.slice dp' dn' dc',.slice pp' pn' pc',.slice lp' ln' lc',.slice ip' im' ic',.slice ap' an' ac']] _ _
 go_enter Tryz.func9,Tryz.ntmps9
 go_upto_region 1 with fail
 rw[←HW.out.2.1,←HW.out.1,←HW.out.2.2]
 have HF:=hid (HSM.out W1 HX.out.2.2)
 go_wp2_with fail
 (with_reducible refine HF.out.mono ?_)
 rintro r w2 ⟨rfl,hb2⟩
 have HB2:=hid hb2
 clear x0 x1 x2 x3 x4 x5 x6 x7 x8 y0 y1 y2 y3 y4 y5 y6 y7 y8 hb2 HF
 obtain⟨x0,x1,x2,x3,x4,x5,x6,x7,x8⟩:=zZ (HX.out.1.below HB2.out HX.out.1.lt)
 obtain⟨y0,y1,y2,y3,y4,y5,y6,y7,y8⟩:=zZ (HX.out.2.1.below HB2.out HX.out.2.1.lt)
 go_wp2_with fail
 go_loopg [5] an' (fun gg s5 wr=> ∃j:Nat,j≤an'∧an'-j≤gg∧s5= .int .i64 j∧Hid (Below W1.heap.size W1 wr))
 case atStart=>exact⟨0,by omega,by omega,rfl,HB2⟩
 case round=>
  obtain⟨j,hj,hgg,rfl,HB⟩:=hrel
  clear x0 x1 x2 x3 x4 x5 x6 x7 x8 y0 y1 y2 y3 y4 y5 y6 y7 y8
  have hx8:=(zZ (HX.out.1.below HB.out HX.out.1.lt)).2.2.2.2.2.2.2.2
  have haz2:(an':Int)≤100000:=by omega
  by_cases hje:j<an'
  ·obtain⟨a,b,g1,o1,g2,o2,rfl,rfl,oa,ob,hab,hcc⟩:=HA.out j hje
   have HCC:=hid hcc
   have HJ:=hid hje
   have hji:(j:Int)<(an':Int):=by omega
   have hbw:=HX.out.2.2.trans (HB.out.mono HX.out.2.2.size)
   obtain⟨⟨c0,c1,c2,c3,c4⟩,_,haa,_⟩:=hcc wr hbw
   have HF:=hid (aaZ haa oa)
   obtain⟨ll,hll⟩: ∃l,l=kH a.ac:=⟨_,rfl⟩
   have HLL:Hid (kH b.ac=ll):=hid (by rw[hll,hab])
   rw[←hll]at HF
   have HOB:=hid ob
   clear hcc haa oa ob hab hll hbw
   go_wp2_with fail
   (with_reducible refine HF.out.mono ?_)
   rintro r w3 ⟨rfl,hb3⟩
   have HB3:=hid (HB.out.trans (hb3.mono HB.out.size))
   have hy8:=(zZ (HX.out.2.1.below HB3.out HX.out.2.1.lt)).2.2.2.2.2.2.2.2
   obtain⟨_,⟨d0,d1,d2,d3,d4⟩,_,hbb⟩:=HCC.out w3 (HX.out.2.2.trans (HB3.out.mono HX.out.2.2.size))
   have HF:=aaZ hbb HOB.out
   rw[HLL.out]at HF
   have HF:=hid HF
   clear hx8 c0 c1 c2 c3 c4 hb3 hbb
   go_wp2_with fail
   (with_reducible refine HF.out.mono ?_)
   rintro r w4 ⟨rfl,hb4⟩
   have HB4:=hid (HB3.out.trans (hb4.mono HB3.out.size))
   clear hb4 hy8 d0 d1 d2 d3 d4 HF
   go_wp2
   go_roundg (an'- (j+1))
   case measure=>have:=HJ.out;omega
   case rel=>exact⟨j+1,by have:=HJ.out;omega,by omega,by go_num,HB4⟩
  ·have hji: ¬(j:Int)<(an':Int):=by omega
   go_wp2
   go_ret
   exact⟨rfl,HX.out.2.2.trans (HB.out.mono HX.out.2.2.size)⟩
end
section
open Go.RowKit Go.Lib
theorem aV6 {W:World} {q:Option Addr} {n c:Nat} {l:List (Nat)} (h:Vw 1 flC W (.slice q n c) l) {j:Nat} {x:Nat} (hx:l[j]? =some x): ∃g o,q=some ⟨g,o,none⟩∧W.cell? ⟨g,o+j,none⟩=some (.float .f64 x):=by
 obtain⟨g,o,c',e,_,hb,k⟩:=h.ex (by intro e;rw[e]at hx;simp at hx)
 injection e with e1 _ _
 exact⟨g,o,e1,by have:=k j x hx 0 _ rfl;rwa[Nat.mul_one,Nat.add_zero]at this⟩
theorem aUO {w0 w:World} {df:Nat} {caps:Array Value} {bs:Nat→Bs} {l:List (Nat)} {q:Option Addr} {n c:Nat} {v:Value} {b:Bs} (hD:LaD w0 df caps (fun x:Nat=>Value.float .f64 x) bs l) (hown:OB w0.heap.size w v b) (hb0:Below w0.heap.size w0 w) (hv:Vw 1 flC w0 (.slice q n c) l) (hn:n=l.length) (hl:n≤1000) (hb:b.length+(abK bs l).length≤900000):
  Calls Tryz.prog 65 #[v,.slice q n c,.func (.func df) #[] caps] w (aS6 w0.heap.size w (b++abK bs l)):=by
 obtain⟨p0,c0,rfl⟩:=zm hown
 obtain⟨m0,hm0⟩: ∃m,m=b.length:=⟨_,rfl⟩
 rw[←hm0]
 have hbl:b.length≤900000:=by omega
 have HI:Hid (Calls Tryz.prog 62 #[.slice p0 m0 c0,.slice (some ⟨w.heap.size,0,none⟩) 1 1] (w.alloc (.cells #[.int .i64 n] 3)) (aS6 w0.heap.size (w.alloc (.cells #[.int .i64 n] 3)) (b++X6 n))):=hid (by
  have:=aSQ (B:=w0.heap.size) (g:=w.heap.size) (l:=[(n:Int)]) (b:=b) (v:= .slice p0 m0 c0) (w:=w.alloc (.cells #[.int .i64 n] 3)) (by rw[hm0];exact hown.below ((Below.refl _ w).alloc (Nat.le_refl _) _)) (by have:=hb0.size;simp;omega) (Blk.new w _ _) (by simp) (by intro z hz;simp at hz;rw[hz];unfold okZ;omega) hbl
  simpa using this)
 have HBW:Hid (Ly w0.heap.size w (w.alloc (.cells #[.int .i64 n] 3))):=hid (Ly.of ((Below.refl _ w).alloc (Nat.le_refl _) _) hb0.size)
 have HH:=hid (⟨hD,hb0,hv,hn,hb⟩:_∧_∧_∧_∧_)
 have hen:=hD.en
 clear hD hown hb0 hv hn hb hbl hm0
 go_enter Tryz.func65,Tryz.ntmps65
 go_wp2_with fail
 (with_reducible refine HI.out.mono ?_)
 rintro r w1 ⟨v1,rfl,hO1,hb1⟩
 obtain⟨p1,c1,rfl⟩:=zm hO1
 obtain⟨m1,hm1⟩: ∃m,m=(b++X6 n).length:=⟨_,rfl⟩
 rw[←hm1]at hO1⊢
 have HI0:Hid (w1.ownsRow w0.heap.size 5 1 (.slice p1 m1 c1) (b++X6 n++(l.take 0).flatMap bs).length (cB (b++X6 n++(l.take 0).flatMap bs))∧Ly w0.heap.size w w1):=hid ⟨by rw[List.take_zero,List.flatMap_nil,List.append_nil];exact hO1,HBW.out.trans hb1⟩
 clear hO1 hb1 hm1 HI
 go_wp2
 go_loopg [0,16] n (fun gg s0 s16 wr=> ∃(j:Nat) (p:Option Addr) (m c:Nat),j≤n∧n-j≤gg∧s0= .slice p m c∧s16= .int .i64 j∧Hid (OB w0.heap.size wr (.slice p m c) (b++X6 n++(l.take j).flatMap bs)∧Ly w0.heap.size w wr))
 case atStart=>exact⟨0,_,_,_,by omega,by omega,rfl,rfl,HI0⟩
 case round=>
  obtain⟨j,p,m,c',hj,hgg,rfl,rfl,HI⟩:=hrel
  by_cases hjn:j<n
  ·obtain⟨x,hx⟩: ∃x,l[j]? =some x:=⟨_,List.getElem?_eq_getElem (by rw[←HH.out.2.2.2.1];exact hjn)⟩
   obtain⟨g,o,rfl,m0⟩:=aV6 (HH.out.2.2.1.below (HH.out.2.1.trans HI.out.2.b)) hx
   have hji:(j:Int)<(n:Int):=by omega
   have HX:=hid hx
   have HJN:=hid hjn
   have HG:=hid (HH.out.1.go x (List.mem_of_getElem? hx) wr _ _ HI.out.1 (HH.out.2.1.trans HI.out.2.b) (by have:=aS0 bs hx;have h2:=HH.out.2.2.2.2;unfold abK at h2;simp only[List.length_append,aAY]at h2⊢;omega))
   clear hx
   go_wp2_with fail
   (with_reducible refine HG.out.mono ?_)
   rintro r w2 ⟨v2,rfl,hO2,hb2⟩
   obtain⟨p2,c2,rfl⟩:=zm hO2
   obtain⟨m2,hm2⟩: ∃m,m=(b++X6 n++(l.take j).flatMap bs++bs x).length:=⟨_,rfl⟩
   rw[←hm2]at hO2⊢
   have HF:Hid (OB w0.heap.size w2 (.slice p2 m2 c2) (b++X6 n++(l.take (j+1)).flatMap bs)∧Ly w0.heap.size w w2):=hid ⟨by
    rw[aSO HX.out,←List.append_assoc]
    exact hO2,HI.out.2.trans hb2⟩
   clear hO2 hb2 hm2
   go_wp2
   go_roundg (n- (j+1))
   case measure=>omega
   case rel=>exact⟨j+1,_,_,_,by have:=HJN.out;omega,by omega,rfl,by go_num,HF⟩
  ·have hje:j=n:=by omega
   have hji: ¬(j:Int)<(n:Int):=by omega
   have HF:Hid (OB w0.heap.size wr (.slice p m c') (b++abK bs l)∧Ly w0.heap.size w wr):=hid (by
    have:=HI.out
    rw[hje,HH.out.2.2.2.1,List.take_length,List.append_assoc]at this
    exact this)
   go_wp2
   go_ret
   exact⟨_,rfl,HF.out.1,HF.out.2⟩
theorem aWb {W:World} {q:Option Addr} {n c:Nat} {l:List (Int)} (h:Vw 1 wdC W (.slice q n c) l) {j:Nat} {x:Int} (hx:l[j]? =some x): ∃g o,q=some ⟨g,o,none⟩∧W.cell? ⟨g,o+j,none⟩=some (.int .i64 x):=by
 obtain⟨g,o,c',e,_,hb,k⟩:=h.ex (by intro e;rw[e]at hx;simp at hx)
 injection e with e1 _ _
 exact⟨g,o,e1,by have:=k j x hx 0 _ rfl;rwa[Nat.mul_one,Nat.add_zero]at this⟩
theorem aUT {w0 w:World} {df:Nat} {caps:Array Value} {bs:Int→Bs} {l:List (Int)} {q:Option Addr} {n c:Nat} {v:Value} {b:Bs} (hD:LaD w0 df caps (fun x:Int=>Value.int .i64 x) bs l) (hown:OB w0.heap.size w v b) (hb0:Below w0.heap.size w0 w) (hv:Vw 1 wdC w0 (.slice q n c) l) (hn:n=l.length) (hl:n≤1000) (hb:b.length+(abK bs l).length≤900000):
  Calls Tryz.prog 71 #[v,.slice q n c,.func (.func df) #[] caps] w (aS6 w0.heap.size w (b++abK bs l)):=by
 obtain⟨p0,c0,rfl⟩:=zm hown
 obtain⟨m0,hm0⟩: ∃m,m=b.length:=⟨_,rfl⟩
 rw[←hm0]
 have hbl:b.length≤900000:=by omega
 have HI:Hid (Calls Tryz.prog 62 #[.slice p0 m0 c0,.slice (some ⟨w.heap.size,0,none⟩) 1 1] (w.alloc (.cells #[.int .i64 n] 3)) (aS6 w0.heap.size (w.alloc (.cells #[.int .i64 n] 3)) (b++X6 n))):=hid (by
  have:=aSQ (B:=w0.heap.size) (g:=w.heap.size) (l:=[(n:Int)]) (b:=b) (v:= .slice p0 m0 c0) (w:=w.alloc (.cells #[.int .i64 n] 3)) (by rw[hm0];exact hown.below ((Below.refl _ w).alloc (Nat.le_refl _) _)) (by have:=hb0.size;simp;omega) (Blk.new w _ _) (by simp) (by intro z hz;simp at hz;rw[hz];unfold okZ;omega) hbl
  simpa using this)
 have HBW:Hid (Ly w0.heap.size w (w.alloc (.cells #[.int .i64 n] 3))):=hid (Ly.of ((Below.refl _ w).alloc (Nat.le_refl _) _) hb0.size)
 have HH:=hid (⟨hD,hb0,hv,hn,hb⟩:_∧_∧_∧_∧_)
 have hen:=hD.en
 clear hD hown hb0 hv hn hb hbl hm0
 go_enter Tryz.func71,Tryz.ntmps71
 go_wp2_with fail
 (with_reducible refine HI.out.mono ?_)
 rintro r w1 ⟨v1,rfl,hO1,hb1⟩
 obtain⟨p1,c1,rfl⟩:=zm hO1
 obtain⟨m1,hm1⟩: ∃m,m=(b++X6 n).length:=⟨_,rfl⟩
 rw[←hm1]at hO1⊢
 have HI0:Hid (w1.ownsRow w0.heap.size 5 1 (.slice p1 m1 c1) (b++X6 n++(l.take 0).flatMap bs).length (cB (b++X6 n++(l.take 0).flatMap bs))∧Ly w0.heap.size w w1):=hid ⟨by rw[List.take_zero,List.flatMap_nil,List.append_nil];exact hO1,HBW.out.trans hb1⟩
 clear hO1 hb1 hm1 HI
 go_wp2
 go_loopg [0,16] n (fun gg s0 s16 wr=> ∃(j:Nat) (p:Option Addr) (m c:Nat),j≤n∧n-j≤gg∧s0= .slice p m c∧s16= .int .i64 j∧Hid (OB w0.heap.size wr (.slice p m c) (b++X6 n++(l.take j).flatMap bs)∧Ly w0.heap.size w wr))
 case atStart=>exact⟨0,_,_,_,by omega,by omega,rfl,rfl,HI0⟩
 case round=>
  obtain⟨j,p,m,c',hj,hgg,rfl,rfl,HI⟩:=hrel
  by_cases hjn:j<n
  ·obtain⟨x,hx⟩: ∃x,l[j]? =some x:=⟨_,List.getElem?_eq_getElem (by rw[←HH.out.2.2.2.1];exact hjn)⟩
   obtain⟨g,o,rfl,m0⟩:=aWb (HH.out.2.2.1.below (HH.out.2.1.trans HI.out.2.b)) hx
   have hji:(j:Int)<(n:Int):=by omega
   have HX:=hid hx
   have HJN:=hid hjn
   have HG:=hid (HH.out.1.go x (List.mem_of_getElem? hx) wr _ _ HI.out.1 (HH.out.2.1.trans HI.out.2.b) (by have:=aS0 bs hx;have h2:=HH.out.2.2.2.2;unfold abK at h2;simp only[List.length_append,aAY]at h2⊢;omega))
   clear hx
   go_wp2_with fail
   (with_reducible refine HG.out.mono ?_)
   rintro r w2 ⟨v2,rfl,hO2,hb2⟩
   obtain⟨p2,c2,rfl⟩:=zm hO2
   obtain⟨m2,hm2⟩: ∃m,m=(b++X6 n++(l.take j).flatMap bs++bs x).length:=⟨_,rfl⟩
   rw[←hm2]at hO2⊢
   have HF:Hid (OB w0.heap.size w2 (.slice p2 m2 c2) (b++X6 n++(l.take (j+1)).flatMap bs)∧Ly w0.heap.size w w2):=hid ⟨by
    rw[aSO HX.out,←List.append_assoc]
    exact hO2,HI.out.2.trans hb2⟩
   clear hO2 hb2 hm2
   go_wp2
   go_roundg (n- (j+1))
   case measure=>omega
   case rel=>exact⟨j+1,_,_,_,by have:=HJN.out;omega,by omega,rfl,by go_num,HF⟩
  ·have hje:j=n:=by omega
   have hji: ¬(j:Int)<(n:Int):=by omega
   have HF:Hid (OB w0.heap.size wr (.slice p m c') (b++abK bs l)∧Ly w0.heap.size w wr):=hid (by
    have:=HI.out
    rw[hje,HH.out.2.2.2.1,List.take_length,List.append_assoc]at this
    exact this)
   go_wp2
   go_ret
   exact⟨_,rfl,HF.out.1,HF.out.2⟩
theorem aWa {W:World} {q:Option Addr} {n c:Nat} {l:List (Prg)} (h:Vw 1 prC W (.slice q n c) l) {j:Nat} {x:Prg} (hx:l[j]? =some x): ∃g o,q=some ⟨g,o,none⟩∧W.cell? ⟨g,o+j,none⟩=some (.slice x.p x.n x.c):=by
 obtain⟨g,o,c',e,_,hb,k⟩:=h.ex (by intro e;rw[e]at hx;simp at hx)
 injection e with e1 _ _
 exact⟨g,o,e1,by have:=k j x hx 0 _ rfl;rwa[Nat.mul_one,Nat.add_zero]at this⟩
theorem aUS {w0 w:World} {df:Nat} {caps:Array Value} {bs:Prg→Bs} {l:List (Prg)} {q:Option Addr} {n c:Nat} {v:Value} {b:Bs} (hD:LaD w0 df caps (fun x:Prg=>Value.slice x.p x.n x.c) bs l) (hown:OB w0.heap.size w v b) (hb0:Below w0.heap.size w0 w) (hv:Vw 1 prC w0 (.slice q n c) l) (hn:n=l.length) (hl:n≤1000) (hb:b.length+(abK bs l).length≤900000):
  Calls Tryz.prog 66 #[v,.slice q n c,.func (.func df) #[] caps] w (aS6 w0.heap.size w (b++abK bs l)):=by
 obtain⟨p0,c0,rfl⟩:=zm hown
 obtain⟨m0,hm0⟩: ∃m,m=b.length:=⟨_,rfl⟩
 rw[←hm0]
 have hbl:b.length≤900000:=by omega
 have HI:Hid (Calls Tryz.prog 62 #[.slice p0 m0 c0,.slice (some ⟨w.heap.size,0,none⟩) 1 1] (w.alloc (.cells #[.int .i64 n] 3)) (aS6 w0.heap.size (w.alloc (.cells #[.int .i64 n] 3)) (b++X6 n))):=hid (by
  have:=aSQ (B:=w0.heap.size) (g:=w.heap.size) (l:=[(n:Int)]) (b:=b) (v:= .slice p0 m0 c0) (w:=w.alloc (.cells #[.int .i64 n] 3)) (by rw[hm0];exact hown.below ((Below.refl _ w).alloc (Nat.le_refl _) _)) (by have:=hb0.size;simp;omega) (Blk.new w _ _) (by simp) (by intro z hz;simp at hz;rw[hz];unfold okZ;omega) hbl
  simpa using this)
 have HBW:Hid (Ly w0.heap.size w (w.alloc (.cells #[.int .i64 n] 3))):=hid (Ly.of ((Below.refl _ w).alloc (Nat.le_refl _) _) hb0.size)
 have HH:=hid (⟨hD,hb0,hv,hn,hb⟩:_∧_∧_∧_∧_)
 have hen:=hD.en
 clear hD hown hb0 hv hn hb hbl hm0
 go_enter Tryz.func66,Tryz.ntmps66
 go_wp2_with fail
 (with_reducible refine HI.out.mono ?_)
 rintro r w1 ⟨v1,rfl,hO1,hb1⟩
 obtain⟨p1,c1,rfl⟩:=zm hO1
 obtain⟨m1,hm1⟩: ∃m,m=(b++X6 n).length:=⟨_,rfl⟩
 rw[←hm1]at hO1⊢
 have HI0:Hid (w1.ownsRow w0.heap.size 5 1 (.slice p1 m1 c1) (b++X6 n++(l.take 0).flatMap bs).length (cB (b++X6 n++(l.take 0).flatMap bs))∧Ly w0.heap.size w w1):=hid ⟨by rw[List.take_zero,List.flatMap_nil,List.append_nil];exact hO1,HBW.out.trans hb1⟩
 clear hO1 hb1 hm1 HI
 go_wp2
 go_loopg [0,16] n (fun gg s0 s16 wr=> ∃(j:Nat) (p:Option Addr) (m c:Nat),j≤n∧n-j≤gg∧s0= .slice p m c∧s16= .int .i64 j∧Hid (OB w0.heap.size wr (.slice p m c) (b++X6 n++(l.take j).flatMap bs)∧Ly w0.heap.size w wr))
 case atStart=>exact⟨0,_,_,_,by omega,by omega,rfl,rfl,HI0⟩
 case round=>
  obtain⟨j,p,m,c',hj,hgg,rfl,rfl,HI⟩:=hrel
  by_cases hjn:j<n
  ·obtain⟨x,hx⟩: ∃x,l[j]? =some x:=⟨_,List.getElem?_eq_getElem (by rw[←HH.out.2.2.2.1];exact hjn)⟩
   obtain⟨g,o,rfl,m0⟩:=aWa (HH.out.2.2.1.below (HH.out.2.1.trans HI.out.2.b)) hx
   have hji:(j:Int)<(n:Int):=by omega
   have HX:=hid hx
   have HJN:=hid hjn
   have HG:=hid (HH.out.1.go x (List.mem_of_getElem? hx) wr _ _ HI.out.1 (HH.out.2.1.trans HI.out.2.b) (by have:=aS0 bs hx;have h2:=HH.out.2.2.2.2;unfold abK at h2;simp only[List.length_append,aAY]at h2⊢;omega))
   clear hx
   go_wp2_with fail
   (with_reducible refine HG.out.mono ?_)
   rintro r w2 ⟨v2,rfl,hO2,hb2⟩
   obtain⟨p2,c2,rfl⟩:=zm hO2
   obtain⟨m2,hm2⟩: ∃m,m=(b++X6 n++(l.take j).flatMap bs++bs x).length:=⟨_,rfl⟩
   rw[←hm2]at hO2⊢
   have HF:Hid (OB w0.heap.size w2 (.slice p2 m2 c2) (b++X6 n++(l.take (j+1)).flatMap bs)∧Ly w0.heap.size w w2):=hid ⟨by
    rw[aSO HX.out,←List.append_assoc]
    exact hO2,HI.out.2.trans hb2⟩
   clear hO2 hb2 hm2
   go_wp2
   go_roundg (n- (j+1))
   case measure=>omega
   case rel=>exact⟨j+1,_,_,_,by have:=HJN.out;omega,by omega,rfl,by go_num,HF⟩
  ·have hje:j=n:=by omega
   have hji: ¬(j:Int)<(n:Int):=by omega
   have HF:Hid (OB w0.heap.size wr (.slice p m c') (b++abK bs l)∧Ly w0.heap.size w wr):=hid (by
    have:=HI.out
    rw[hje,HH.out.2.2.2.1,List.take_length,List.append_assoc]at this
    exact this)
   go_wp2
   go_ret
   exact⟨_,rfl,HF.out.1,HF.out.2⟩
theorem aV9 {W:World} {q:Option Addr} {n c:Nat} {l:List (In)} (h:Vw 4 inC W (.slice q n c) l) {j:Nat} {x:In} (hx:l[j]? =some x): ∃g o,q=some ⟨g,o,none⟩∧W.cell? ⟨g,o+j*4,none⟩=some (.int .i64 x.op)∧W.cell? ⟨g,o+j*4+1,none⟩=some (.int .i64 x.a)∧W.cell? ⟨g,o+j*4+2,none⟩=some (.int .i64 x.b)∧W.cell? ⟨g,o+j*4+3,none⟩=some (.int .i64 x.c):=by
 obtain⟨g,o,c',e,_,hb,k⟩:=h.ex (by intro e;rw[e]at hx;simp at hx)
 injection e with e1 _ _
 exact⟨g,o,e1,⟨k j x hx 0 _ rfl,k j x hx 1 _ rfl,k j x hx 2 _ rfl,k j x hx 3 _ rfl⟩⟩
theorem aUR {w0 w:World} {df:Nat} {caps:Array Value} {bs:In→Bs} {l:List (In)} {q:Option Addr} {n c:Nat} {v:Value} {b:Bs} (hD:LaD w0 df caps (fun x:In=>Value.agg #[.int .i64 x.op,.int .i64 x.a,.int .i64 x.b,.int .i64 x.c]) bs l) (hown:OB w0.heap.size w v b) (hb0:Below w0.heap.size w0 w) (hv:Vw 4 inC w0 (.slice q n c) l) (hn:n=l.length) (hl:n≤1000) (hb:b.length+(abK bs l).length≤900000):
  Calls Tryz.prog 68 #[v,.slice q n c,.func (.func df) #[] caps] w (aS6 w0.heap.size w (b++abK bs l)):=by
 obtain⟨p0,c0,rfl⟩:=zm hown
 obtain⟨m0,hm0⟩: ∃m,m=b.length:=⟨_,rfl⟩
 rw[←hm0]
 have hbl:b.length≤900000:=by omega
 have HI:Hid (Calls Tryz.prog 62 #[.slice p0 m0 c0,.slice (some ⟨w.heap.size,0,none⟩) 1 1] (w.alloc (.cells #[.int .i64 n] 3)) (aS6 w0.heap.size (w.alloc (.cells #[.int .i64 n] 3)) (b++X6 n))):=hid (by
  have:=aSQ (B:=w0.heap.size) (g:=w.heap.size) (l:=[(n:Int)]) (b:=b) (v:= .slice p0 m0 c0) (w:=w.alloc (.cells #[.int .i64 n] 3)) (by rw[hm0];exact hown.below ((Below.refl _ w).alloc (Nat.le_refl _) _)) (by have:=hb0.size;simp;omega) (Blk.new w _ _) (by simp) (by intro z hz;simp at hz;rw[hz];unfold okZ;omega) hbl
  simpa using this)
 have HBW:Hid (Ly w0.heap.size w (w.alloc (.cells #[.int .i64 n] 3))):=hid (Ly.of ((Below.refl _ w).alloc (Nat.le_refl _) _) hb0.size)
 have HH:=hid (⟨hD,hb0,hv,hn,hb⟩:_∧_∧_∧_∧_)
 have hen:=hD.en
 clear hD hown hb0 hv hn hb hbl hm0
 go_enter Tryz.func68,Tryz.ntmps68
 go_wp2_with fail
 (with_reducible refine HI.out.mono ?_)
 rintro r w1 ⟨v1,rfl,hO1,hb1⟩
 obtain⟨p1,c1,rfl⟩:=zm hO1
 obtain⟨m1,hm1⟩: ∃m,m=(b++X6 n).length:=⟨_,rfl⟩
 rw[←hm1]at hO1⊢
 have HI0:Hid (w1.ownsRow w0.heap.size 5 1 (.slice p1 m1 c1) (b++X6 n++(l.take 0).flatMap bs).length (cB (b++X6 n++(l.take 0).flatMap bs))∧Ly w0.heap.size w w1):=hid ⟨by rw[List.take_zero,List.flatMap_nil,List.append_nil];exact hO1,HBW.out.trans hb1⟩
 clear hO1 hb1 hm1 HI
 go_wp2
 go_loopg [0,16] n (fun gg s0 s16 wr=> ∃(j:Nat) (p:Option Addr) (m c:Nat),j≤n∧n-j≤gg∧s0= .slice p m c∧s16= .int .i64 j∧Hid (OB w0.heap.size wr (.slice p m c) (b++X6 n++(l.take j).flatMap bs)∧Ly w0.heap.size w wr))
 case atStart=>exact⟨0,_,_,_,by omega,by omega,rfl,rfl,HI0⟩
 case round=>
  obtain⟨j,p,m,c',hj,hgg,rfl,rfl,HI⟩:=hrel
  by_cases hjn:j<n
  ·obtain⟨x,hx⟩: ∃x,l[j]? =some x:=⟨_,List.getElem?_eq_getElem (by rw[←HH.out.2.2.2.1];exact hjn)⟩
   obtain⟨g,o,rfl,m0,m1,m2,m3⟩:=aV9 (HH.out.2.2.1.below (HH.out.2.1.trans HI.out.2.b)) hx
   have hji:(j:Int)<(n:Int):=by omega
   have HX:=hid hx
   have HJN:=hid hjn
   obtain⟨wa,hwa⟩: ∃wa,wa=wr.alloc (.cells #[.int .i64 x.op,.int .i64 x.a,.int .i64 x.b,.int .i64 x.c] 84):=⟨_,rfl⟩
   have hba:Below wr.heap.size wr wa:=by rw[hwa];exact(Below.refl _ wr).alloc (Nat.le_refl _) _
   have hBa:Ly w0.heap.size w wa:=HI.out.2.step hba HH.out.2.1.size
   have HG:=hid (HH.out.1.go x (List.mem_of_getElem? hx) wa _ _ (HI.out.1.below hba) (HH.out.2.1.trans hBa.b) (by have:=aS0 bs hx;have h2:=HH.out.2.2.2.2;unfold abK at h2;simp only[List.length_append,aAY]at h2⊢;omega))
   have HA:=hid (⟨hwa,hBa⟩:_∧_)
   clear hx hwa hba hBa
   go_wp2_with fail
   rw[←HA.out.1]
   (with_reducible refine HG.out.mono ?_)
   rintro r w2 ⟨v2,rfl,hO2,hb2⟩
   obtain⟨p2,c2,rfl⟩:=zm hO2
   obtain⟨m2,hm2⟩: ∃m,m=(b++X6 n++(l.take j).flatMap bs++bs x).length:=⟨_,rfl⟩
   rw[←hm2]at hO2⊢
   have HF:Hid (OB w0.heap.size w2 (.slice p2 m2 c2) (b++X6 n++(l.take (j+1)).flatMap bs)∧Ly w0.heap.size w w2):=hid ⟨by
    rw[aSO HX.out,←List.append_assoc]
    exact hO2,HA.out.2.trans hb2⟩
   clear hO2 hb2 hm2
   go_wp2
   go_roundg (n- (j+1))
   case measure=>omega
   case rel=>exact⟨j+1,_,_,_,by have:=HJN.out;omega,by omega,rfl,by go_num,HF⟩
  ·have hje:j=n:=by omega
   have hji: ¬(j:Int)<(n:Int):=by omega
   have HF:Hid (OB w0.heap.size wr (.slice p m c') (b++abK bs l)∧Ly w0.heap.size w wr):=hid (by
    have:=HI.out
    rw[hje,HH.out.2.2.2.1,List.take_length,List.append_assoc]at this
    exact this)
   go_wp2
   go_ret
   exact⟨_,rfl,HF.out.1,HF.out.2⟩
theorem aV8 {W:World} {q:Option Addr} {n c:Nat} {l:List (LpR)} (h:Vw 2 lpC W (.slice q n c) l) {j:Nat} {x:LpR} (hx:l[j]? =some x): ∃g o,q=some ⟨g,o,none⟩∧W.cell? ⟨g,o+j*2,none⟩=some (.int .i64 x.k)∧W.cell? ⟨g,o+j*2+1,none⟩=some (.slice x.p x.n x.c):=by
 obtain⟨g,o,c',e,_,hb,k⟩:=h.ex (by intro e;rw[e]at hx;simp at hx)
 injection e with e1 _ _
 exact⟨g,o,e1,⟨k j x hx 0 _ rfl,k j x hx 1 _ rfl⟩⟩
theorem aUQ {w0 w:World} {df:Nat} {caps:Array Value} {bs:LpR→Bs} {l:List (LpR)} {q:Option Addr} {n c:Nat} {v:Value} {b:Bs} (hD:LaD w0 df caps (fun x:LpR=>Value.agg #[.int .i64 x.k,.slice x.p x.n x.c]) bs l) (hown:OB w0.heap.size w v b) (hb0:Below w0.heap.size w0 w) (hv:Vw 2 lpC w0 (.slice q n c) l) (hn:n=l.length) (hl:n≤1000) (hb:b.length+(abK bs l).length≤900000):
  Calls Tryz.prog 69 #[v,.slice q n c,.func (.func df) #[] caps] w (aS6 w0.heap.size w (b++abK bs l)):=by
 obtain⟨p0,c0,rfl⟩:=zm hown
 obtain⟨m0,hm0⟩: ∃m,m=b.length:=⟨_,rfl⟩
 rw[←hm0]
 have hbl:b.length≤900000:=by omega
 have HI:Hid (Calls Tryz.prog 62 #[.slice p0 m0 c0,.slice (some ⟨w.heap.size,0,none⟩) 1 1] (w.alloc (.cells #[.int .i64 n] 3)) (aS6 w0.heap.size (w.alloc (.cells #[.int .i64 n] 3)) (b++X6 n))):=hid (by
  have:=aSQ (B:=w0.heap.size) (g:=w.heap.size) (l:=[(n:Int)]) (b:=b) (v:= .slice p0 m0 c0) (w:=w.alloc (.cells #[.int .i64 n] 3)) (by rw[hm0];exact hown.below ((Below.refl _ w).alloc (Nat.le_refl _) _)) (by have:=hb0.size;simp;omega) (Blk.new w _ _) (by simp) (by intro z hz;simp at hz;rw[hz];unfold okZ;omega) hbl
  simpa using this)
 have HBW:Hid (Ly w0.heap.size w (w.alloc (.cells #[.int .i64 n] 3))):=hid (Ly.of ((Below.refl _ w).alloc (Nat.le_refl _) _) hb0.size)
 have HH:=hid (⟨hD,hb0,hv,hn,hb⟩:_∧_∧_∧_∧_)
 have hen:=hD.en
 clear hD hown hb0 hv hn hb hbl hm0
 go_enter Tryz.func69,Tryz.ntmps69
 go_wp2_with fail
 (with_reducible refine HI.out.mono ?_)
 rintro r w1 ⟨v1,rfl,hO1,hb1⟩
 obtain⟨p1,c1,rfl⟩:=zm hO1
 obtain⟨m1,hm1⟩: ∃m,m=(b++X6 n).length:=⟨_,rfl⟩
 rw[←hm1]at hO1⊢
 have HI0:Hid (w1.ownsRow w0.heap.size 5 1 (.slice p1 m1 c1) (b++X6 n++(l.take 0).flatMap bs).length (cB (b++X6 n++(l.take 0).flatMap bs))∧Ly w0.heap.size w w1):=hid ⟨by rw[List.take_zero,List.flatMap_nil,List.append_nil];exact hO1,HBW.out.trans hb1⟩
 clear hO1 hb1 hm1 HI
 go_wp2
 go_loopg [0,16] n (fun gg s0 s16 wr=> ∃(j:Nat) (p:Option Addr) (m c:Nat),j≤n∧n-j≤gg∧s0= .slice p m c∧s16= .int .i64 j∧Hid (OB w0.heap.size wr (.slice p m c) (b++X6 n++(l.take j).flatMap bs)∧Ly w0.heap.size w wr))
 case atStart=>exact⟨0,_,_,_,by omega,by omega,rfl,rfl,HI0⟩
 case round=>
  obtain⟨j,p,m,c',hj,hgg,rfl,rfl,HI⟩:=hrel
  by_cases hjn:j<n
  ·obtain⟨x,hx⟩: ∃x,l[j]? =some x:=⟨_,List.getElem?_eq_getElem (by rw[←HH.out.2.2.2.1];exact hjn)⟩
   obtain⟨g,o,rfl,m0,m1⟩:=aV8 (HH.out.2.2.1.below (HH.out.2.1.trans HI.out.2.b)) hx
   have hji:(j:Int)<(n:Int):=by omega
   have HX:=hid hx
   have HJN:=hid hjn
   obtain⟨wa,hwa⟩: ∃wa,wa=wr.alloc (.cells #[.int .i64 x.k,.slice x.p x.n x.c] 88):=⟨_,rfl⟩
   have hba:Below wr.heap.size wr wa:=by rw[hwa];exact(Below.refl _ wr).alloc (Nat.le_refl _) _
   have hBa:Ly w0.heap.size w wa:=HI.out.2.step hba HH.out.2.1.size
   have HG:=hid (HH.out.1.go x (List.mem_of_getElem? hx) wa _ _ (HI.out.1.below hba) (HH.out.2.1.trans hBa.b) (by have:=aS0 bs hx;have h2:=HH.out.2.2.2.2;unfold abK at h2;simp only[List.length_append,aAY]at h2⊢;omega))
   have HA:=hid (⟨hwa,hBa⟩:_∧_)
   clear hx hwa hba hBa
   go_wp2_with fail
   rw[←HA.out.1]
   (with_reducible refine HG.out.mono ?_)
   rintro r w2 ⟨v2,rfl,hO2,hb2⟩
   obtain⟨p2,c2,rfl⟩:=zm hO2
   obtain⟨m2,hm2⟩: ∃m,m=(b++X6 n++(l.take j).flatMap bs++bs x).length:=⟨_,rfl⟩
   rw[←hm2]at hO2⊢
   have HF:Hid (OB w0.heap.size w2 (.slice p2 m2 c2) (b++X6 n++(l.take (j+1)).flatMap bs)∧Ly w0.heap.size w w2):=hid ⟨by
    rw[aSO HX.out,←List.append_assoc]
    exact hO2,HA.out.2.trans hb2⟩
   clear hO2 hb2 hm2
   go_wp2
   go_roundg (n- (j+1))
   case measure=>omega
   case rel=>exact⟨j+1,_,_,_,by have:=HJN.out;omega,by omega,rfl,by go_num,HF⟩
  ·have hje:j=n:=by omega
   have hji: ¬(j:Int)<(n:Int):=by omega
   have HF:Hid (OB w0.heap.size wr (.slice p m c') (b++abK bs l)∧Ly w0.heap.size w wr):=hid (by
    have:=HI.out
    rw[hje,HH.out.2.2.2.1,List.take_length,List.append_assoc]at this
    exact this)
   go_wp2
   go_ret
   exact⟨_,rfl,HF.out.1,HF.out.2⟩
theorem aV7 {W:World} {q:Option Addr} {n c:Nat} {l:List (Ini)} (h:Vw 3 aay W (.slice q n c) l) {j:Nat} {x:Ini} (hx:l[j]? =some x): ∃g o,q=some ⟨g,o,none⟩∧W.cell? ⟨g,o+j*3,none⟩=some (.float .f64 x.t)∧W.cell? ⟨g,o+j*3+1,none⟩=some (.int .i64 x.dst)∧W.cell? ⟨g,o+j*3+2,none⟩=some (.int .i64 x.pay):=by
 obtain⟨g,o,c',e,_,hb,k⟩:=h.ex (by intro e;rw[e]at hx;simp at hx)
 injection e with e1 _ _
 exact⟨g,o,e1,⟨k j x hx 0 _ rfl,k j x hx 1 _ rfl,k j x hx 2 _ rfl⟩⟩
theorem aUP {w0 w:World} {df:Nat} {caps:Array Value} {bs:Ini→Bs} {l:List (Ini)} {q:Option Addr} {n c:Nat} {v:Value} {b:Bs} (hD:LaD w0 df caps (fun x:Ini=>Value.agg #[.float .f64 x.t,.int .i64 x.dst,.int .i64 x.pay]) bs l) (hown:OB w0.heap.size w v b) (hb0:Below w0.heap.size w0 w) (hv:Vw 3 aay w0 (.slice q n c) l) (hn:n=l.length) (hl:n≤1000) (hb:b.length+(abK bs l).length≤900000):
  Calls Tryz.prog 72 #[v,.slice q n c,.func (.func df) #[] caps] w (aS6 w0.heap.size w (b++abK bs l)):=by
 obtain⟨p0,c0,rfl⟩:=zm hown
 obtain⟨m0,hm0⟩: ∃m,m=b.length:=⟨_,rfl⟩
 rw[←hm0]
 have hbl:b.length≤900000:=by omega
 have HI:Hid (Calls Tryz.prog 62 #[.slice p0 m0 c0,.slice (some ⟨w.heap.size,0,none⟩) 1 1] (w.alloc (.cells #[.int .i64 n] 3)) (aS6 w0.heap.size (w.alloc (.cells #[.int .i64 n] 3)) (b++X6 n))):=hid (by
  have:=aSQ (B:=w0.heap.size) (g:=w.heap.size) (l:=[(n:Int)]) (b:=b) (v:= .slice p0 m0 c0) (w:=w.alloc (.cells #[.int .i64 n] 3)) (by rw[hm0];exact hown.below ((Below.refl _ w).alloc (Nat.le_refl _) _)) (by have:=hb0.size;simp;omega) (Blk.new w _ _) (by simp) (by intro z hz;simp at hz;rw[hz];unfold okZ;omega) hbl
  simpa using this)
 have HBW:Hid (Ly w0.heap.size w (w.alloc (.cells #[.int .i64 n] 3))):=hid (Ly.of ((Below.refl _ w).alloc (Nat.le_refl _) _) hb0.size)
 have HH:=hid (⟨hD,hb0,hv,hn,hb⟩:_∧_∧_∧_∧_)
 have hen:=hD.en
 clear hD hown hb0 hv hn hb hbl hm0
 go_enter Tryz.func72,Tryz.ntmps72
 go_wp2_with fail
 (with_reducible refine HI.out.mono ?_)
 rintro r w1 ⟨v1,rfl,hO1,hb1⟩
 obtain⟨p1,c1,rfl⟩:=zm hO1
 obtain⟨m1,hm1⟩: ∃m,m=(b++X6 n).length:=⟨_,rfl⟩
 rw[←hm1]at hO1⊢
 have HI0:Hid (w1.ownsRow w0.heap.size 5 1 (.slice p1 m1 c1) (b++X6 n++(l.take 0).flatMap bs).length (cB (b++X6 n++(l.take 0).flatMap bs))∧Ly w0.heap.size w w1):=hid ⟨by rw[List.take_zero,List.flatMap_nil,List.append_nil];exact hO1,HBW.out.trans hb1⟩
 clear hO1 hb1 hm1 HI
 go_wp2
 go_loopg [0,16] n (fun gg s0 s16 wr=> ∃(j:Nat) (p:Option Addr) (m c:Nat),j≤n∧n-j≤gg∧s0= .slice p m c∧s16= .int .i64 j∧Hid (OB w0.heap.size wr (.slice p m c) (b++X6 n++(l.take j).flatMap bs)∧Ly w0.heap.size w wr))
 case atStart=>exact⟨0,_,_,_,by omega,by omega,rfl,rfl,HI0⟩
 case round=>
  obtain⟨j,p,m,c',hj,hgg,rfl,rfl,HI⟩:=hrel
  by_cases hjn:j<n
  ·obtain⟨x,hx⟩: ∃x,l[j]? =some x:=⟨_,List.getElem?_eq_getElem (by rw[←HH.out.2.2.2.1];exact hjn)⟩
   obtain⟨g,o,rfl,m0,m1,m2⟩:=aV7 (HH.out.2.2.1.below (HH.out.2.1.trans HI.out.2.b)) hx
   have hji:(j:Int)<(n:Int):=by omega
   have HX:=hid hx
   have HJN:=hid hjn
   obtain⟨wa,hwa⟩: ∃wa,wa=wr.alloc (.cells #[.float .f64 x.t,.int .i64 x.dst,.int .i64 x.pay] 90):=⟨_,rfl⟩
   have hba:Below wr.heap.size wr wa:=by rw[hwa];exact(Below.refl _ wr).alloc (Nat.le_refl _) _
   have hBa:Ly w0.heap.size w wa:=HI.out.2.step hba HH.out.2.1.size
   have HG:=hid (HH.out.1.go x (List.mem_of_getElem? hx) wa _ _ (HI.out.1.below hba) (HH.out.2.1.trans hBa.b) (by have:=aS0 bs hx;have h2:=HH.out.2.2.2.2;unfold abK at h2;simp only[List.length_append,aAY]at h2⊢;omega))
   have HA:=hid (⟨hwa,hBa⟩:_∧_)
   clear hx hwa hba hBa
   go_wp2_with fail
   rw[←HA.out.1]
   (with_reducible refine HG.out.mono ?_)
   rintro r w2 ⟨v2,rfl,hO2,hb2⟩
   obtain⟨p2,c2,rfl⟩:=zm hO2
   obtain⟨m2,hm2⟩: ∃m,m=(b++X6 n++(l.take j).flatMap bs++bs x).length:=⟨_,rfl⟩
   rw[←hm2]at hO2⊢
   have HF:Hid (OB w0.heap.size w2 (.slice p2 m2 c2) (b++X6 n++(l.take (j+1)).flatMap bs)∧Ly w0.heap.size w w2):=hid ⟨by
    rw[aSO HX.out,←List.append_assoc]
    exact hO2,HA.out.2.trans hb2⟩
   clear hO2 hb2 hm2
   go_wp2
   go_roundg (n- (j+1))
   case measure=>omega
   case rel=>exact⟨j+1,_,_,_,by have:=HJN.out;omega,by omega,rfl,by go_num,HF⟩
  ·have hje:j=n:=by omega
   have hji: ¬(j:Int)<(n:Int):=by omega
   have HF:Hid (OB w0.heap.size wr (.slice p m c') (b++abK bs l)∧Ly w0.heap.size w wr):=hid (by
    have:=HI.out
    rw[hje,HH.out.2.2.2.1,List.take_length,List.append_assoc]at this
    exact this)
   go_wp2
   go_ret
   exact⟨_,rfl,HF.out.1,HF.out.2⟩
end
section
open Go.RowKit Go.Lib
section
variable {B:Nat} {v:Value} {b:Bs} {W:World}
theorem Ly.all (B:Nat) (W:World) (o:Obj) (hB:B≤W.heap.size):Ly B W (W.alloc o):=Ly.of ((Below.refl _ W).alloc (Nat.le_refl _) _) hB
theorem aTy {l:List Int} (hown:OB B W v b) (hB:B≤W.heap.size) (hl:l.length≤100) (hok: ∀z∈l,okZ z) (hb:b.length≤900000):
  Calls Tryz.prog 62 #[v,.slice (some ⟨W.heap.size,0,none⟩) l.length l.length] (W.alloc (.cells (cZ l) 3)) (aS6 B (W.alloc (.cells (cZ l) 3)) (b++l.flatMap X6)):=
 aSQ (hown.below ((Below.refl _ W).alloc (Nat.le_refl _) _)) (by simp;omega) (Blk.new W _ _) hl hok hb
theorem aTL {l:List Int} (hown:OB B W v b) (hB:B≤W.heap.size) (hl:l.length≤100) (hok: ∀z∈l,okZ z) (hb:b.length≤900000):
  Calls Tryz.prog 62 #[v,.slice (some ⟨W.heap.size,0,none⟩) l.length l.length] (W.alloc (.cells (cZ l) 3)).drew (aS6 B (W.alloc (.cells (cZ l) 3)).drew (b++l.flatMap X6)):=
 aSQ (hown.below (Z0 ((Below.refl _ W).alloc (Nat.le_refl _) _) 1)) (Nat.le_trans hB (by show W.heap.size≤(W.alloc _).heap.size;simp)) (Blk.new W _ _).drew hl hok hb
theorem Ly.alld (B:Nat) (W:World) (o:Obj) (hB:B≤W.heap.size):Ly B W (W.alloc o).drew:=Ly.of (Z0 ((Below.refl _ W).alloc (Nat.le_refl _) _) 1) hB
theorem aVu {x:In} (hown:OB B W v b) (hB:B≤W.heap.size) (hx:x.ok) (hb:b.length≤900000):
  Calls Tryz.prog 61 #[v,.agg #[.int .i64 x.op,.int .i64 x.a,.int .i64 x.b,.int .i64 x.c]] W (aS6 B W (b++aRU x)):=by
 obtain⟨p0,c0,rfl⟩:=zm hown
 obtain⟨W1,hW1⟩: ∃W1,W1=W.alloc (.cells #[.int .i64 x.op,.int .i64 x.a,.int .i64 x.b,.int .i64 x.c] 84):=⟨_,rfl⟩
 have hB1:Blk W1 W.heap.size 84 #[.int .i64 x.op,.int .i64 x.a,.int .i64 x.b,.int .i64 x.c]:=by rw[hW1];exact Blk.new W _ _
 have hl1:Below W.heap.size W W1:=by rw[hW1];exact(Below.refl _ W).alloc (Nat.le_refl _) _
 have HI:Hid (Calls Tryz.prog 62 #[.slice p0 b.length c0,.slice (some ⟨W1.heap.size,0,none⟩) 4 4] (W1.alloc (.cells #[.int .i64 x.op,.int .i64 x.a,.int .i64 x.b,.int .i64 x.c] 3)) (aS6 B (W1.alloc (.cells #[.int .i64 x.op,.int .i64 x.a,.int .i64 x.b,.int .i64 x.c] 3)) (b++aRU x))):=hid (by
  have:=aTy (l:=[x.op,x.a,x.b,x.c]) (hown.below hl1) (Nat.le_trans hB hl1.size) (by simp) (by
   intro z hz
   simp only[List.mem_cons,List.not_mem_nil,or_false]at hz
   rcases hz with rfl|rfl|rfl|rfl
   ·exact hx.1
   ·exact hx.2.1
   ·exact hx.2.2.1
   ·exact hx.2.2.2) hb
  rw[show [x.op,x.a,x.b,x.c].flatMap X6=aRU x by simp[aRU]]at this
  exact this)
 obtain⟨m0,hm0⟩: ∃m,m=b.length:=⟨_,rfl⟩
 rw[←hm0]at HI⊢
 have x0:W1.cell? ⟨W.heap.size,0,none⟩=some (.int .i64 x.op):=hB1.cell 0
 have x1:W1.cell? ⟨W.heap.size,1,none⟩=some (.int .i64 x.a):=hB1.cell 1
 have x2:W1.cell? ⟨W.heap.size,2,none⟩=some (.int .i64 x.b):=hB1.cell 2
 have x3:W1.cell? ⟨W.heap.size,3,none⟩=some (.int .i64 x.c):=hB1.cell 3
 have HL:Hid (Ly B W (W1.alloc (.cells #[.int .i64 x.op,.int .i64 x.a,.int .i64 x.b,.int .i64 x.c] 3))):=hid ((Ly.of hl1 hB).trans (Ly.all B W1 _ (Nat.le_trans hB hl1.size)))
 have HW1:=hid hW1
 clear hown hB hx hb hB1 hl1 hW1 hm0
 go_enter Tryz.func61,Tryz.ntmps61
 go_upto_region 1 with fail
 rw[←HW1.out]
 go_wp2_with fail
 (with_reducible refine HI.out.mono ?_)
 rintro r w2 ⟨v2,rfl,hO2,hl2⟩
 obtain⟨p2,c2,rfl⟩:=zm hO2
 obtain⟨m2,hm2⟩: ∃m,m=(b++aRU x).length:=⟨_,rfl⟩
 rw[←hm2]at hO2⊢
 have HF:Hid (OB B w2 (.slice p2 m2 c2) (b++aRU x)∧Ly B W w2):=hid ⟨hO2,HL.out.trans hl2⟩
 clear hO2 hl2 hm2
 go_wp2
 go_ret
 exact⟨_,rfl,HF.out.1,HF.out.2⟩
theorem aU3 {x:Int} (hown:OB B W v b) (hB:B≤W.heap.size) (hx:okZ x) (hb:b.length≤900000):
  Calls Tryz.prog 63 #[v,.int .i64 x] W (aS6 B W (b++X6 x)):=by
 obtain⟨p0,c0,rfl⟩:=zm hown
 have HI:Hid (Calls Tryz.prog 62 #[.slice p0 b.length c0,.slice (some ⟨W.heap.size,0,none⟩) 1 1] (W.alloc (.cells #[.int .i64 x] 3)) (aS6 B (W.alloc (.cells #[.int .i64 x] 3)) (b++X6 x))):=hid (by
  have:=aTy (l:=[x]) hown hB (by simp) (by intro z hz;simp at hz;rw[hz];exact hx) hb
  rw[show [x].flatMap X6=X6 x by simp]at this
  exact this)
 obtain⟨m0,hm0⟩: ∃m,m=b.length:=⟨_,rfl⟩
 rw[←hm0]at HI⊢
 have HL:Hid (Ly B W (W.alloc (.cells #[.int .i64 x] 3))):=hid (Ly.all B W _ hB)
 clear hown hB hx hb hm0
 go_enter Tryz.func63,Tryz.ntmps63
 go_wp2_with fail
 (with_reducible refine HI.out.mono ?_)
 rintro r w2 ⟨v2,rfl,hO2,hl2⟩
 obtain⟨p2,c2,rfl⟩:=zm hO2
 obtain⟨m2,hm2⟩: ∃m,m=(b++X6 x).length:=⟨_,rfl⟩
 rw[←hm2]at hO2⊢
 have HF:Hid (OB B w2 (.slice p2 m2 c2) (b++X6 x)∧Ly B W w2):=hid ⟨hO2,HL.out.trans hl2⟩
 clear hO2 hl2 hm2
 go_wp2
 go_ret
 exact⟨_,rfl,HF.out.1,HF.out.2⟩
end
section
variable {w0:World}
theorem aVM {l:List In} (h: ∀x∈l,x.ok):LaD w0 61 #[] (fun x:In=>Value.agg #[.int .i64 x.op,.int .i64 x.a,.int .i64 x.b,.int .i64 x.c]) aRU l:=
 ⟨fun vs W=>Tryz.call61 vs W,fun x hx W v b ho hb hl=>aVu ho hb.size (h x hx) (by omega)⟩
theorem aVk {l:List Int} (h: ∀x∈l,okZ x):LaD w0 63 #[] (fun x:Int=>Value.int .i64 x) X6 l:=
 ⟨fun vs W=>Tryz.call63 vs W,fun x hx W v b ho hb hl=>aU3 ho hb.size (h x hx) (by omega)⟩
theorem aUJ {l:List Nat} (h: ∀x∈l,x<18446744073709551616):LaD w0 64 #[] (fun x:Nat=>Value.float .f64 x) agP l:=
 ⟨fun vs W=>Tryz.call64 vs W,fun x hx W v b ho hb hl=>aS1 ho hb.size (h x hx) (by omega)⟩
variable {v:Value} {b:Bs} {W:World} {g:Nat}
theorem aU1 {q:Prg} {T:TypeId} (hown:OB w0.heap.size W v b) (hb0:Below w0.heap.size w0 W) (hg:Blk w0 g T #[.func (.func 61) #[] #[]]) (hv:Vw 4 inC w0 (.slice q.p q.n q.c) q.l) (hn:q.n=q.l.length) (hl:q.n≤1000) (hok: ∀x∈q.l,x.ok) (hb:b.length+(abK aRU q.l).length≤900000):
  Calls Tryz.prog 67 #[v,.slice q.p q.n q.c,.pointer (some ⟨g,0,none⟩)] W (aS6 w0.heap.size W (b++abK aRU q.l)):=by
 obtain⟨p0,c0,rfl⟩:=zm hown
 have HI:=hid (aUR (aVM hok) hown hb0 hv hn hl hb)
 have c1:W.cell? ⟨g,0,none⟩=some (.func (.func 61) #[] #[]):=(hg.below hb0 hg.lt).cell 0
 obtain⟨m0,hm0⟩: ∃m,m=b.length:=⟨_,rfl⟩
 rw[←hm0]at HI⊢
 clear hown hb0 hg hv hn hl hok hb hm0
 go_enter Tryz.func67,Tryz.ntmps67
 go_wp2_with fail
 (with_reducible refine HI.out.mono ?_)
 rintro r w2 ⟨v2,rfl,hO2,hl2⟩
 obtain⟨p2,c2,rfl⟩:=zm hO2
 obtain⟨m2,hm2⟩: ∃m,m=(b++abK aRU q.l).length:=⟨_,rfl⟩
 rw[←hm2]at hO2⊢
 have HF:Hid (OB w0.heap.size w2 (.slice p2 m2 c2) (b++abK aRU q.l)∧Ly w0.heap.size W w2):=hid ⟨hO2,hl2⟩
 clear hO2 hl2 hm2 c1
 go_wp2
 go_ret
 exact⟨_,rfl,HF.out.1,HF.out.2⟩
def aS9 (q:LpR):Bs:=aUU (q.k,q.l)
theorem aVS {q:LpR} {T:TypeId} (hown:OB w0.heap.size W v b) (hb0:Below w0.heap.size w0 W) (hg:Blk w0 g T #[.func (.func 63) #[] #[]]) (hv:Vw 1 wdC w0 (.slice q.p q.n q.c) q.l) (hn:q.n=q.l.length) (hl:q.n≤1000) (hk:okZ q.k) (hok: ∀x∈q.l,okZ x) (hb:b.length+(aS9 q).length≤900000):
  Calls Tryz.prog 70 #[v,.agg #[.int .i64 q.k,.slice q.p q.n q.c],.pointer (some ⟨g,0,none⟩)] W (aS6 w0.heap.size W (b++aS9 q)):=by
 obtain⟨p0,c0,rfl⟩:=zm hown
 obtain⟨W1,hW1⟩: ∃W1,W1=W.alloc (.cells #[.int .i64 q.k,.slice q.p q.n q.c] 88):=⟨_,rfl⟩
 have hB1:Blk W1 W.heap.size 88 #[.int .i64 q.k,.slice q.p q.n q.c]:=by rw[hW1];exact Blk.new W _ _
 have hl1:Below W.heap.size W W1:=by rw[hW1];exact(Below.refl _ W).alloc (Nat.le_refl _) _
 have HLy:Hid (Ly w0.heap.size W W1):=hid (Ly.of hl1 hb0.size)
 have hlen:(aS9 q).length=8+(abK X6 q.l).length:=by unfold aS9 aUU;simp
 have HI:Hid (Calls Tryz.prog 62 #[.slice p0 b.length c0,.slice (some ⟨W1.heap.size,0,none⟩) 1 1] (W1.alloc (.cells #[.int .i64 q.k] 3)).drew (aS6 w0.heap.size (W1.alloc (.cells #[.int .i64 q.k] 3)).drew (b++X6 q.k))):=hid (by
  have:=aTL (l:=[q.k]) (hown.below hl1) (Nat.le_trans hb0.size hl1.size) (by simp) (by intro z hz;simp at hz;rw[hz];exact hk) (by omega)
  rw[show [q.k].flatMap X6=X6 q.k by simp]at this
  exact this)
 have HC:Hid (∀W',Ly w0.heap.size W1 W'→W'.cell? ⟨W.heap.size,0,none⟩=some (.int .i64 q.k)∧W'.cell? ⟨W.heap.size,1,none⟩=some (.slice q.p q.n q.c)∧W'.cell? ⟨g,0,none⟩=some (.func (.func 63) #[] #[])):=hid fun W' h=>by
  have h1:=h.t _ _ _ (by decide) hB1
  have h2:=hg.below ((hb0.trans (HLy.out.b)).trans h.b) hg.lt
  exact⟨h1.cell 0,h1.cell 1,h2.cell 0⟩
 have HD:Hid (Ly w0.heap.size W1 W1.drew):=hid (Ly.of (Z0 (Below.refl _ W1) 1) (Nat.le_trans hb0.size hl1.size))
 have HA:Hid (Ly w0.heap.size W1 (W1.alloc (.cells #[.int .i64 q.k] 3)).drew):=hid (Ly.alld _ _ _ (Nat.le_trans hb0.size hl1.size))
 have HH:=hid (⟨hb0,hv,hn,hl,hok,hb,hlen⟩:_∧_∧_∧_∧_∧_∧_)
 obtain⟨m0,hm0⟩: ∃m,m=b.length:=⟨_,rfl⟩
 rw[←hm0]at HI⊢
 have HW1:=hid hW1
 clear hown hb0 hg hv hn hl hk hok hb hlen hB1 hl1 hW1 hm0
 go_enter Tryz.func70,Tryz.ntmps70
 go_upto_region 1 with fail
 rw[←HW1.out]
 refine zB (fun W'=>W'.cell? ⟨W.heap.size,0,none⟩=some (.int .i64 q.k)∧W'.cell? ⟨W.heap.size,1,none⟩=some (.slice q.p q.n q.c)∧W'.cell? ⟨g,0,none⟩=some (.func (.func 63) #[] #[])) 9 (by kernel_rfl) (HC.out _ HD.out) (fun hHeld=>?_)
 refine eT 0 hHeld ?_;(try simp only[Act.put,sEa,sEb,sEc]);refine eT 1 hHeld ?_;(try simp only[Act.put,sEa,sEb,sEc]);refine eT 2 hHeld ?_;(try simp only[Act.put,sEa,sEb,sEc]);refine eT 5 hHeld ?_;(try simp only[Act.put,sEa,sEb,sEc]);refine eT 6 hHeld ?_;(try simp only[Act.put,sEa,sEb,sEc]);refine eT 7 hHeld ?_;(try simp only[Act.put,sEa,sEb,sEc]);refine eR 3 (fun K hK=>?_);go_simp;refine hK.out _ _ (by exact HC.out _ HA.out) (fun hHeld=>?_);clear hK K;(try simp only[Act.put,sEa,sEb,sEc])
 refine eR 4 (fun K hK=>?_)
 go_simp
 (with_reducible refine HI.out.mono ?_)
 rintro r w2 ⟨v2,rfl,hO2,hl2⟩
 have hL2:Ly w0.heap.size W1 w2:=HA.out.trans hl2
 have HL:=hid (aUT (aVk HH.out.2.2.2.2.1) hO2 ((HH.out.1.trans HLy.out.b).trans hL2.b) HH.out.2.1 HH.out.2.2.1 HH.out.2.2.2.1 (by have:=HH.out.2.2.2.2.2.1;have:=HH.out.2.2.2.2.2.2;rw[List.length_append,aAY];omega))
 have HL2:=hid hL2
 obtain⟨p2,c2,rfl⟩:=zm hO2
 obtain⟨m2,hm2⟩: ∃m,m=(b++X6 q.k).length:=⟨_,rfl⟩
 rw[←hm2]at HL⊢
 clear hO2 hl2 hL2 hm2
 refine hK.out _ _ (HC.out _ HL2.out) (fun hHeld=>?_)
 clear hK K
 (try simp only[Act.put,sEa,sEb,sEc])
 refine eR 8 (fun K hK=>?_)
 go_simp
 (with_reducible refine HL.out.mono ?_)
 rintro r w3 ⟨v3,rfl,hO3,hl3⟩
 have HF:Hid (OB w0.heap.size w3 v3 (b++aS9 q)∧Ly w0.heap.size W w3):=hid ⟨by
  have:b++aS9 q=b++X6 q.k++abK X6 q.l:=by unfold aS9 aUU;simp
  rw[this]
  exact hO3,(HLy.out.trans HL2.out).trans hl3⟩
 refine hK.out _ _ (HC.out _ (HL2.out.trans hl3)) (fun hHeld=>?_)
 clear hK K hO3 hl3
 (try simp only[Act.put,sEa,sEb,sEc])
 refine eL (fun K hK=>?_);go_simp;refine hK.out _ _ ?_;clear hK K;(try simp only[Act.put,sEa,sEb,sEc])
 go_wp2
 go_ret
 exact⟨_,rfl,HF.out.1,HF.out.2⟩
theorem aVt {B:Nat} {x:Ini} (hown:OB B W v b) (hB:B≤W.heap.size) (hx:x.ok) (hb:b.length+24≤900000):
  Calls Tryz.prog 73 #[v,.agg #[.float .f64 x.t,.int .i64 x.dst,.int .i64 x.pay]] W (aS6 B W (b++aRT x)):=by
 obtain⟨p0,c0,rfl⟩:=zm hown
 obtain⟨W1,hW1⟩: ∃W1,W1=W.alloc (.cells #[.float .f64 x.t,.int .i64 x.dst,.int .i64 x.pay] 90):=⟨_,rfl⟩
 have hB1:Blk W1 W.heap.size 90 #[.float .f64 x.t,.int .i64 x.dst,.int .i64 x.pay]:=by rw[hW1];exact Blk.new W _ _
 have hl1:Below W.heap.size W W1:=by rw[hW1];exact(Below.refl _ W).alloc (Nat.le_refl _) _
 have HLy:Hid (Ly B W W1):=hid (Ly.of hl1 hB)
 have hBs:=Nat.le_trans hB hl1.size
 have HD:Hid (Ly B W1 W1.drew):=hid (Ly.of (Z0 (Below.refl _ W1) 1) hBs)
 have HI:=hid (aS1 (w:=W1.drew) (hown.below (hl1.trans (Z0 (Below.refl _ W1) 1 |>.mono hl1.size))) hBs hx.1 (by omega))
 have HC:Hid (∀W',Ly B W1 W'→W'.cell? ⟨W.heap.size,0,none⟩=some (.float .f64 x.t)∧W'.cell? ⟨W.heap.size,1,none⟩=some (.int .i64 x.dst)∧W'.cell? ⟨W.heap.size,2,none⟩=some (.int .i64 x.pay)):=hid fun W' h=>by
  have h1:=h.t _ _ _ (by decide) hB1
  exact⟨h1.cell 0,h1.cell 1,h1.cell 2⟩
 have HA:Hid (Ly B W1 (W1.alloc (.cells #[.int .i64 x.dst,.int .i64 x.pay] 3)).drew∧Blk (W1.alloc (.cells #[.int .i64 x.dst,.int .i64 x.pay] 3)).drew W1.heap.size 3 #[.int .i64 x.dst,.int .i64 x.pay]):=hid ⟨Ly.alld _ _ _ hBs,Blk.new _ _ _⟩
 have HI2:=hid (aS1 (w:=(W1.alloc (.cells #[.int .i64 x.dst,.int .i64 x.pay] 3)).drew) ((hown.below hl1).below (Z0 ((Below.refl _ W1).alloc (Nat.le_refl _) _) 1)) (Nat.le_trans hBs (by show W1.heap.size≤(W1.alloc _).heap.size;simp)) hx.1 (by omega))
 have HH:=hid (⟨hBs,hx,hb⟩:_∧_∧_)
 obtain⟨m0,hm0⟩: ∃m,m=b.length:=⟨_,rfl⟩
 rw[←hm0]at HI HI2⊢
 have HW1:=hid hW1
 clear hown hB hx hb hB1 hl1 hW1 hm0 hBs
 go_enter Tryz.func73,Tryz.ntmps73
 go_upto_region 1 with fail
 rw[←HW1.out]
 refine zB (fun W'=>W'.cell? ⟨W.heap.size,0,none⟩=some (.float .f64 x.t)∧W'.cell? ⟨W.heap.size,1,none⟩=some (.int .i64 x.dst)∧W'.cell? ⟨W.heap.size,2,none⟩=some (.int .i64 x.pay)) 10 (by kernel_rfl) (HC.out _ HD.out) (fun hHeld=>?_)
 refine eT 0 hHeld ?_;(try simp only[Act.put,sEa,sEb,sEc]);refine eT 1 hHeld ?_;(try simp only[Act.put,sEa,sEb,sEc]);refine eT 2 hHeld ?_;(try simp only[Act.put,sEa,sEb,sEc]);refine eT 4 hHeld ?_;(try simp only[Act.put,sEa,sEb,sEc]);refine eT 5 hHeld ?_;(try simp only[Act.put,sEa,sEb,sEc]);refine eT 6 hHeld ?_;(try simp only[Act.put,sEa,sEb,sEc]);refine eT 7 hHeld ?_;(try simp only[Act.put,sEa,sEb,sEc])
 refine eR2 (i:=3) (j:=8) (by(simp only[gEa,gEb,gEc];try rfl)) (by(simp only[gEa,gEb,gEc];try rfl)) (by kernel_rfl) (by rfl) (fun K hK=>?_) (fun K hK=>?_)
 ·go_simp
  (with_reducible refine HI.out.mono ?_)
  rintro r w2 ⟨v2,rfl,hO2,hl2⟩
  have hL2:Ly B W1 w2:=HD.out.trans hl2
  have hs2:B≤w2.heap.size:=Nat.le_trans HH.out.1 hL2.b.size
  have HJ:Hid (Calls Tryz.prog 62 #[v2,.slice (some ⟨w2.heap.size,0,none⟩) 2 2] (w2.alloc (.cells #[.int .i64 x.dst,.int .i64 x.pay] 3)) (aS6 B (w2.alloc (.cells #[.int .i64 x.dst,.int .i64 x.pay] 3)) (b++aRT x))):=hid (by
   have:=aTy (l:=[x.dst,x.pay]) hO2 hs2 (by simp) (by
    intro z hz
    simp only[List.mem_cons,List.not_mem_nil,or_false]at hz
    rcases hz with rfl|rfl
    ·exact HH.out.2.1.2.1
    ·exact HH.out.2.1.2.2) (by have:=HH.out.2.2;rw[List.length_append];unfold agP;rw[aL0];omega)
   rw[show b++agP x.t++[x.dst,x.pay].flatMap X6=b++aRT x by simp[aRT]]at this
   exact this)
  obtain⟨p2,c2,rfl⟩:=zm hO2
  obtain⟨m2,hm2⟩: ∃m,m=(b++agP x.t).length:=⟨_,rfl⟩
  rw[←hm2]at HJ⊢
  have HL2:Hid (Ly B W1 w2∧Ly B W1 (w2.alloc (.cells #[.int .i64 x.dst,.int .i64 x.pay] 3))):=hid ⟨hL2,hL2.trans (Ly.all _ _ _ hs2)⟩
  clear hO2 hl2 hL2 hs2 hm2
  refine hK.out _ _ (HC.out _ HL2.out.1) (fun hHeld=>?_)
  clear hK K
  (try simp only[Act.put,sEa,sEb,sEc])
  refine eR 8 (fun K hK=>?_);go_simp;refine hK.out _ _ (by exact HC.out _ HL2.out.2) (fun hHeld=>?_);clear hK K;(try simp only[Act.put,sEa,sEb,sEc])
  refine eR 9 (fun K hK=>?_)
  go_simp
  (with_reducible refine HJ.out.mono ?_)
  rintro r w3 ⟨v3,rfl,hO3,hl3⟩
  have HF:Hid (OB B w3 v3 (b++aRT x)∧Ly B W w3):=hid ⟨hO3,(HLy.out.trans HL2.out.2).trans hl3⟩
  refine hK.out _ _ (HC.out _ (HL2.out.2.trans hl3)) (fun hHeld=>?_)
  clear hK K hO3 hl3
  (try simp only[Act.put,sEa,sEb,sEc])
  refine eL (fun K hK=>?_);go_simp;refine hK.out _ _ ?_;clear hK K;(try simp only[Act.put,sEa,sEb,sEc])
  go_wp2
  go_ret
  exact⟨_,rfl,HF.out.1,HF.out.2⟩
 ·go_simp
  refine hK.out _ _ (HC.out _ HA.out.1) (fun hHeld=>?_)
  clear hK K
  (try simp only[Act.put,sEa,sEb,sEc])
  refine eR 3 (fun K hK=>?_)
  go_simp
  (with_reducible refine HI2.out.mono ?_)
  rintro r w2 ⟨v2,rfl,hO2,hl2⟩
  have hL2:Ly B W1 w2:=HA.out.1.trans hl2
  have hs2:B≤w2.heap.size:=Nat.le_trans HH.out.1 hL2.b.size
  have HJ:Hid (Calls Tryz.prog 62 #[v2,.slice (some ⟨W1.heap.size,0,none⟩) 2 2] w2 (aS6 B w2 (b++aRT x))):=hid (by
   have:=aSQ (l:=[x.dst,x.pay]) hO2 hs2 (hl2.t _ _ _ (by decide) HA.out.2) (by simp) (by
    intro z hz
    simp only[List.mem_cons,List.not_mem_nil,or_false]at hz
    rcases hz with rfl|rfl
    ·exact HH.out.2.1.2.1
    ·exact HH.out.2.1.2.2) (by have:=HH.out.2.2;rw[List.length_append];unfold agP;rw[aL0];omega)
   rw[show b++agP x.t++[x.dst,x.pay].flatMap X6=b++aRT x by simp[aRT]]at this
   exact this)
  obtain⟨p2,c2,rfl⟩:=zm hO2
  obtain⟨m2,hm2⟩: ∃m,m=(b++agP x.t).length:=⟨_,rfl⟩
  rw[←hm2]at HJ⊢
  have HL2:=hid hL2
  clear hO2 hl2 hL2 hs2 hm2
  refine hK.out _ _ (HC.out _ HL2.out) (fun hHeld=>?_)
  clear hK K
  (try simp only[Act.put,sEa,sEb,sEc])
  refine eR 9 (fun K hK=>?_)
  go_simp
  (with_reducible refine HJ.out.mono ?_)
  rintro r w3 ⟨v3,rfl,hO3,hl3⟩
  have HF:Hid (OB B w3 v3 (b++aRT x)∧Ly B W w3):=hid ⟨hO3,(HLy.out.trans HL2.out).trans hl3⟩
  refine hK.out _ _ (HC.out _ (HL2.out.trans hl3)) (fun hHeld=>?_)
  clear hK K hO3 hl3
  (try simp only[Act.put,sEa,sEb,sEc])
  refine eL (fun K hK=>?_);go_simp;refine hK.out _ _ ?_;clear hK K;(try simp only[Act.put,sEa,sEb,sEc])
  go_wp2
  go_ret
  exact⟨_,rfl,HF.out.1,HF.out.2⟩
end
end
end Go.Proofs.YtcdiljebkpikbaaGreat
