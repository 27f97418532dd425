/- Parts of the proof: Seo. -/
import Derived.Test.YtcdiljebkpikbaaGreatS31
import Derived.Test.YtcdiljebkpikbaaGreatS32
set_option linter.all false
set_option maxRecDepth 100000
set_option maxHeartbeats 64000000
namespace Go.Proofs.YtcdiljebkpikbaaGreat
section
open Go.RowKit Go.Lib
theorem JG {W:World} {x y:MdV} (hx:qZ W x) (hy:qZ W y) (h:ab1 x.m y.m=true) (h1:x.dn≤1000) (h2:x.pn≤1000) (h3:x.ln≤1000) (h4:x.im≤1000) (hp: ∀q∈x.ps,q.n≤1000) (hl: ∀q∈x.ls,q.n≤1000):
  Calls Tryz.prog 26 #[.agg (mdC x).toArray,.agg (mdC y).toArray] W fun r w'=>r= .returned (.bool true)∧Below W.heap.size W w':=by
 obtain⟨⟨e1,e2,e3,e4,e5,e6⟩,hs⟩:=aSc hx hy h hp hl
 obtain⟨sd,en,dp,dn,dc,dl,pp,pn,pc,ps,lp,ln,lc,ls,ip,im,ic,is⟩:=x
 obtain⟨sd',en',dp',dn',dc',dl',pp',pn',pc',ps',lp',ln',lc',ls',ip',im',ic',is'⟩:=y
 dsimp only at e1 e2 e3 e4 e5 e6 h1 h2 h3 h4 hs
 subst e1 e3 e4 e5 e6
 clear hx hy h hp hl
 obtain⟨bx,hbx⟩: ∃k,k=W.heap.size:=⟨_,rfl⟩
 obtain⟨by',hby⟩: ∃k,k=W.heap.size+1:=⟨_,rfl⟩
 obtain⟨W1,hW1⟩: ∃w,w=(W.alloc (.cells #[.int .i64 sd,.float .f64 en,.slice dp dn dc,.slice pp pn pc,.slice lp ln lc,.slice ip im ic] 29)).alloc (.cells #[.int .i64 sd,.float .f64 en',.slice dp' dn dc',.slice pp' pn pc',.slice lp' ln lc',.slice ip' im ic'] 29):=⟨_,rfl⟩
 have hb1:Below W.heap.size W W1:=by rw[hW1];exact((Below.refl _ W).alloc (Nat.le_refl _) _).alloc (by simp) _
 have hX:Blk W1 bx 29 #[.int .i64 sd,.float .f64 en,.slice dp dn dc,.slice pp pn pc,.slice lp ln lc,.slice ip im ic]:=by rw[hW1,hbx];exact(Blk.new W _ _).alloc _
 have hY:Blk W1 by' 29 #[.int .i64 sd,.float .f64 en',.slice dp' dn dc',.slice pp' pn pc',.slice lp' ln lc',.slice ip' im ic']:=by
  have:=Blk.new (W.alloc (.cells #[.int .i64 sd,.float .f64 en,.slice dp dn dc,.slice pp pn pc,.slice lp ln lc,.slice ip im ic] 29)) 29 #[.int .i64 sd,.float .f64 en',.slice dp' dn dc',.slice pp' pn pc',.slice lp' ln lc',.slice ip' im ic']
  rw[World.size_alloc]at this
  rw[hW1,hby]
  exact this
 have HC:Hid (∀W',Below W1.heap.size W1 W'→((W'.cell? ⟨bx,0,none⟩=some (.int .i64 sd)∧W'.cell? ⟨bx,1,none⟩=some (.float .f64 en)∧W'.cell? ⟨bx,2,none⟩=some (.slice dp dn dc)∧W'.cell? ⟨bx,3,none⟩=some (.slice pp pn pc)∧W'.cell? ⟨bx,4,none⟩=some (.slice lp ln lc)∧W'.cell? ⟨bx,5,none⟩=some (.slice ip im ic))∧
   (W'.cell? ⟨by',0,none⟩=some (.int .i64 sd)∧W'.cell? ⟨by',1,none⟩=some (.float .f64 en')∧W'.cell? ⟨by',2,none⟩=some (.slice dp' dn dc')∧W'.cell? ⟨by',3,none⟩=some (.slice pp' pn pc')∧W'.cell? ⟨by',4,none⟩=some (.slice lp' ln lc')∧W'.cell? ⟨by',5,none⟩=some (.slice ip' im ic')))∧Below W.heap.size W W'):=hid fun W' hb=>by
  have hX2:=hX.below hb hX.lt
  have hY2:=hY.below hb hY.lt
  exact⟨⟨⟨hX2.cell 0,hX2.cell 1,hX2.cell 2,hX2.cell 3,hX2.cell 4,hX2.cell 5⟩,⟨hY2.cell 0,hY2.cell 1,hY2.cell 2,hY2.cell 3,hY2.cell 4,hY2.cell 5⟩⟩,hb1.trans (hb.mono hb1.size)⟩
 have HF:=hid (fun w=>qL e2 w)
 have HS:=hid hs
 have HN:=hid (⟨h1,h2,h3,h4⟩:_∧_∧_∧_)
 have HW:=hid (⟨hbx,hby,hW1⟩:_∧_∧_)
 unfold mdC
 obtain⟨⟨⟨x0,x1,x2,x3,x4,x5⟩,⟨y0,y1,y2,y3,y4,y5⟩⟩,_⟩:=HC.out W1 (Below.refl _ _)
 clear hbx hby hW1 hX hY hb1 hs e2 h1 h2 h3 h4
 go_enter Tryz.func26,Tryz.ntmps26
 go_upto_region 1 with fail
 rw[←HW.out.2.1,←HW.out.1,←HW.out.2.2]
 go_wp2_with fail
 (with_reducible refine(HF.out _).mono ?_)
 rintro r w2 ⟨rfl,rfl⟩
 go_wp2_with fail
 go_loopg [5] dn (fun gg s5 wr=> ∃j:Nat,j≤dn∧dn-j≤gg∧s5= .int .i64 j∧Hid (Below W1.heap.size W1 wr))
 case atStart=>exact⟨0,by omega,by omega,rfl,hid (Below.refl _ _)⟩
 case round=>
  obtain⟨j,hj,hgg,rfl,HB⟩:=hrel
  clear x0 x1 x2 x3 x4 x5 y0 y1 y2 y3 y4 y5
  obtain⟨⟨⟨x0,x1,x2,x3,x4,x5⟩,⟨y0,y1,y2,y3,y4,y5⟩⟩,_⟩:=HC.out wr HB.out
  have hdz:(dn:Int)≤1000:=by have:=HN.out.1;omega
  by_cases hje:j<dn
  ·obtain⟨a,b,g1,o1,g2,o2,rfl,rfl,hab,hcc⟩:=HS.out.d j hje
   have hcc:=hcc wr ((HC.out _ HB.out).2)
   have HFF:=hid (fun w=>qL hab w)
   have hji:(j:Int)<(dn:Int):=by omega
   have HJ:=hid hje
   clear hab
   obtain⟨u1,u2⟩:=hcc
   go_upto_region 6 with fail
   refine zB (fun W'=>W'.cell? ⟨bx,2,none⟩=some (.slice (some ⟨g1,o1,none⟩) dn dc)∧W'.cell? ⟨by',2,none⟩=some (.slice (some ⟨g2,o2,none⟩) dn dc')∧W'.cell? ⟨g1,o1+j,none⟩=some (.float .f64 a)∧W'.cell? ⟨g2,o2+j,none⟩=some (.float .f64 b)) 11 (by kernel_rfl) ⟨x2,y2,u1,u2⟩ (fun hHeld=>?_)
   refine eT 0 hHeld ?_;(try simp only[Act.put,sEa,sEb,sEc]);refine eT 1 hHeld ?_;(try simp only[Act.put,sEa,sEb,sEc]);refine eT 2 hHeld ?_;(try simp only[Act.put,sEa,sEb,sEc]);refine eT 3 hHeld ?_;(try simp only[Act.put,sEa,sEb,sEc]);refine eT 4 hHeld ?_;(try simp only[Act.put,sEa,sEb,sEc]);refine eT 5 hHeld ?_;(try simp only[Act.put,sEa,sEb,sEc]);refine eT 6 hHeld ?_;(try simp only[Act.put,sEa,sEb,sEc]);refine eT 7 hHeld ?_;(try simp only[Act.put,sEa,sEb,sEc]);refine eT 8 hHeld ?_;(try simp only[Act.put,sEa,sEb,sEc]);refine eT 9 hHeld ?_;(try simp only[Act.put,sEa,sEb,sEc])
   refine eR 10 (fun K hK=>?_)
   go_simp
   (with_reducible refine(HFF.out _).mono ?_)
   rintro r w2 ⟨rfl,rfl⟩
   refine hK.out _ _ hHeld (fun hHeld=>?_)
   clear hK K
   (try simp only[Act.put,sEa,sEb,sEc])
   refine eL (fun K hK=>?_);go_simp;refine hK.out _ _ ?_;clear hK K;(try simp only[Act.put,sEa,sEb,sEc])
   go_wp2
   go_roundg (dn- (j+1))
   case measure=>have:=HJ.out;omega
   case rel=>exact⟨j+1,by have:=HJ.out;omega,by omega,by go_num,hid HB.out.drew⟩
  ·have hji: ¬(j:Int)<(dn:Int):=by omega
   have HB2:=HB
   clear hgg HB
   obtain⟨w3,rfl⟩: ∃w3,w3=wr:=⟨_,rfl⟩
   go_wp2_with fail
   go_loopg [6] pn (fun gg s6 wr=> ∃j:Nat,j≤pn∧pn-j≤gg∧s6= .int .i64 j∧Hid (Below W1.heap.size W1 wr))
   case atStart=>exact⟨0,by omega,by omega,rfl,HB2⟩
   case round=>
    obtain⟨j,hj,hgg,rfl,HB⟩:=hrel
    clear x0 x1 x2 x3 x4 x5 y0 y1 y2 y3 y4 y5
    obtain⟨⟨⟨x0,x1,x2,x3,x4,x5⟩,⟨y0,y1,y2,y3,y4,y5⟩⟩,_⟩:=HC.out wr HB.out
    have hpz:(pn:Int)≤1000:=by have:=HN.out.2.1;omega
    by_cases hje:j<pn
    ·obtain⟨p,n,c,p',c',g1,o1,g2,o2,rfl,rfl,hnz,hcc,hin⟩:=HS.out.p j hje
     have HCC:=hid hcc
     have HIN:=hid hin
     have hcc:=hcc wr ((HC.out _ HB.out).2)
     have hji:(j:Int)<(pn:Int):=by omega
     have HJ:=hid hje
     have hnz2:(n:Int)≤1000:=by omega
     clear hin
     obtain⟨u1,u2⟩:=hcc
     go_upto_region 11 with fail
     refine zB (fun W'=>W'.cell? ⟨bx,3,none⟩=some (.slice (some ⟨g1,o1,none⟩) pn pc)∧W'.cell? ⟨by',3,none⟩=some (.slice (some ⟨g2,o2,none⟩) pn pc')∧W'.cell? ⟨g1,o1+j,none⟩=some (.slice p n c)∧W'.cell? ⟨g2,o2+j,none⟩=some (.slice p' n c')) 12 (by kernel_rfl) ⟨x3,y3,u1,u2⟩ (fun hHeld=>?_)
     refine eT 0 hHeld ?_;(try simp only[Act.put,sEa,sEb,sEc]);refine eT 1 hHeld ?_;(try simp only[Act.put,sEa,sEb,sEc]);refine eT 2 hHeld ?_;(try simp only[Act.put,sEa,sEb,sEc]);refine eT 3 hHeld ?_;(try simp only[Act.put,sEa,sEb,sEc]);refine eT 4 hHeld ?_;(try simp only[Act.put,sEa,sEb,sEc]);refine eT 5 hHeld ?_;(try simp only[Act.put,sEa,sEb,sEc]);refine eT 6 hHeld ?_;(try simp only[Act.put,sEa,sEb,sEc]);refine eT 7 hHeld ?_;(try simp only[Act.put,sEa,sEb,sEc]);refine eT 8 hHeld ?_;(try simp only[Act.put,sEa,sEb,sEc]);refine eT 9 hHeld ?_;(try simp only[Act.put,sEa,sEb,sEc]);refine eT 10 hHeld ?_;(try simp only[Act.put,sEa,sEb,sEc]);refine eT 11 hHeld ?_;(try simp only[Act.put,sEa,sEb,sEc]);refine eL (fun K hK=>?_);go_simp;refine hK.out _ _ ?_;clear hK K;(try simp only[Act.put,sEa,sEb,sEc])
     go_wp2_with fail
     go_loopg [7] n (fun gg s7 wr=> ∃i:Nat,i≤n∧n-i≤gg∧s7= .int .i64 i∧Hid (Below W1.heap.size W1 wr))
     case atStart=>exact⟨0,by omega,by omega,rfl,hid HB.out.drew⟩
     case round=>
      obtain⟨i,hi,hgi,rfl,HBI⟩:=hrel
      clear x0 x1 x2 x3 x4 x5 y0 y1 y2 y3 y4 y5 u1 u2
      obtain⟨⟨⟨x0,x1,x2,x3,x4,x5⟩,⟨y0,y1,y2,y3,y4,y5⟩⟩,_⟩:=HC.out wr HBI.out
      obtain⟨u1,u2⟩:=HCC.out wr ((HC.out _ HBI.out).2)
      by_cases hie:i<n
      ·obtain⟨z,b1,q1,b2,q2,rfl,rfl,hz⟩:=HIN.out i hie
       obtain⟨⟨v0,v1,v2,v3⟩,⟨v4,v5,v6,v7⟩⟩:=hz wr ((HC.out _ HBI.out).2)
       have hii:(i:Int)<(n:Int):=by omega
       have HIE:=hid hie
       clear hz
       go_upto_region 16 with fail
       refine zB (fun W'=>(W'.cell? ⟨bx,3,none⟩=some (.slice (some ⟨g1,o1,none⟩) pn pc)∧W'.cell? ⟨by',3,none⟩=some (.slice (some ⟨g2,o2,none⟩) pn pc')∧W'.cell? ⟨g1,o1+j,none⟩=some (.slice (some ⟨b1,q1,none⟩) n c)∧W'.cell? ⟨g2,o2+j,none⟩=some (.slice (some ⟨b2,q2,none⟩) n c'))∧(W'.cell? ⟨b1,q1+i*4,none⟩=some (.int .i64 z.op)∧W'.cell? ⟨b1,q1+i*4+1,none⟩=some (.int .i64 z.a)∧W'.cell? ⟨b1,q1+i*4+2,none⟩=some (.int .i64 z.b)∧W'.cell? ⟨b1,q1+i*4+3,none⟩=some (.int .i64 z.c))∧(W'.cell? ⟨b2,q2+i*4,none⟩=some (.int .i64 z.op)∧W'.cell? ⟨b2,q2+i*4+1,none⟩=some (.int .i64 z.a)∧W'.cell? ⟨b2,q2+i*4+2,none⟩=some (.int .i64 z.b)∧W'.cell? ⟨b2,q2+i*4+3,none⟩=some (.int .i64 z.c))) 16 (by kernel_rfl) ⟨⟨x3,y3,u1,u2⟩,⟨v0,v1,v2,v3⟩,v4,v5,v6,v7⟩ (fun hHeld=>?_)
       refine eT 0 hHeld ?_;(try simp only[Act.put,sEa,sEb,sEc]);refine eT 1 hHeld ?_;(try simp only[Act.put,sEa,sEb,sEc]);refine eT 2 hHeld ?_;(try simp only[Act.put,sEa,sEb,sEc]);refine eT 3 hHeld ?_;(try simp only[Act.put,sEa,sEb,sEc]);refine eT 4 hHeld ?_;(try simp only[Act.put,sEa,sEb,sEc]);refine eT 5 hHeld ?_;(try simp only[Act.put,sEa,sEb,sEc]);refine eT 6 hHeld ?_;(try simp only[Act.put,sEa,sEb,sEc]);refine eT 7 hHeld ?_;(try simp only[Act.put,sEa,sEb,sEc]);refine eT 8 hHeld ?_;(try simp only[Act.put,sEa,sEb,sEc]);refine eT 9 hHeld ?_;(try simp only[Act.put,sEa,sEb,sEc]);refine eT 10 hHeld ?_;(try simp only[Act.put,sEa,sEb,sEc]);refine eT 11 hHeld ?_;(try simp only[Act.put,sEa,sEb,sEc]);refine eT 12 hHeld ?_;(try simp only[Act.put,sEa,sEb,sEc]);refine eT 13 hHeld ?_;(try simp only[Act.put,sEa,sEb,sEc]);refine eT 14 hHeld ?_;(try simp only[Act.put,sEa,sEb,sEc]);refine eT 15 hHeld ?_;(try simp only[Act.put,sEa,sEb,sEc]);refine eL (fun K hK=>?_);go_simp;refine hK.out _ _ ?_;clear hK K;(try simp only[Act.put,sEa,sEb,sEc])
       go_wp2
       go_roundg (n- (i+1))
       case measure=>have:=HIE.out;omega
       case rel=>exact⟨i+1,by have:=HIE.out;omega,by omega,by go_num,hid HBI.out.drew⟩
      ·have hii: ¬(i:Int)<(n:Int):=by omega
       go_wp2
       go_roundg (pn- (j+1))
       case measure=>have:=HJ.out;omega
       case rel=>exact⟨j+1,by have:=HJ.out;omega,by omega,by go_num,HBI⟩
    ·have hji: ¬(j:Int)<(pn:Int):=by omega
     have HB3:=HB
     clear hgg HB HB2
     obtain⟨w4,rfl⟩: ∃w4,w4=wr:=⟨_,rfl⟩
     go_wp2_with fail
     go_loopg [8] ln (fun gg s8 wr=> ∃j:Nat,j≤ln∧ln-j≤gg∧s8= .int .i64 j∧Hid (Below W1.heap.size W1 wr))
     case atStart=>exact⟨0,by omega,by omega,rfl,HB3⟩
     case round=>
      obtain⟨j,hj,hgg,rfl,HB⟩:=hrel
      clear x0 x1 x2 x3 x4 x5 y0 y1 y2 y3 y4 y5
      obtain⟨⟨⟨x0,x1,x2,x3,x4,x5⟩,⟨y0,y1,y2,y3,y4,y5⟩⟩,_⟩:=HC.out wr HB.out
      have hlz:(ln:Int)≤1000:=by have:=HN.out.2.2.1;omega
      by_cases hje:j<ln
      ·obtain⟨k,l,p,n,c,p',c',g1,o1,g2,o2,rfl,rfl,hnl,hnz,hcc⟩:=HS.out.l j hje
       obtain⟨⟨u1,u2,u3,u4⟩,hv1,hv2⟩:=hcc wr ((HC.out _ HB.out).2)
       have HRI:=hid (JF (hv1.below (Below.refl wr.heap.size wr).drew) (hv2.below (Below.refl wr.heap.size wr).drew) hnl hnz)
       have hji:(j:Int)<(ln:Int):=by omega
       have HJ:=hid hje
       have HCC:=hid hcc
       clear hcc hv1 hv2 hnl
       go_upto_region 21 with fail
       refine zB (fun W'=>(W'.cell? ⟨bx,4,none⟩=some (.slice (some ⟨g1,o1,none⟩) ln lc)∧W'.cell? ⟨by',4,none⟩=some (.slice (some ⟨g2,o2,none⟩) ln lc'))∧W'.cell? ⟨g1,o1+j*2,none⟩=some (.int .i64 k)∧W'.cell? ⟨g1,o1+j*2+1,none⟩=some (.slice p n c)∧W'.cell? ⟨g2,o2+j*2,none⟩=some (.int .i64 k)∧W'.cell? ⟨g2,o2+j*2+1,none⟩=some (.slice p' n c')) 28 (by kernel_rfl) ⟨⟨x4,y4⟩,u1,u2,u3,u4⟩ (fun hHeld=>?_)
       refine eT 0 hHeld ?_;(try simp only[Act.put,sEa,sEb,sEc]);refine eT 1 hHeld ?_;(try simp only[Act.put,sEa,sEb,sEc]);refine eT 2 hHeld ?_;(try simp only[Act.put,sEa,sEb,sEc]);refine eT 3 hHeld ?_;(try simp only[Act.put,sEa,sEb,sEc]);refine eT 4 hHeld ?_;(try simp only[Act.put,sEa,sEb,sEc]);refine eT 5 hHeld ?_;(try simp only[Act.put,sEa,sEb,sEc]);refine eT 6 hHeld ?_;(try simp only[Act.put,sEa,sEb,sEc]);refine eT 7 hHeld ?_;(try simp only[Act.put,sEa,sEb,sEc]);refine eT 8 hHeld ?_;(try simp only[Act.put,sEa,sEb,sEc]);refine eT 9 hHeld ?_;(try simp only[Act.put,sEa,sEb,sEc]);refine eT 10 hHeld ?_;(try simp only[Act.put,sEa,sEb,sEc]);refine eT 11 hHeld ?_;(try simp only[Act.put,sEa,sEb,sEc]);refine eT 12 hHeld ?_;(try simp only[Act.put,sEa,sEb,sEc]);refine eT 13 hHeld ?_;(try simp only[Act.put,sEa,sEb,sEc]);refine eT 14 hHeld ?_;(try simp only[Act.put,sEa,sEb,sEc]);refine eT 15 hHeld ?_;(try simp only[Act.put,sEa,sEb,sEc]);refine eT 16 hHeld ?_;(try simp only[Act.put,sEa,sEb,sEc]);refine eT 17 hHeld ?_;(try simp only[Act.put,sEa,sEb,sEc]);refine eT 18 hHeld ?_;(try simp only[Act.put,sEa,sEb,sEc]);refine eT 19 hHeld ?_;(try simp only[Act.put,sEa,sEb,sEc]);refine eT 20 hHeld ?_;(try simp only[Act.put,sEa,sEb,sEc]);refine eT 21 hHeld ?_;(try simp only[Act.put,sEa,sEb,sEc]);refine eT 22 hHeld ?_;(try simp only[Act.put,sEa,sEb,sEc]);refine eT 23 hHeld ?_;(try simp only[Act.put,sEa,sEb,sEc]);refine eT 24 hHeld ?_;(try simp only[Act.put,sEa,sEb,sEc]);refine eT 25 hHeld ?_;(try simp only[Act.put,sEa,sEb,sEc])
       refine eR 26 (fun K hK=>?_)
       go_simp
       (with_reducible refine HRI.out.mono ?_)
       rintro r w5 ⟨rfl,hb5⟩
       have HB5:=hid (HB.out.trans ((Below.trans (Below.refl wr.heap.size wr).drew hb5).mono HB.out.size))
       obtain⟨⟨⟨x0,x1,x2,x3,x4,x5⟩,⟨y0,y1,y2,y3,y4,y5⟩⟩,_⟩:=HC.out w5 HB5.out
       obtain⟨⟨u1,u2,u3,u4⟩,_,_⟩:=HCC.out w5 ((HC.out _ HB5.out).2)
       refine hK.out _ _ ⟨⟨x4,y4⟩,u1,u2,u3,u4⟩ (fun hHeld=>?_)
       clear hK K hb5
       (try simp only[Act.put,sEa,sEb,sEc])
       refine eT 27 hHeld ?_;(try simp only[Act.put,sEa,sEb,sEc]);refine eL (fun K hK=>?_);go_simp;refine hK.out _ _ ?_;clear hK K;(try simp only[Act.put,sEa,sEb,sEc])
       go_wp2
       go_roundg (ln- (j+1))
       case measure=>have:=HJ.out;omega
       case rel=>exact⟨j+1,by have:=HJ.out;omega,by omega,by go_num,HB5⟩
      ·have hji: ¬(j:Int)<(ln:Int):=by omega
       have HB4:=HB
       clear hgg HB HB3
       obtain⟨w5,rfl⟩: ∃w5,w5=wr:=⟨_,rfl⟩
       go_wp2_with fail
       go_loopg [9] im (fun gg s9 wr=> ∃j:Nat,j≤im∧im-j≤gg∧s9= .int .i64 j∧Hid (Below W1.heap.size W1 wr))
       case atStart=>exact⟨0,by omega,by omega,rfl,HB4⟩
       case round=>
        obtain⟨j,hj,hgg,rfl,HB⟩:=hrel
        clear x0 x1 x2 x3 x4 x5 y0 y1 y2 y3 y4 y5
        obtain⟨⟨⟨x0,x1,x2,x3,x4,x5⟩,⟨y0,y1,y2,y3,y4,y5⟩⟩,_⟩:=HC.out wr HB.out
        have hiz:(im:Int)≤1000:=by have:=HN.out.2.2.2;omega
        by_cases hje:j<im
        ·obtain⟨a,b,d,y,g1,o1,g2,o2,rfl,rfl,hab,hcc⟩:=HS.out.i j hje
         obtain⟨⟨u1,u2,u3⟩,⟨u4,u5,u6⟩⟩:=hcc wr ((HC.out _ HB.out).2)
         have HFF:=hid (fun w=>qL hab w)
         have hji:(j:Int)<(im:Int):=by omega
         have HJ:=hid hje
         clear hcc hab
         go_upto_region 26 with fail
         refine zB (fun W'=>(W'.cell? ⟨bx,5,none⟩=some (.slice (some ⟨g1,o1,none⟩) im ic)∧W'.cell? ⟨by',5,none⟩=some (.slice (some ⟨g2,o2,none⟩) im ic'))∧(W'.cell? ⟨g1,o1+j*3,none⟩=some (.float .f64 a)∧W'.cell? ⟨g1,o1+j*3+1,none⟩=some (.int .i64 d)∧W'.cell? ⟨g1,o1+j*3+2,none⟩=some (.int .i64 y))∧W'.cell? ⟨g2,o2+j*3,none⟩=some (.float .f64 b)∧W'.cell? ⟨g2,o2+j*3+1,none⟩=some (.int .i64 d)∧W'.cell? ⟨g2,o2+j*3+2,none⟩=some (.int .i64 y)) 43 (by kernel_rfl) ⟨⟨x5,y5⟩,⟨u1,u2,u3⟩,u4,u5,u6⟩ (fun hHeld=>?_)
         refine eT 0 hHeld ?_;(try simp only[Act.put,sEa,sEb,sEc]);refine eT 1 hHeld ?_;(try simp only[Act.put,sEa,sEb,sEc]);refine eT 2 hHeld ?_;(try simp only[Act.put,sEa,sEb,sEc]);refine eT 3 hHeld ?_;(try simp only[Act.put,sEa,sEb,sEc]);refine eT 4 hHeld ?_;(try simp only[Act.put,sEa,sEb,sEc]);refine eT 5 hHeld ?_;(try simp only[Act.put,sEa,sEb,sEc]);refine eT 6 hHeld ?_;(try simp only[Act.put,sEa,sEb,sEc]);refine eT 7 hHeld ?_;(try simp only[Act.put,sEa,sEb,sEc]);refine eT 8 hHeld ?_;(try simp only[Act.put,sEa,sEb,sEc]);refine eT 9 hHeld ?_;(try simp only[Act.put,sEa,sEb,sEc]);refine eT 10 hHeld ?_;(try simp only[Act.put,sEa,sEb,sEc]);refine eT 11 hHeld ?_;(try simp only[Act.put,sEa,sEb,sEc])
         refine eR 12 (fun K hK=>?_)
         go_simp
         (with_reducible refine(HFF.out _).mono ?_)
         rintro r w2 ⟨rfl,rfl⟩
         refine hK.out _ _ hHeld (fun hHeld=>?_)
         clear hK K
         (try simp only[Act.put,sEa,sEb,sEc])
         refine eT 13 hHeld ?_;(try simp only[Act.put,sEa,sEb,sEc]);refine eT 14 hHeld ?_;(try simp only[Act.put,sEa,sEb,sEc]);refine eT 15 hHeld ?_;(try simp only[Act.put,sEa,sEb,sEc]);refine eT 16 hHeld ?_;(try simp only[Act.put,sEa,sEb,sEc]);refine eT 17 hHeld ?_;(try simp only[Act.put,sEa,sEb,sEc]);refine eT 18 hHeld ?_;(try simp only[Act.put,sEa,sEb,sEc]);refine eT 19 hHeld ?_;(try simp only[Act.put,sEa,sEb,sEc]);refine eT 20 hHeld ?_;(try simp only[Act.put,sEa,sEb,sEc]);refine eT 21 hHeld ?_;(try simp only[Act.put,sEa,sEb,sEc]);refine eT 22 hHeld ?_;(try simp only[Act.put,sEa,sEb,sEc]);refine eT 23 hHeld ?_;(try simp only[Act.put,sEa,sEb,sEc]);refine eT 24 hHeld ?_;(try simp only[Act.put,sEa,sEb,sEc]);refine eT 25 hHeld ?_;(try simp only[Act.put,sEa,sEb,sEc]);refine eT 26 hHeld ?_;(try simp only[Act.put,sEa,sEb,sEc]);refine eT 27 hHeld ?_;(try simp only[Act.put,sEa,sEb,sEc]);refine eT 28 hHeld ?_;(try simp only[Act.put,sEa,sEb,sEc]);refine eT 29 hHeld ?_;(try simp only[Act.put,sEa,sEb,sEc]);refine eT 30 hHeld ?_;(try simp only[Act.put,sEa,sEb,sEc]);refine eT 31 hHeld ?_;(try simp only[Act.put,sEa,sEb,sEc]);refine eT 32 hHeld ?_;(try simp only[Act.put,sEa,sEb,sEc]);refine eT 33 hHeld ?_;(try simp only[Act.put,sEa,sEb,sEc]);refine eT 34 hHeld ?_;(try simp only[Act.put,sEa,sEb,sEc]);refine eT 35 hHeld ?_;(try simp only[Act.put,sEa,sEb,sEc]);refine eT 36 hHeld ?_;(try simp only[Act.put,sEa,sEb,sEc]);refine eT 37 hHeld ?_;(try simp only[Act.put,sEa,sEb,sEc]);refine eT 38 hHeld ?_;(try simp only[Act.put,sEa,sEb,sEc]);refine eT 39 hHeld ?_;(try simp only[Act.put,sEa,sEb,sEc]);refine eT 40 hHeld ?_;(try simp only[Act.put,sEa,sEb,sEc]);refine eT 41 hHeld ?_;(try simp only[Act.put,sEa,sEb,sEc]);refine eT 42 hHeld ?_;(try simp only[Act.put,sEa,sEb,sEc]);refine eL (fun K hK=>?_);go_simp;refine hK.out _ _ ?_;clear hK K;(try simp only[Act.put,sEa,sEb,sEc])
         go_wp2
         go_roundg (im- (j+1))
         case measure=>have:=HJ.out;omega
         case rel=>exact⟨j+1,by have:=HJ.out;omega,by omega,by go_num,hid HB.out.drew⟩
        ·have hji: ¬(j:Int)<(im:Int):=by omega
         go_wp2
         go_ret
         exact⟨rfl,(HC.out _ HB.out).2⟩
end
end Go.Proofs.YtcdiljebkpikbaaGreat
