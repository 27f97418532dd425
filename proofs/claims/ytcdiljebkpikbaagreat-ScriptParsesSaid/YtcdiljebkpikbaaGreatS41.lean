/- Parts of the proof: Ew Scl. -/
import Derived.Laws.EntriesVeiled
import Derived.Test.YtcdiljebkpikbaaGreatS31
import Derived.Test.YtcdiljebkpikbaaGreatS32
import Derived.Test.YtcdiljebkpikbaaGreatS39
set_option linter.all false
set_option maxRecDepth 100000
set_option maxHeartbeats 64000000
namespace Go.Proofs.YtcdiljebkpikbaaGreat
section
open Go.RowKit Go.Lib
section
variable {W:World} {x:MdV}
def aio (x:MdV):Bool:=decide ((1:Int)≤x.ln∧(x.ln:Int)≤6)&&(decide ((1:Int)≤x.pn∧(x.pn:Int)≤4)&&(decide ((1:Int)≤x.dn∧(x.dn:Int)≤8)&&decide ((x.im:Int)≤16)))
theorem abr (x:MdV) (W:World):
  Calls Tryz.prog 106 #[.agg (mdC x).toArray] W fun r w'=>r= .returned (.bool (aio x))∧Below W.heap.size W w':=by
 have HB:=hid ((Below.refl _ W).alloc (Nat.le_refl _) (.cells (mdC x).toArray 29))
 have HW:=hid (fun (n a b:Int) (z:Bool) (h:z=decide (a≤n∧n≤b)) W=>(h▸qG n a b W:Calls Tryz.prog 109 #[.int .i64 n,.int .i64 a,.int .i64 b] W fun r w'=>r= .returned (.bool z)∧W=w'))
 unfold aio
 unfold mdC at HB⊢
 obtain⟨b1,h1⟩: ∃b,b=decide ((1:Int)≤x.ln∧(x.ln:Int)≤6):=⟨_,rfl⟩
 obtain⟨b2,h2⟩: ∃b,b=decide ((1:Int)≤x.pn∧(x.pn:Int)≤4):=⟨_,rfl⟩
 obtain⟨b3,h3⟩: ∃b,b=decide ((1:Int)≤x.dn∧(x.dn:Int)≤8):=⟨_,rfl⟩
 rw[←h1,←h2,←h3]
 have H1:=hid (HW.out _ _ _ _ h1)
 have H2:=hid (HW.out _ _ _ _ h2)
 have H3:=hid (HW.out _ _ _ _ h3)
 clear h1 h2 h3 HW
 cases b1
 all_goals cases b2
 all_goals cases b3
 all_goals
  go_enter Tryz.func106,Tryz.ntmps106
  go_wp2_with (first | ((with_reducible refine(H1.out _).mono ?_);rintro r w' ⟨rfl,rfl⟩) | ((with_reducible refine(H2.out _).mono ?_);rintro r w' ⟨rfl,rfl⟩) | ((with_reducible refine(H3.out _).mono ?_);rintro r w' ⟨rfl,rfl⟩))
  go_ret
  exact⟨rfl,HB.out⟩
theorem aAX {d:Nat} (h:jm d=true):dlB d=false:=by
 unfold dlB fgt
 rw[jC h]
 rfl
def lpR (n:Nat) (q:LpR):Bool:=decide ((0:Int)≤q.k∧q.k≤(n:Int) -1)&&decide ((q.n:Int)≤8)
def aaz (n:Nat) (y:Ini):Bool:= !jm y.t&&decide ((0:Int)≤y.dst∧y.dst≤(n:Int) -1)
theorem aag (h:qZ W x):yM x.m=((aio x&& !jm x.en)&&(x.dl.all dlB&&(x.ps.all (fun q=>xf q.l)&&(x.ls.all (lpR x.pn)&&x.is.all (aaz x.ln))))):=by
 have e1:X1 x.m=(aio x&& !jm x.en):=by
  unfold X1 aio MdV.m
  simp only[List.length_map,←Bool.decide_and]
  congr 1
  rw[←h.pn,←h.ln,←h.dn,←h.im]
  exact decide_eq_decide.2 (by omega)
 have e2:x.m.pr.all xf=x.ps.all (fun q=>xf q.l):=by unfold MdV.m;simp only[List.all_map];rfl
 have e3:x.m.lp.all (lpB x.m.pr.length)=x.ls.all (lpR x.pn):=by
  unfold MdV.m
  simp only[List.all_map,List.length_map]
  rw[Bool.eq_iff_iff,List.all_eq_true,List.all_eq_true]
  have hz: ∀q∈x.ls,((lpB x.ps.length∘fun q=>(q.k,q.l)) q=true↔lpR x.pn q=true):=fun q hq=>by
   unfold lpB lpR
   simp only[Function.comp,←Bool.decide_and,decide_eq_true_eq]
   rw[←(h.li q hq).1,←h.pn]
   omega
  exact⟨fun g q hq=>(hz q hq).1 (g q hq),fun g q hq=>(hz q hq).2 (g q hq)⟩
 have e4:x.m.ini.all (aRS x.m.lp.length)=x.is.all (aaz x.ln):=by
  unfold MdV.m
  simp only[List.length_map]
  rw[←h.ln]
  congr 1
  funext y
  unfold aRS aaz
  congr 1
  exact decide_eq_decide.2 (by omega)
 unfold yM
 rw[e1,e2,e3,e4]
 rfl
theorem abN (h:qZ W x) (hd:x.dn≤1000) (hp:x.pn≤1000) (hl:x.ln≤1000) (hi:x.im≤1000) (hq: ∀q∈x.ps,q.n≤1000):
  Calls Tryz.prog 60 #[.agg (mdC x).toArray] W fun r w'=>r= .returned (.int .i64 (if yM x.m=true then 0 else 15))∧Below W.heap.size W w':=by
 obtain⟨W1,hW1⟩: ∃W1,W1=W.alloc (.cells (mdC x).toArray 29):=⟨_,rfl⟩
 have hb1:Below W.heap.size W W1:=by rw[hW1];exact(Below.refl _ W).alloc (Nat.le_refl _) _
 have hB1:=MdB.new h
 rw[←hW1]at hB1
 obtain⟨e0,he0⟩: ∃e:Int,e=if yM x.m=true then 0 else 15:=⟨_,rfl⟩
 rw[←he0]
 rw[aag h]at he0
 have HE:=hid he0
 obtain⟨dp,hdp⟩: ∃p,p=x.dp:=⟨_,rfl⟩
 obtain⟨pp,hpp⟩: ∃p,p=x.pp:=⟨_,rfl⟩
 obtain⟨lp,hlp⟩: ∃p,p=x.lp:=⟨_,rfl⟩
 obtain⟨ip,hip⟩: ∃p,p=x.ip:=⟨_,rfl⟩
 have HC:Hid (∀W',Below W1.heap.size W1 W'→(W'.cell? ⟨W.heap.size,0,none⟩=some (.int .i64 x.seed)∧W'.cell? ⟨W.heap.size,1,none⟩=some (.float .f64 x.en)∧W'.cell? ⟨W.heap.size,2,none⟩=some (.slice dp x.dn x.dc)∧W'.cell? ⟨W.heap.size,3,none⟩=some (.slice pp x.pn x.pc)∧W'.cell? ⟨W.heap.size,4,none⟩=some (.slice lp x.ln x.lc)∧W'.cell? ⟨W.heap.size,5,none⟩=some (.slice ip x.im x.ic))∧qZ W' x∧Below W.heap.size W W'):=hid fun W' hW=>by
  have:=hB1.below hW
  rw[hdp,hpp,hlp,hip]
  exact⟨this.c,this.2,hb1.trans (hW.mono hb1.size)⟩
 have HCN:=hid (fun W=>abr x W)
 have HNN:=hid (fun b W=>ag2 b W)
 have HH:=hid (⟨h,hq⟩:_∧_)
 have HW1:=hid hW1
 have HD:=hid hdp
 have HP:=hid hpp
 have HL:=hid hlp
 have HI:=hid hip
 unfold mdC at HCN HW1⊢
 rw[←hdp,←hpp,←hlp,←hip]at HCN HW1⊢
 clear h hq hW1 hb1 hB1 he0 hdp hpp hlp hip
 obtain⟨b0,hb0⟩: ∃b,b=aio x:=⟨_,rfl⟩
 obtain⟨n0,hn0⟩: ∃b,b=jm x.en:=⟨_,rfl⟩
 rw[←hb0]at HCN
 have HN0:Hid (∀W',Calls Tryz.prog 107 #[.float .f64 x.en] W' fun e w'=>e= .returned (.bool n0)∧W'=w'):=hid fun W'=>by rw[hn0];exact HNN.out _ W'
 rw[←hb0,←hn0]at HE
 clear hb0 hn0
 go_enter Tryz.func60,Tryz.ntmps60
 go_upto_region 1 with fail
 rw[←HW1.out]
 go_cut [3]from 12 to 19 (fun s3 wc=>s3= .bool (b0&& !n0)∧Hid (Below W1.heap.size W1 wc))
 case first=>
  obtain⟨⟨c0,c1,c2,c3,c4,c5⟩,_,_⟩:=HC.out W1 (Below.refl _ _)
  go_wp2_with fail
  (with_reducible refine(HCN.out _).mono ?_)
  rintro r w1 ⟨rfl,hbw⟩
  clear c0 c1 c2 c3 c4 c5
  obtain⟨⟨c0,c1,c2,c3,c4,c5⟩,_,_⟩:=HC.out w1 hbw
  have HBW:=hid hbw
  clear hbw
  cases b0
  all_goals
   go_wp2_with ((with_reducible refine(HN0.out _).mono ?_);rintro r w' ⟨rfl,rfl⟩)
   go_meet
   case rel=>exact⟨rfl,HBW⟩
 case rest =>
  obtain⟨rfl,HBW⟩:=hcut
  obtain⟨a0,ha0⟩: ∃a,a=(b0&& !n0):=⟨_,rfl⟩
  rw[←ha0]at HE⊢
  clear ha0 HCN HN0
  obtain⟨⟨c0,c1,c2,c3,c4,c5⟩,_,_⟩:=HC.out wc HBW.out
  go_wp2
  go_loopg [3,23] x.dn (fun gg s3 s23 wr=> ∃(j:Nat) (b:Bool),j≤x.dn∧x.dn-j≤gg∧s3= .bool b∧s23= .int .i64 j∧Hid (b=(a0&&(x.dl.take j).all dlB))∧wc=wr)
  case atStart=>exact⟨0,a0,by omega,by omega,rfl,rfl,hid (by simp),rfl⟩
  case round=>
   obtain⟨j,b,hj,hgg,rfl,rfl,HJ,hwr⟩:=hrel
   subst hwr
   by_cases hjn:j<x.dn
   ·obtain⟨d,hd'⟩: ∃d,x.dl[j]? =some d:=⟨_,List.getElem?_eq_getElem (by rw[←HH.out.1.dn];exact hjn)⟩
    obtain⟨g,o,e1,m0⟩:=(HC.out wc HBW.out).2.1.dly hd'
    obtain rfl:dp=some ⟨g,o,none⟩:=HD.out.trans e1
    have hji:(j:Int)<(x.dn:Int):=by omega
    have hjz:(x.dn:Int)≤1000:=by omega
    have HJN:=hid hjn
    have HX:Hid ((x.dl.take (j+1)).all dlB=((x.dl.take j).all dlB&&dlB d)):=hid (zD _ hd')
    clear hd' e1
    cases b with
    |false=>
     go_wp2
     go_roundg (x.dn- (j+1))
     case measure=>omega
     case rel=>exact⟨j+1,false,by have:=HJN.out;omega,by omega,rfl,by go_num,hid (by rw[HX.out,←Bool.and_assoc,←HJ.out];rfl),rfl⟩
    | true=>
     obtain⟨nd,hnd⟩: ∃b,b=jm d:=⟨_,rfl⟩
     have HNd:Hid (∀W',Calls Tryz.prog 107 #[.float .f64 d] W' fun e w'=>e= .returned (.bool nd)∧W'=w'):=hid fun W'=>by rw[hnd];exact HNN.out _ W'
     have HND:=hid hnd
     clear hnd
     cases nd
     ·go_wp2_with ((with_reducible refine(HNd.out _).mono ?_);rintro r w' ⟨rfl,rfl⟩)
      go_roundg (x.dn- (j+1))
      case measure=>omega
      case rel=>exact⟨j+1,dlB d,by have:=HJN.out;omega,by omega,rfl,by go_num,hid (by rw[HX.out,←Bool.and_assoc,←HJ.out];rfl),rfl⟩
     ·go_wp2_with ((with_reducible refine(HNd.out _).mono ?_);rintro r w' ⟨rfl,rfl⟩)
      go_roundg (x.dn- (j+1))
      case measure=>omega
      case rel=>exact⟨j+1,false,by have:=HJN.out;omega,by omega,rfl,by go_num,hid (by rw[HX.out,aAX HND.out.symm,Bool.and_false,Bool.and_false]),rfl⟩
   ·have hji: ¬(j:Int)<(x.dn:Int):=by omega
    have HA1:Hid (b=(a0&&x.dl.all dlB)):=hid (by rw[HJ.out,List.take_of_length_le (by rw[←HH.out.1.dn];omega)])
    clear HJ
    go_wp2
    go_loopg [3,41] x.pn (fun gg s3 s41 wr=> ∃(j:Nat) (b':Bool),j≤x.pn∧x.pn-j≤gg∧s3= .bool b'∧s41= .int .i64 j∧Hid (b'=(b&&(x.ps.take j).all fun q=>xf q.l))∧Hid (Below W1.heap.size W1 wr))
    case atStart=>exact⟨0,b,by omega,by omega,rfl,rfl,hid (by simp),HBW⟩
    case round=>
     obtain⟨j,b',hj,hgg,rfl,rfl,HJ,HBr⟩:=hrel
     by_cases hjn:j<x.pn
     ·obtain⟨q,hq'⟩: ∃q,x.ps[j]? =some q:=⟨_,List.getElem?_eq_getElem (by rw[←HH.out.1.pn];exact hjn)⟩
      obtain⟨⟨_,_,_,k3,_,_⟩,hmr,_⟩:=HC.out wr HBr.out
      obtain⟨g,o,e1,m0⟩:=hmr.prg hq'
      obtain rfl:pp=some ⟨g,o,none⟩:=HP.out.trans e1
      have hqm:=List.mem_of_getElem? hq'
      obtain⟨go,hgo⟩: ∃b,b=xf q.l:=⟨_,rfl⟩
      have HPR:=hid (Kr (hmr.pi q hqm).2 (hmr.pi q hqm).1 (HH.out.2 q hqm))
      rw[←hgo]at HPR
      have hji:(j:Int)<(x.pn:Int):=by omega
      have hjz:(x.pn:Int)≤1000:=by omega
      have HJN:=hid hjn
      have HX:Hid (((x.ps.take (j+1)).all fun q=>xf q.l)=(((x.ps.take j).all fun q=>xf q.l)&&go)):=hid (by rw[hgo];exact zD (fun q:Prg=>xf q.l) hq')
      clear hq' e1 hqm hgo hmr
      cases b' with
      |false=>
       go_wp2
       go_roundg (x.pn- (j+1))
       case measure=>omega
       case rel=>exact⟨j+1,false,by have:=HJN.out;omega,by omega,rfl,by go_num,hid (by rw[HX.out,←Bool.and_assoc,←HJ.out];rfl),HBr⟩
      |true=>
       go_wp2_with fail
       (with_reducible refine HPR.out.mono ?_)
       rintro r w2 ⟨rfl,hb2⟩
       have HB2:=hid (HBr.out.trans (hb2.mono HBr.out.size))
       clear hb2
       go_wp2
       go_roundg (x.pn- (j+1))
       case measure=>omega
       case rel=>exact⟨j+1,go,by have:=HJN.out;omega,by omega,rfl,by go_num,hid (by rw[HX.out,←Bool.and_assoc,←HJ.out];rfl),HB2⟩
     ·have hji: ¬(j:Int)<(x.pn:Int):=by omega
      have HA2:Hid (b'=(b&&x.ps.all fun q=>xf q.l)):=hid (by rw[HJ.out,List.take_of_length_le (by rw[←HH.out.1.pn];omega)])
      obtain⟨⟨k0,k1,k2,k3,k4,k5⟩,_,_⟩:=HC.out wr HBr.out
      clear HJ c0 c1 c2 c3 c4 c5
      obtain⟨w2,rfl⟩: ∃w2,w2=wr:=⟨_,rfl⟩
      have w9:IntKind.i64.wrap ((x.pn:Int) -1)=(x.pn:Int) -1:=by rw[IntKind.wrap_i64];omega
      have w8:IntKind.i64.wrap ((x.ln:Int) -1)=(x.ln:Int) -1:=by rw[IntKind.wrap_i64];omega
      go_wp2
      go_loopg [3,54] x.ln (fun gg s3 s54 wr=> ∃(j:Nat) (c':Bool),j≤x.ln∧x.ln-j≤gg∧s3= .bool c'∧s54= .int .i64 j∧Hid (c'=(b'&&(x.ls.take j).all (lpR x.pn)))∧Hid (Below W1.heap.size W1 wr))
      case atStart=>exact⟨0,b',by omega,by omega,rfl,rfl,hid (by simp),HBr⟩
      case round=>
       obtain⟨j,c',hj,hgg,rfl,rfl,HJ,HBr⟩:=hrel
       by_cases hjn:j<x.ln
       ·obtain⟨q,hq'⟩: ∃q,x.ls[j]? =some q:=⟨_,List.getElem?_eq_getElem (by rw[←HH.out.1.ln];exact hjn)⟩
        obtain⟨g,o,e1,m0,m1⟩:=(HC.out wr HBr.out).2.1.lpr hq'
        obtain rfl:lp=some ⟨g,o,none⟩:=HL.out.trans e1
        obtain⟨wo,hwo⟩: ∃wo,wo=wr.alloc (.cells #[.int .i64 q.k,.slice q.p q.n q.c] 88):=⟨_,rfl⟩
        have hbo:Below W1.heap.size W1 wo:=by rw[hwo];exact HBr.out.alloc HBr.out.size _
        have hBo:Blk wo wr.heap.size 88 #[.int .i64 q.k,.slice q.p q.n q.c]:=by rw[hwo];exact Blk.new wr _ _
        obtain⟨z,hz⟩: ∃z,z=decide ((0:Int)≤q.k∧q.k≤(x.pn:Int) -1):=⟨_,rfl⟩
        have HWI:Hid (∀W',Calls Tryz.prog 109 #[.int .i64 q.k,.int .i64 0,.int .i64 ((x.pn:Int) -1)] W' fun r w'=>r= .returned (.bool z)∧W'=w'):=hid fun W'=>by rw[hz];exact qG _ _ _ W'
        have hji:(j:Int)<(x.ln:Int):=by omega
        have hjz:(x.ln:Int)≤1000:=by omega
        have HJN:=hid hjn
        have HX:Hid ((x.ls.take (j+1)).all (lpR x.pn)=((x.ls.take j).all (lpR x.pn)&&(z&&decide ((q.n:Int)≤8)))):=hid (by rw[hz];exact zD _ hq')
        have HBO:=hid (⟨hwo,hbo,hBo⟩:_∧_∧_)
        clear hq' e1 hz hwo hbo hBo
        cases c' with
        |false=>
         go_wp2
         go_roundg (x.ln- (j+1))
         case measure=>omega
         case rel=>exact⟨j+1,false,by have:=HJN.out;omega,by omega,rfl,by go_num,hid (by rw[HX.out,←Bool.and_assoc,←HJ.out];rfl),hid (by rw[←HBO.out.1];exact HBO.out.2.1)⟩
        | true=>
         obtain⟨⟨k0,k1,k2,k3,k4,k5⟩,_,_⟩:=HC.out wo HBO.out.2.1
         have q0:wo.cell? ⟨wr.heap.size,0,none⟩=some (.int .i64 q.k):=HBO.out.2.2.cell 0
         have q1:wo.cell? ⟨wr.heap.size,1,none⟩=some (.slice q.p q.n q.c):=HBO.out.2.2.cell 1
         go_upto_region 15 with fail
         rw[←HBO.out.1]
         cases z
         all_goals
          go_wp2_with ((with_reducible refine(HWI.out _).mono ?_);rintro r w' ⟨rfl,rfl⟩)
          go_roundg (x.ln- (j+1))
          case measure=>omega
          case rel=>exact⟨j+1,_,by have:=HJN.out;omega,by omega,rfl,by go_num,hid (by rw[HX.out,←Bool.and_assoc,←HJ.out];simp),hid HBO.out.2.1⟩
       ·have hji: ¬(j:Int)<(x.ln:Int):=by omega
        have HA3:Hid (c'=(b'&&x.ls.all (lpR x.pn))):=hid (by rw[HJ.out,List.take_of_length_le (by rw[←HH.out.1.ln];omega)])
        obtain⟨⟨r0,r1,r2,r3,r4,r5⟩,_,_⟩:=HC.out wr HBr.out
        clear HJ k0 k1 k2 k3 k4 k5
        obtain⟨w3,rfl⟩: ∃w3,w3=wr:=⟨_,rfl⟩
        go_wp2
        go_loopg [3,78] x.im (fun gg s3 s78 wr=> ∃(j:Nat) (d':Bool),j≤x.im∧x.im-j≤gg∧s3= .bool d'∧s78= .int .i64 j∧Hid (d'=(c'&&(x.is.take j).all (aaz x.ln)))∧Hid (Below W1.heap.size W1 wr))
        case atStart=>exact⟨0,c',by omega,by omega,rfl,rfl,hid (by simp),HBr⟩
        case round=>
         obtain⟨j,d',hj,hgg,rfl,rfl,HJ,HBr⟩:=hrel
         by_cases hjn:j<x.im
         ·obtain⟨y,hy'⟩: ∃q,x.is[j]? =some q:=⟨_,List.getElem?_eq_getElem (by rw[←HH.out.1.im];exact hjn)⟩
          obtain⟨g,o,e1,m0,m1,m2⟩:=(HC.out wr HBr.out).2.1.ini hy'
          obtain rfl:ip=some ⟨g,o,none⟩:=HI.out.trans e1
          obtain⟨wo,hwo⟩: ∃wo,wo=wr.alloc (.cells #[.float .f64 y.t,.int .i64 y.dst,.int .i64 y.pay] 90):=⟨_,rfl⟩
          have hbo:Below W1.heap.size W1 wo:=by rw[hwo];exact HBr.out.alloc HBr.out.size _
          have hBo:Blk wo wr.heap.size 90 #[.float .f64 y.t,.int .i64 y.dst,.int .i64 y.pay]:=by rw[hwo];exact Blk.new wr _ _
          obtain⟨z,hz⟩: ∃z,z=decide ((0:Int)≤y.dst∧y.dst≤(x.ln:Int) -1):=⟨_,rfl⟩
          obtain⟨nd,hnd⟩: ∃z,z=jm y.t:=⟨_,rfl⟩
          have HWI:Hid (∀W',Calls Tryz.prog 109 #[.int .i64 y.dst,.int .i64 0,.int .i64 ((x.ln:Int) -1)] W' fun r w'=>r= .returned (.bool z)∧W'=w'):=hid fun W'=>by rw[hz];exact qG _ _ _ W'
          have HNd:Hid (∀W',Calls Tryz.prog 107 #[.float .f64 y.t] W' fun e w'=>e= .returned (.bool nd)∧W'=w'):=hid fun W'=>by rw[hnd];exact HNN.out _ W'
          have hji:(j:Int)<(x.im:Int):=by omega
          have hjz:(x.im:Int)≤1000:=by omega
          have HJN:=hid hjn
          have HX:Hid ((x.is.take (j+1)).all (aaz x.ln)=((x.is.take j).all (aaz x.ln)&&(!nd&&z))):=hid (by rw[hz,hnd];exact zD _ hy')
          have HBO:=hid (⟨hwo,hbo,hBo⟩:_∧_∧_)
          clear hy' e1 hz hnd hwo hbo hBo
          cases d' with
          |false=>
           go_wp2
           go_roundg (x.im- (j+1))
           case measure=>omega
           case rel=>exact⟨j+1,false,by have:=HJN.out;omega,by omega,rfl,by go_num,hid (by rw[HX.out,←Bool.and_assoc,←HJ.out];rfl),hid (by rw[←HBO.out.1];exact HBO.out.2.1)⟩
          | true=>
           obtain⟨⟨k0,k1,k2,k3,k4,k5⟩,_,_⟩:=HC.out wo HBO.out.2.1
           have q0:wo.cell? ⟨wr.heap.size,0,none⟩=some (.float .f64 y.t):=HBO.out.2.2.cell 0
           have q1:wo.cell? ⟨wr.heap.size,1,none⟩=some (.int .i64 y.dst):=HBO.out.2.2.cell 1
           go_upto_region 20 with fail
           rw[←HBO.out.1]
           cases nd
           all_goals
            go_wp2_with (first | ((with_reducible refine(HNd.out _).mono ?_);rintro r w' ⟨rfl,rfl⟩) | ((with_reducible refine(HWI.out _).mono ?_);rintro r w' ⟨rfl,rfl⟩))
            go_roundg (x.im- (j+1))
            case measure=>omega
            case rel=>exact⟨j+1,_,by have:=HJN.out;omega,by omega,rfl,by go_num,hid (by rw[HX.out,←Bool.and_assoc,←HJ.out];simp),hid HBO.out.2.1⟩
         ·have hji: ¬(j:Int)<(x.im:Int):=by omega
          have HA4:Hid (e0=if d'=true then 0 else 15):=hid (by
           rw[HE.out,HJ.out,List.take_of_length_le (by rw[←HH.out.1.im];omega),HA3.out,HA2.out,HA1.out]
           simp only[Bool.and_assoc])
          have HF:=hid (HC.out wr HBr.out).2.2
          clear HJ HE HA1 HA2 HA3
          cases d'
          all_goals
           go_wp2
           go_ret
           rw[HA4.out]
           exact⟨rfl,HF.out⟩
end
end
section
open Go.RowKit Go.Lib
theorem zs {W:World} {B n k g i:Nat} {T U:TypeId} {v u:Value} {xs:List Value} {cs:Array Value} (h:W.ownsRow B T k v n xs) (hb:Blk W g U cs) (ht:T≠U):(W.setCell ⟨g,i,none⟩ u).ownsRow B T k v n xs:=ownsRow_setCell_other h (yo h hb ht) u
structure GtI (W4:World) (g mb:Nat) (s:Bs) (st:Option Nat) (sd:Int) (en:Nat) (dv:Value) (dl:List Nat) (pv:Value) (ps:List Prg) (lv:Value) (ls:List LpR) (iv:Value) (is:List Ini) (w:World):Prop where
 rd:RdM w g s st
 blk:Blk w mb 29 #[.int .i64 sd,.float .f64 en,dv,pv,lv,iv]
 d:w.ownsRow W4.heap.size 23 1 dv dl.length (yv flC dl)
 p:w.ownsRow W4.heap.size 85 1 pv ps.length (yv prC ps)
 pi: ∀q∈ps,atP W4.heap.size w q
 l:w.ownsRow W4.heap.size 88 2 lv ls.length (yv lpC ls)
 li: ∀q∈ls,atL W4.heap.size w q
 i:w.ownsRow W4.heap.size 90 3 iv is.length (yv aay is)
 kp:Kp [g] W4 w
 lo:W4.heap.size≤mb
section
variable {W4 w w':World} {g mb:Nat} {s:Bs} {st st':Option Nat} {sd:Int} {en:Nat} {dv:Value} {dl:List Nat} {pv:Value} {ps:List Prg} {lv:Value} {ls:List LpR} {iv:Value} {is:List Ini}
theorem GtI.ne (h:GtI W4 g mb s st sd en dv dl pv ps lv ls iv is w):mb≠g:=by
 obtain⟨a,e,hb,_⟩:=h.rd
 exact Blk.ne_ h.blk hb (by decide)
theorem GtI.step (h:GtI W4 g mb s st sd en dv dl pv ps lv ls iv is w) (hk:Kp [g] w w') (hr:RdM w' g s st'):GtI W4 g mb s st' sd en dv dl pv ps lv ls iv is w':=by
 have hn:=h.ne
 obtain⟨a,e,hb,_⟩:=h.rd
 exact⟨hr,h.blk.kp hk (by simpa using hn),qV h.d hb (by decide) hk,qV h.p hb (by decide) hk,fun q hq=>acr.keep (h.pi q hq) hb hk,qV h.l hb (by decide) hk,fun q hq=>acq.keep (h.li q hq) hb hk,qV h.i hb (by decide) hk,h.kp.trans hk,h.lo⟩
theorem KM {B g i:Nat} {u:Value} {cs:Array Value} {q:Prg} (h:atP B w q) (hb:Blk w g 29 cs):atP B (w.setCell ⟨g,i,none⟩ u) q:=⟨h.1,zs h.2 hb (by decide)⟩
theorem KK {B g i:Nat} {u:Value} {cs:Array Value} {q:LpR} (h:atL B w q) (hb:Blk w g 29 cs):atL B (w.setCell ⟨g,i,none⟩ u) q:=⟨h.1,zs h.2 hb (by decide)⟩
theorem GtI.rdsc (h:GtI W4 g mb s st sd en dv dl pv ps lv ls iv is w) (i:Nat) (u:Value):RdM (w.setCell ⟨mb,i,none⟩ u) g s st:=by
 have hn:=h.ne
 obtain⟨a,e,hb,hr⟩:=h.rd
 exact⟨a,e,hb.far (Ne.symm hn) _,hr⟩
theorem GtI.setD (h:GtI W4 g mb s st sd en dv dl pv ps lv ls iv is w) {v:Value} {xs:List Nat} (ho:w.ownsRow W4.heap.size 23 1 v xs.length (yv flC xs)):GtI W4 g mb s st sd en v xs pv ps lv ls iv is (w.setCell ⟨mb,2,none⟩ v):=
 ⟨h.rdsc _ _,h.blk.set_ 2 v,zs ho h.blk (by decide),zs h.p h.blk (by decide),fun q hq=>KM (h.pi q hq) h.blk,zs h.l h.blk (by decide),fun q hq=>KK (h.li q hq) h.blk,zs h.i h.blk (by decide),h.kp.setCell (.inr h.lo) _,h.lo⟩
theorem GtI.setP (h:GtI W4 g mb s st sd en dv dl pv ps lv ls iv is w) {v:Value} {xs:List Prg} (ho:w.ownsRow W4.heap.size 85 1 v xs.length (yv prC xs)) (ha: ∀q∈xs,atP W4.heap.size w q):GtI W4 g mb s st sd en dv dl v xs lv ls iv is (w.setCell ⟨mb,3,none⟩ v):=
 ⟨h.rdsc _ _,h.blk.set_ 3 v,zs h.d h.blk (by decide),zs ho h.blk (by decide),fun q hq=>KM (ha q hq) h.blk,zs h.l h.blk (by decide),fun q hq=>KK (h.li q hq) h.blk,zs h.i h.blk (by decide),h.kp.setCell (.inr h.lo) _,h.lo⟩
theorem GtI.setL (h:GtI W4 g mb s st sd en dv dl pv ps lv ls iv is w) {v:Value} {xs:List LpR} (ho:w.ownsRow W4.heap.size 88 2 v xs.length (yv lpC xs)) (ha: ∀q∈xs,atL W4.heap.size w q):GtI W4 g mb s st sd en dv dl pv ps v xs iv is (w.setCell ⟨mb,4,none⟩ v):=
 ⟨h.rdsc _ _,h.blk.set_ 4 v,zs h.d h.blk (by decide),zs h.p h.blk (by decide),fun q hq=>KM (h.pi q hq) h.blk,zs ho h.blk (by decide),fun q hq=>KK (ha q hq) h.blk,zs h.i h.blk (by decide),h.kp.setCell (.inr h.lo) _,h.lo⟩
theorem GtI.setI (h:GtI W4 g mb s st sd en dv dl pv ps lv ls iv is w) {v:Value} {xs:List Ini} (ho:w.ownsRow W4.heap.size 90 3 v xs.length (yv aay xs)):GtI W4 g mb s st sd en dv dl pv ps lv ls v xs (w.setCell ⟨mb,5,none⟩ v):=
 ⟨h.rdsc _ _,h.blk.set_ 5 v,zs h.d h.blk (by decide),zs h.p h.blk (by decide),fun q hq=>KM (h.pi q hq) h.blk,zs h.l h.blk (by decide),fun q hq=>KK (h.li q hq) h.blk,zs ho h.blk (by decide),h.kp.setCell (.inr h.lo) _,h.lo⟩
theorem GtI.md {dp pp lp ip:Option Addr} {dc pc lc ic:Nat} (h:GtI W4 g mb s st sd en (.slice dp dl.length dc) dl (.slice pp ps.length pc) ps (.slice lp ls.length lc) ls (.slice ip is.length ic) is w):qZ w ⟨sd,en,dp,dl.length,dc,dl,pp,ps.length,pc,ps,lp,ls.length,lc,ls,ip,is.length,ic,is⟩:=
 ⟨.of_own Ya h.d rfl,rfl,.of_own Yu h.p rfl,rfl,fun q hq=>⟨(h.pi q hq).1,.of_own Ye (h.pi q hq).2 (h.pi q hq).1⟩,.of_own Yg h.l rfl,rfl,fun q hq=>⟨(h.li q hq).1,.of_own YG (h.li q hq).2 (h.li q hq).1⟩,.of_own vL h.i rfl,rfl⟩
theorem GtI.md2 {dp pp lp ip:Option Addr} {dn dc pn pc ln lc im ic r0:Nat} {cs:Array Value} (h:GtI W4 g mb s st sd en (.slice dp dn dc) dl (.slice pp pn pc) ps (.slice lp ln lc) ls (.slice ip im ic) is w) (e1:dn=dl.length) (e2:pn=ps.length) (e3:ln=ls.length) (e4:im=is.length) (hb:Blk w r0 29 cs) (e: ∀b,W4.heap.size≤b→b<w.heap.size→b≠r0→w'.heap[b]? =w.heap[b]?):qZ w' ⟨sd,en,dp,dn,dc,dl,pp,pn,pc,ps,lp,ln,lc,ls,ip,im,ic,is⟩:=by
 subst e1 e2 e3 e4
 have k: ∀ {T n s xs a},w.ownsRow W4.heap.size T s a n xs→T≠29→w'.ownsRow W4.heap.size T s a n xs:=fun ho ht=>xN ho fun b hv=>e b (ho.lt b hv).1 (ho.lt b hv).2 fun e'=>yo ho hb ht (e'▸hv)
 exact⟨.of_own Ya (k h.d (by decide)) rfl,rfl,.of_own Yu (k h.p (by decide)) rfl,rfl,fun q hq=>⟨(h.pi q hq).1,.of_own Ye (k (h.pi q hq).2 (by decide)) (h.pi q hq).1⟩,.of_own Yg (k h.l (by decide)) rfl,rfl,fun q hq=>⟨(h.li q hq).1,.of_own YG (k (h.li q hq).2 (by decide)) (h.li q hq).1⟩,.of_own vL (k h.i (by decide)) rfl,rfl⟩
theorem xA {W w:World} {g r0 i:Nat} {l:List Value} (h:Below W.heap.size W W4) (hk:Kp [g] W4 w) (hg:W.heap.size≤g) (hr:W.heap.size≤r0):Below W.heap.size W (za w r0 i l):=
 h.trans ((zU (O:=[g,r0]) (.inl (by simp)) l w i (hk.mono fun x hx=> .inl (by simp at hx;simp[hx]))).to_below h.size fun x hx=>by
  simp at hx
  rcases hx with rfl|rfl
  ·exact hg
  ·exact hr)
end
theorem aBP {α:Type} (one:Rd α) (n:Nat): ∀s st,(rdN one n s st).1.length≤n:=by
 induction n with
 |zero=>intro s st;simp[rdN]
 |succ n ih=>
  intro s st
  cases st with
  |none=>simp[rdN]
  |some a=>rw[Qu];simp only[List.length_cons];have:=ih s (one s (some a)).2;omega
theorem ahH {α:Type} (one:Rd α):Rok (rdL one) fun l=>l.length≤48:=by
 intro s st
 unfold rdL
 have h:=aBP one (rdC s st).1.toNat s (rdC s st).2
 unfold rdC at h⊢
 split
 ·rw[Zq];simp
 ·next a e=>
  rw[e]at h
  simp only[]at h
  by_cases h2:0≤(rdI s st).1∧(rdI s st).1≤48
  ·rw[if_pos h2]at h⊢;omega
  ·rw[if_neg h2,Zq];simp
def abe (o:Option Mdl) (m:Mdl) (e:Int):Prop:=match o with
 |some x=>e=0∧m=x
 |none=>e≠0
def MdF (B:Nat) (w:World) (y:MdV):Prop:= ∀w',(∀b,B≤b→b<w.heap.size→w'.heap[b]? =w.heap[b]?)→qZ w' y
theorem MdF.at_ {B:Nat} {w:World} {y:MdV} (h:MdF B w y):qZ w y:=h w fun _ _ _=>rfl
def aSj (W:World) (s:Bs) (r:Ending) (w':World):Prop:= ∃(y:MdV) (e:Int),r= .returned (.tuple #[.agg (mdC y).toArray,.int .i64 e])∧MdF W.heap.size w' y∧Below W.heap.size W w'∧abe (jE s) y.m e
theorem six {w:World} {g:Nat} {T:TypeId} {a b c d e f:Value} (h:Blk w g T #[a,b,c,d,e,f]):(w.cell? ⟨g,0,none⟩=some a∧w.cell? ⟨g,1,none⟩=some b∧w.cell? ⟨g,2,none⟩=some c∧w.cell? ⟨g,3,none⟩=some d∧w.cell? ⟨g,4,none⟩=some e∧w.cell? ⟨g,5,none⟩=some f)∧(w.frozen? ⟨g,0,none⟩=false∧w.frozen? ⟨g,1,none⟩=false∧w.frozen? ⟨g,2,none⟩=false∧w.frozen? ⟨g,3,none⟩=false∧w.frozen? ⟨g,4,none⟩=false∧w.frozen? ⟨g,5,none⟩=false)∧g<w.heap.size:=
 ⟨⟨h.cell 0,h.cell 1,h.cell 2,h.cell 3,h.cell 4,h.cell 5⟩,⟨h.frozen 0,h.frozen 1,h.frozen 2,h.frozen 3,h.frozen 4,h.frozen 5⟩,h.lt⟩
theorem GtI.new {W4 w:World} {g mb:Nat} {s:Bs} {st:Option Nat} (sd:Int) (en:Nat) (h:RdM w g s st) (hb:Blk w mb 29 #[.int .i64 0,.float .f64 0,.slice none 0 0,.slice none 0 0,.slice none 0 0,.slice none 0 0]) (hk:Kp [g] W4 w) (lo:W4.heap.size≤mb):
  GtI W4 g mb s st sd en (.slice none 0 0) [] (.slice none 0 0) [] (.slice none 0 0) [] (.slice none 0 0) [] (za w mb 0 [.int .i64 sd,.float .f64 en,.slice none 0 0,.slice none 0 0,.slice none 0 0,.slice none 0 0]):=by
 have hn:g≠mb:=by
  obtain⟨a,e,h1,_⟩:=h
  exact Blk.ne_ h1 hb (by decide)
 exact⟨Qr h hn,(((((hb.set_ 0 _).set_ 1 _).set_ 2 _).set_ 3 _).set_ 4 _).set_ 5 _,yO _ _ _ _,yO _ _ _ _,by simp,yO _ _ _ _,by simp,yO _ _ _ _,zU (.inr lo) _ _ _ hk,lo⟩
theorem ai4 {s:Bs} (hs:s.length≤1000000) (W:World):Calls Tryz.prog 48 #[.string (S s)] W (aSj W s):=by
 obtain⟨r0,hr0⟩: ∃n,n=W.heap.size:=⟨_,rfl⟩
 obtain⟨g,hg⟩: ∃n,n=W.heap.size+1:=⟨_,rfl⟩
 obtain⟨rv,hrv⟩: ∃n,n=W.heap.size+1+1:=⟨_,rfl⟩
 obtain⟨fv,hfv⟩: ∃n,n=W.heap.size+1+1+1:=⟨_,rfl⟩
 obtain⟨W4,hW4⟩: ∃W4,W4=(((W.alloc (.cells #[.int .i64 0,.float .f64 0,.slice none 0 0,.slice none 0 0,.slice none 0 0,.slice none 0 0] 29)).alloc (.cells #[.string (S s),.int .i64 0,.int .i64 0] 154)).alloc (.cells #[.pointer (some ⟨g,0,none⟩)] 152)).alloc (.cells #[.func (.func 88) #[] #[.pointer (some ⟨rv,0,none⟩)]] 156):=⟨_,rfl⟩
 have hb4:Below W.heap.size W W4:=by rw[hW4];exact((((Below.refl _ W).alloc (Nat.le_refl _) _).alloc (by simp) _).alloc (by simp;omega) _).alloc (by simp;omega) _
 have hs4:W4.heap.size=W.heap.size+4:=by rw[hW4];simp
 have h0:Blk W4 r0 29 #[.int .i64 0,.float .f64 0,.slice none 0 0,.slice none 0 0,.slice none 0 0,.slice none 0 0]:=by rw[hW4,hr0];exact(((Blk.new W _ _).alloc _).alloc _).alloc _
 have h1:Blk W4 g 154 #[.string (S s),.int .i64 0,.int .i64 0]:=by
  rw[hW4,hg]
  have:=Blk.new (W.alloc (.cells #[.int .i64 0,.float .f64 0,.slice none 0 0,.slice none 0 0,.slice none 0 0,.slice none 0 0] 29)) 154 #[.string (S s),.int .i64 0,.int .i64 0]
  rw[World.size_alloc]at this
  exact(this.alloc _).alloc _
 have h2:Blk W4 rv 152 #[.pointer (some ⟨g,0,none⟩)]:=by
  rw[hW4,hrv]
  have:=Blk.new ((W.alloc (.cells #[.int .i64 0,.float .f64 0,.slice none 0 0,.slice none 0 0,.slice none 0 0,.slice none 0 0] 29)).alloc (.cells #[.string (S s),.int .i64 0,.int .i64 0] 154)) 152 #[.pointer (some ⟨g,0,none⟩)]
  rw[World.size_alloc,World.size_alloc]at this
  exact this.alloc _
 have h3:Blk W4 fv 156 #[.func (.func 88) #[] #[.pointer (some ⟨rv,0,none⟩)]]:=by
  rw[hW4,hfv]
  have:=Blk.new (((W.alloc (.cells #[.int .i64 0,.float .f64 0,.slice none 0 0,.slice none 0 0,.slice none 0 0,.slice none 0 0] 29)).alloc (.cells #[.string (S s),.int .i64 0,.int .i64 0] 154)).alloc (.cells #[.pointer (some ⟨g,0,none⟩)] 152)) 156 #[.func (.func 88) #[] #[.pointer (some ⟨rv,0,none⟩)]]
  rw[World.size_alloc,World.size_alloc,World.size_alloc]at this
  exact this
 have HV:Hid (∀W',Kp [g] W4 W'→W'.cell? ⟨rv,0,none⟩=some (.pointer (some ⟨g,0,none⟩))):=hid fun W' hk=>(h2.kp hk (by simp;omega)).cell 0
 have HR1:Hid (RdM W4.drew g s (some 0)∧Kp [g] W4 W4.drew):=hid ⟨⟨0,0,h1.drew,rfl,rfl,Nat.zero_le _⟩,(Kp.refl _ _).drew⟩
 have HH:=hid (⟨hs,(by rw[hs4,hg];omega:g<W4.heap.size),(by omega:g≠rv),(by omega:g≠fv),(by omega:r0≠g),hb4,h0,h2,h3⟩:_∧_∧_∧_∧_∧_∧_∧_∧_)
 have HRW:=hid (⟨hW4,hfv,hrv,hg,hr0⟩:_∧_∧_∧_∧_)
 clear hs hb4 hs4 h0 h1 h2 h3 hW4 hfv hrv hg hr0
 go_enter Tryz.func48,Tryz.ntmps48
 go_upto_region 3 with fail
 rw[←HRW.out.2.1,←HRW.out.2.2.1,←HRW.out.2.2.2.1,←HRW.out.2.2.2.2,←HRW.out.1]
 go_cut [6]from 12 to 16 (fun s6 wc=> ∃mb,s6= .pointer (some ⟨mb,0,none⟩)∧Hid (GtI W4 g mb s (rdF s (rdI s (some 0)).2).2 (rdI s (some 0)).1 (rdF s (rdI s (some 0)).2).1 (.slice none 0 0) [] (.slice none 0 0) [] (.slice none 0 0) [] (.slice none 0 0) [] wc))
 case first=>
  refine zB (fun W'=>W'.cell? ⟨rv,0,none⟩=some (.pointer (some ⟨g,0,none⟩))) 6 (by kernel_rfl) (HV.out _ HR1.out.2) (fun hHeld=>?_)
  refine eT 0 hHeld ?_;(try simp only[Act.put,sEa,sEb,sEc]);refine eT 2 hHeld ?_;(try simp only[Act.put,sEa,sEb,sEc])
  refine eR2 (i:=1) (j:=5) (by(simp only[gEa,gEb,gEc];try rfl)) (by(simp only[gEa,gEb,gEc];try rfl)) (by kernel_rfl) (by rfl) (fun K hK=>?_) (fun K hK=>?_)
  ·go_simp
   (with_reducible refine(zH HR1.out.1 HH.out.1).mono ?_)
   rintro r w2 ⟨rfl,hr2,hk2⟩
   have H2:=hid (⟨hr2,HR1.out.2.trans hk2⟩:_∧_)
   have HK2:=hid hk2
   clear hr2 hk2
   refine hK.out _ _ (HV.out _ H2.out.2) (fun hHeld=>?_)
   clear hK K
   (try simp only[Act.put,sEa,sEb,sEc])
   refine eR2 (i:=3) (j:=5) (by(simp only[gEa,gEb,gEc];try rfl)) (by(simp only[gEa,gEb,gEc];try rfl)) (by kernel_rfl) (by rfl) (fun K hK=>?_) (fun K hK=>?_)
   ·go_simp
    (with_reducible refine(xJ H2.out.1 HH.out.1).mono ?_)
    rintro r w3 ⟨rfl,hr3,hk3⟩
    have H3:=hid (⟨hr3,H2.out.2.trans hk3⟩:_∧_)
    have HK3:=hid hk3
    clear hr3 hk3
    refine hK.out _ _ (HV.out _ H3.out.2) (fun hHeld=>?_)
    clear hK K
    (try simp only[Act.put,sEa,sEb,sEc])
    refine eT 4 hHeld ?_;(try simp only[Act.put,sEa,sEb,sEc])
    refine eR 5 (fun K hK=>?_)
    go_simp
    have H4:Hid (RdM (w3.alloc (.cells #[.int .i64 0,.float .f64 0,.slice none 0 0,.slice none 0 0,.slice none 0 0,.slice none 0 0] 29)) g s (rdF s (rdI s (some 0)).2).2∧Kp [g] W4 (w3.alloc (.cells #[.int .i64 0,.float .f64 0,.slice none 0 0,.slice none 0 0,.slice none 0 0,.slice none 0 0] 29))):=hid ⟨H3.out.1.below ((Below.refl _ _).alloc (Nat.le_refl _) _),H3.out.2.alloc _⟩
    refine hK.out _ _ (HV.out _ H4.out.2) (fun hHeld=>?_)
    clear hK K
    (try simp only[Act.put,sEa,sEb,sEc])
    have HM:Hid (Blk (w3.alloc (.cells #[.int .i64 0,.float .f64 0,.slice none 0 0,.slice none 0 0,.slice none 0 0,.slice none 0 0] 29)) w3.heap.size 29 #[.int .i64 0,.float .f64 0,.slice none 0 0,.slice none 0 0,.slice none 0 0,.slice none 0 0]∧RdM (w3.alloc (.cells #[.int .i64 0,.float .f64 0,.slice none 0 0,.slice none 0 0,.slice none 0 0,.slice none 0 0] 29)) g s (rdF s (rdI s (some 0)).2).2∧Kp [g] W4 (w3.alloc (.cells #[.int .i64 0,.float .f64 0,.slice none 0 0,.slice none 0 0,.slice none 0 0,.slice none 0 0] 29))∧W4.heap.size≤w3.heap.size):=hid ⟨Blk.new _ _ _,H4.out.1,H4.out.2,H3.out.2.size⟩
    obtain⟨wx,hwx⟩: ∃wx,wx=w3.alloc (.cells #[.int .i64 0,.float .f64 0,.slice none 0 0,.slice none 0 0,.slice none 0 0,.slice none 0 0] 29):=⟨_,rfl⟩
    rw[←hwx]at HM hHeld⊢
    clear hwx H4
    obtain⟨⟨a0,a1,a2,a3,a4,a5⟩,⟨b0,b1,b2,b3,b4,b5⟩,hlt⟩:=six HM.out.1
    refine eL (fun K hK=>?_);go_simp;refine hK.out _ _ ?_;clear hK K;(try simp only[Act.put,sEa,sEb,sEc])
    have HF:=hid (GtI.new (rdI s (some 0)).1 (rdF s (rdI s (some 0)).2).1 HM.out.2.1 HM.out.1 HM.out.2.2.1 HM.out.2.2.2)
    unfold za za za za za za za at HF
    clear a0 a1 a2 a3 a4 a5 b0 b1 b2 b3 b4 b5 hlt hHeld
    go_wp2
    go_meet
    case rel=>exact⟨_,rfl,HF⟩
   ·go_simp
    have H3:Hid (RdM (w2.alloc (.cells #[.int .i64 0,.float .f64 0,.slice none 0 0,.slice none 0 0,.slice none 0 0,.slice none 0 0] 29)) g s (rdI s (some 0)).2∧Kp [g] W4 (w2.alloc (.cells #[.int .i64 0,.float .f64 0,.slice none 0 0,.slice none 0 0,.slice none 0 0,.slice none 0 0] 29))):=hid ⟨H2.out.1.below ((Below.refl _ _).alloc (Nat.le_refl _) _),H2.out.2.alloc _⟩
    refine hK.out _ _ (HV.out _ H3.out.2) (fun hHeld=>?_)
    clear hK K
    (try simp only[Act.put,sEa,sEb,sEc])
    refine eR 3 (fun K hK=>?_)
    go_simp
    (with_reducible refine(xJ H3.out.1 HH.out.1).mono ?_)
    rintro r w3 ⟨rfl,hr3,hk3⟩
    have H4:=hid (⟨hr3,H3.out.2.trans hk3⟩:_∧_)
    have HK3:=hid hk3
    clear hr3 hk3
    refine hK.out _ _ (HV.out _ H4.out.2) (fun hHeld=>?_)
    clear hK K
    (try simp only[Act.put,sEa,sEb,sEc])
    refine eT 4 hHeld ?_;(try simp only[Act.put,sEa,sEb,sEc])
    have HM:Hid (Blk w3 w2.heap.size 29 #[.int .i64 0,.float .f64 0,.slice none 0 0,.slice none 0 0,.slice none 0 0,.slice none 0 0]∧RdM w3 g s (rdF s (rdI s (some 0)).2).2∧Kp [g] W4 w3∧W4.heap.size≤w2.heap.size):=hid ⟨(Blk.new _ _ _).kp HK3.out (by have:=H2.out.1.lt;simp;omega),H4.out.1,H4.out.2,H2.out.2.size⟩
    obtain⟨⟨a0,a1,a2,a3,a4,a5⟩,⟨b0,b1,b2,b3,b4,b5⟩,hlt⟩:=six HM.out.1
    refine eL (fun K hK=>?_);go_simp;refine hK.out _ _ ?_;clear hK K;(try simp only[Act.put,sEa,sEb,sEc])
    have HF:=hid (GtI.new (rdI s (some 0)).1 (rdF s (rdI s (some 0)).2).1 HM.out.2.1 HM.out.1 HM.out.2.2.1 HM.out.2.2.2)
    unfold za za za za za za za at HF
    clear a0 a1 a2 a3 a4 a5 b0 b1 b2 b3 b4 b5 hlt hHeld
    go_wp2
    go_meet
    case rel=>exact⟨_,rfl,HF⟩
  ·go_simp
   have H2:Hid (RdM ((W4.alloc (.cells #[.int .i64 0,.float .f64 0,.slice none 0 0,.slice none 0 0,.slice none 0 0,.slice none 0 0] 29)).drew) g s (some 0)∧Kp [g] W4 ((W4.alloc (.cells #[.int .i64 0,.float .f64 0,.slice none 0 0,.slice none 0 0,.slice none 0 0,.slice none 0 0] 29)).drew)):=hid ⟨(show RdM W4 g s (some 0)from HR1.out.1).below (Z0 ((Below.refl _ W4).alloc (Nat.le_refl _) _) 1),((Kp.refl _ _).alloc _).drew⟩
   refine hK.out _ _ (HV.out _ H2.out.2) (fun hHeld=>?_)
   clear hK K
   (try simp only[Act.put,sEa,sEb,sEc])
   refine eR 1 (fun K hK=>?_)
   go_simp
   (with_reducible refine(zH H2.out.1 HH.out.1).mono ?_)
   rintro r w2 ⟨rfl,hr2,hk2⟩
   have H3:=hid (⟨hr2,H2.out.2.trans hk2⟩:_∧_)
   have HK2:=hid hk2
   clear hr2 hk2
   refine hK.out _ _ (HV.out _ H3.out.2) (fun hHeld=>?_)
   clear hK K
   (try simp only[Act.put,sEa,sEb,sEc])
   refine eR 3 (fun K hK=>?_)
   go_simp
   (with_reducible refine(xJ H3.out.1 HH.out.1).mono ?_)
   rintro r w3 ⟨rfl,hr3,hk3⟩
   have H4:=hid (⟨hr3,H3.out.2.trans hk3⟩:_∧_)
   have HK3:=hid hk3
   clear hr3 hk3
   refine hK.out _ _ (HV.out _ H4.out.2) (fun hHeld=>?_)
   clear hK K
   (try simp only[Act.put,sEa,sEb,sEc])
   refine eT 4 hHeld ?_;(try simp only[Act.put,sEa,sEb,sEc])
   have HM:Hid (Blk w3 W4.heap.size 29 #[.int .i64 0,.float .f64 0,.slice none 0 0,.slice none 0 0,.slice none 0 0,.slice none 0 0]∧RdM w3 g s (rdF s (rdI s (some 0)).2).2∧Kp [g] W4 w3∧W4.heap.size≤W4.heap.size):=hid ⟨((Blk.new W4 _ _).drew.kp HK2.out (by have:=HH.out.2.1;show W4.heap.size∉[g];simp;omega)).kp HK3.out (by have:=HH.out.2.1;simp;omega),H4.out.1,H4.out.2,Nat.le_refl _⟩
   obtain⟨⟨a0,a1,a2,a3,a4,a5⟩,⟨b0,b1,b2,b3,b4,b5⟩,hlt⟩:=six HM.out.1
   refine eL (fun K hK=>?_);go_simp;refine hK.out _ _ ?_;clear hK K;(try simp only[Act.put,sEa,sEb,sEc])
   have HF:=hid (GtI.new (rdI s (some 0)).1 (rdF s (rdI s (some 0)).2).1 HM.out.2.1 HM.out.1 HM.out.2.2.1 HM.out.2.2.2)
   unfold za za za za za za za at HF
   clear a0 a1 a2 a3 a4 a5 b0 b1 b2 b3 b4 b5 hlt hHeld
   go_wp2
   go_meet
   case rel=>exact⟨_,rfl,HF⟩
 case rest=>
  obtain⟨mb,rfl,HG⟩:=hcut
  clear HR1
  have HFV:Hid (∀W',Kp [g] W4 W'→W'.cell? ⟨fv,0,none⟩=some (.func (.func 88) #[] #[.pointer (some ⟨rv,0,none⟩)])∧Blk W' rv 152 #[.pointer (some ⟨g,0,none⟩)]∧Blk W' fv 156 #[.func (.func 88) #[] #[.pointer (some ⟨rv,0,none⟩)]]∧Blk W' r0 29 #[.int .i64 0,.float .f64 0,.slice none 0 0,.slice none 0 0,.slice none 0 0,.slice none 0 0]):=hid fun W' hk=>by
   have h3:=HH.out.2.2.2.2.2.2.2.2.kp hk (by simp;exact Ne.symm HH.out.2.2.2.1)
   exact⟨h3.cell 0,HH.out.2.2.2.2.2.2.2.1.kp hk (by simp;exact Ne.symm HH.out.2.2.1),h3,HH.out.2.2.2.2.2.2.1.kp hk (by simp;exact HH.out.2.2.2.2.1)⟩
  have crv:=HV.out wc HG.out.kp
  have HI:=hid (abC (W0:=wc) (ajn HH.out.1) HG.out.rd (Kp.refl _ _) HH.out.1)
  go_wp2_with fail
  (with_reducible refine HI.out.mono ?_)
  rintro r x4 ⟨v,xd,rfl,ho,ha,he,hr,hk,hf⟩
  obtain⟨xdp,xdc,rfl⟩:=zm ho
  have hg2:=HG.out.step hk hr
  have hg3:=hg2.setD (xL ho HG.out.kp.size)
  obtain⟨xdn,hn⟩: ∃n,n=xd.length:=⟨_,rfl⟩
  rw[←hn]at hg3⊢
  obtain⟨⟨a0,a1,a2,a3,a4,a5⟩,⟨b0,b1,b2,b3,b4,b5⟩,hlt⟩:=six hg2.blk
  have Hxd:=hid (⟨hn,he,hf⟩:_∧_∧_)
  clear ho ha he hr hk hf hg2 hn crv HI
  go_upto_region 5 with fail
  obtain⟨w5,hwn⟩: ∃wn,wn=x4.setCell ⟨mb,2,none⟩ (.slice xdp xdn xdc):=⟨_,rfl⟩
  rw[←hwn]at hg3⊢
  have HG5:=hid hg3
  clear hwn hg3 a0 a1 a2 a3 a4 a5 b0 b1 b2 b3 b4 b5 hlt
  have crv:=HV.out w5 HG5.out.kp
  have cfv:=(HFV.out _ HG5.out.kp).1
  have HI:=hid (abG (W0:=w5) (aBQ (HFV.out _ HG5.out.kp).2.1 (HFV.out _ HG5.out.kp).2.2.1 HH.out.1 (Nat.lt_of_lt_of_le HH.out.2.1 HG5.out.kp.size) HH.out.2.2.1 HH.out.2.2.2.1) HG5.out.rd (Kp.refl _ _) HH.out.1)
  go_wp2_with fail
  (with_reducible refine HI.out.mono ?_)
  rintro r x5 ⟨v,xp,rfl,ho,ha,he,hr,hk,hf⟩
  obtain⟨xpp,xpc,rfl⟩:=zm ho
  have hg2:=HG5.out.step hk hr
  have hg3:=hg2.setP (xL ho HG5.out.kp.size) (fun q hq=>acr.low (ha q hq) HG5.out.kp.size)
  obtain⟨xpn,hn⟩: ∃n,n=xp.length:=⟨_,rfl⟩
  rw[←hn]at hg3⊢
  obtain⟨⟨a0,a1,a2,a3,a4,a5⟩,⟨b0,b1,b2,b3,b4,b5⟩,hlt⟩:=six hg2.blk
  have Hxp:=hid (⟨hn,he,hf⟩:_∧_∧_)
  clear ho ha he hr hk hf hg2 hn crv cfv HI
  go_upto_region 6 with fail
  obtain⟨w6,hwn⟩: ∃wn,wn=x5.setCell ⟨mb,3,none⟩ (.slice xpp xpn xpc):=⟨_,rfl⟩
  rw[←hwn]at hg3⊢
  have HG6:=hid hg3
  clear hwn hg3 a0 a1 a2 a3 a4 a5 b0 b1 b2 b3 b4 b5 hlt
  have crv:=HV.out w6 HG6.out.kp
  have HI:=hid (abE (W0:=w6) (aR8 (HFV.out _ HG6.out.kp).2.1 HH.out.1 (Nat.lt_of_lt_of_le HH.out.2.1 HG6.out.kp.size) HH.out.2.2.1) HG6.out.rd (Kp.refl _ _) HH.out.1)
  go_wp2_with fail
  (with_reducible refine HI.out.mono ?_)
  rintro r x6 ⟨v,xl,rfl,ho,ha,he,hr,hk,hf⟩
  obtain⟨xlp,xlc,rfl⟩:=zm ho
  have hg2:=HG6.out.step hk hr
  have hg3:=hg2.setL (xL ho HG6.out.kp.size) (fun q hq=>acq.low (ha q hq) HG6.out.kp.size)
  obtain⟨xln,hn⟩: ∃n,n=xl.length:=⟨_,rfl⟩
  rw[←hn]at hg3⊢
  obtain⟨⟨a0,a1,a2,a3,a4,a5⟩,⟨b0,b1,b2,b3,b4,b5⟩,hlt⟩:=six hg2.blk
  have Hxl:=hid (⟨hn,he,hf⟩:_∧_∧_)
  clear ho ha he hr hk hf hg2 hn crv HI
  go_upto_region 7 with fail
  obtain⟨w7,hwn⟩: ∃wn,wn=x6.setCell ⟨mb,4,none⟩ (.slice xlp xln xlc):=⟨_,rfl⟩
  rw[←hwn]at hg3⊢
  have HG7:=hid hg3
  clear hwn hg3 a0 a1 a2 a3 a4 a5 b0 b1 b2 b3 b4 b5 hlt
  have crv:=HV.out w7 HG7.out.kp
  have HI:=hid (abD (W0:=w7) (aMX (HFV.out _ HG7.out.kp).2.1 HH.out.1 (Nat.lt_of_lt_of_le HH.out.2.1 HG7.out.kp.size) HH.out.2.2.1) HG7.out.rd (Kp.refl _ _) HH.out.1)
  go_wp2_with fail
  (with_reducible refine HI.out.mono ?_)
  rintro r x7 ⟨v,xi,rfl,ho,ha,he,hr,hk,hf⟩
  obtain⟨xip,xic,rfl⟩:=zm ho
  have hg2:=HG7.out.step hk hr
  have hg3:=hg2.setI (xL ho HG7.out.kp.size)
  obtain⟨xin,hn⟩: ∃n,n=xi.length:=⟨_,rfl⟩
  rw[←hn]at hg3⊢
  obtain⟨⟨a0,a1,a2,a3,a4,a5⟩,⟨b0,b1,b2,b3,b4,b5⟩,hlt⟩:=six hg2.blk
  have Hxi:=hid (⟨hn,he,hf⟩:_∧_∧_)
  clear ho ha he hr hk hf hg2 hn crv HI
  go_upto_region 8 with fail
  obtain⟨w8,hwn⟩: ∃wn,wn=x7.setCell ⟨mb,5,none⟩ (.slice xip xin xic):=⟨_,rfl⟩
  rw[←hwn]at hg3⊢
  have HG8:=hid hg3
  clear hwn hg3 a0 a1 a2 a3 a4 a5 b0 b1 b2 b3 b4 b5 hlt
  obtain⟨sd,hsd⟩: ∃n,n=(rdI s (some 0)).1:=⟨_,rfl⟩
  obtain⟨en,hen⟩: ∃n,n=(rdF s (rdI s (some 0)).2).1:=⟨_,rfl⟩
  obtain⟨y,hy⟩: ∃y:MdV,y=⟨sd,en,xdp,xdn,xdc,xd,xpp,xpn,xpc,xp,xlp,xln,xlc,xl,xip,xin,xic,xi⟩:=⟨_,rfl⟩
  have HY:Hid (y.m=(rdM s (some 0)).1):=hid (by
   rw[hy,hsd,hen]
   show(⟨_,_,xd,xp.map Prg.l,xl.map (fun q=>(q.k,q.l)),xi⟩:Mdl)=_
   have e1:xd=_:=(List.map_id' xd).symm.trans Hxd.out.2.1
   have e4:xi=_:=(List.map_id' xi).symm.trans Hxi.out.2.1
   rw[Hxp.out.2.1,Hxl.out.2.1,e1,e4]
   rfl)
  obtain⟨st,hst⟩: ∃st,st=(rdM s (some 0)).2:=⟨_,rfl⟩
  have HG9:Hid (GtI W4 g mb s st sd en (.slice xdp xdn xdc) xd (.slice xpp xpn xpc) xp (.slice xlp xln xlc) xl (.slice xip xin xic) xi w8):=hid (by rw[hst,hsd,hen];exact HG8.out)
  have HST:=hid hst
  have HYE:=hid hy
  have HKZ:=hid HG8.out.kp
  have HRZ:=hid (HFV.out _ HG8.out.kp).2.2.2
  have HEN:=hid hen
  have crv:=HV.out w8 HG8.out.kp
  clear hst hy hsd hen HG HG5 HG6 HG7 HG8
  obtain⟨⟨z0,z1,z2,z3,z4,z5⟩,⟨y0,y1,y2,y3,y4,y5⟩,zlt⟩:=six HRZ.out
  cases st with
  | none=>
   have hgm:jE s=none:=by
    unfold jE
    rw[if_neg (by rw[←HST.out];simp)]
   obtain⟨a,e,hb,hr⟩:=HG9.out.rd
   have hne:(e==0)=false:=by simpa[RdS]using hr
   have c2:w8.cell? ⟨g,2,none⟩=some (.int .i64 e):=hb.cell 2
   obtain⟨wd,hwd⟩: ∃wd,wd=w8.drew:=⟨_,rfl⟩
   have hrvd:Blk wd rv 152 #[.pointer (some ⟨g,0,none⟩)]:=by rw[hwd];exact(HFV.out _ HG9.out.kp).2.1.drew
   have hgd:Blk wd g 154 #[.string (S s),.int .i64 a,.int .i64 e]:=by rw[hwd];exact hb.drew
   have HRZ:Hid (Blk wd r0 29 #[.int .i64 0,.float .f64 0,.slice none 0 0,.slice none 0 0,.slice none 0 0,.slice none 0 0]):=hid (by rw[hwd];exact HRZ.out.drew)
   have HKZ:Hid (Kp [g] W4 wd):=hid (by rw[hwd];exact HKZ.out.drew)
   obtain⟨wz,hwz⟩: ∃wz,wz=za wd r0 0 [.int .i64 0,.float .f64 0,.slice none 0 0,.slice none 0 0,.slice none 0 0,.slice none 0 0]:=⟨_,rfl⟩
   have hbz:Blk wz r0 29 #[.int .i64 0,.float .f64 0,.slice none 0 0,.slice none 0 0,.slice none 0 0,.slice none 0 0]:=by rw[hwz];exact(((((HRZ.out.set_ 0 _).set_ 1 _).set_ 2 _).set_ 3 _).set_ 4 _).set_ 5 _
   have HF:Hid (MdF W.heap.size wz mdZ∧Below W.heap.size W wz∧abe (jE s) mdZ.m e):=hid (by
    refine⟨fun w'' _=>qS w'',by rw[hwz];exact xA HH.out.2.2.2.2.2.1 HKZ.out (by rw[HRW.out.2.2.2.1];omega) (by rw[HRW.out.2.2.2.2];omega),by rw[hgm];exact hr⟩)
   unfold za za za za za za za at hwz
   have HS:Hid (wz.cell? ⟨rv,0,none⟩=some (.pointer (some ⟨g,0,none⟩))∧wz.cell? ⟨g,2,none⟩=some (.int .i64 e)):=hid (by
    have hng:rv≠r0:=by rw[HRW.out.2.2.1,HRW.out.2.2.2.2];omega
    have hrz2:=(yB r0 [.int .i64 0,.float .f64 0,.slice none 0 0,.slice none 0 0,.slice none 0 0,.slice none 0 0] wd 0 rv hng).trans hrvd
    have hgz2:=(yB r0 [.int .i64 0,.float .f64 0,.slice none 0 0,.slice none 0 0,.slice none 0 0,.slice none 0 0] wd 0 g (Ne.symm HH.out.2.2.2.2.1)).trans hgd
    unfold za za za za za za za at hrz2 hgz2
    rw[←hwz]at hrz2 hgz2
    exact⟨Blk.cell hrz2 0,Blk.cell hgz2 2⟩)
   have HS0:Hid (wd.cell? ⟨rv,0,none⟩=some (.pointer (some ⟨g,0,none⟩))∧wd.cell? ⟨g,2,none⟩=some (.int .i64 e)):=hid ⟨hrvd.cell 0,hgd.cell 2⟩
   have HWZ:=hid hwz
   have HWD:=hid hwd
   clear hb hr hgm hwz hwd hrvd hgd z0 z1 z2 z3 z4 z5 y0 y1 y2 y3 y4 y5 zlt
   go_wp2
   refine zB (fun W'=>W'.cell? ⟨rv,0,none⟩=some (.pointer (some ⟨g,0,none⟩))∧W'.cell? ⟨g,2,none⟩=some (.int .i64 e)) 6 (by kernel_rfl) (by rw[←HWD.out];exact HS0.out) (fun hHeld=>?_)
   rw[←HWD.out]at hHeld⊢
   clear crv c2
   obtain⟨⟨z0,z1,z2,z3,z4,z5⟩,⟨y0,y1,y2,y3,y4,y5⟩,zlt⟩:=six HRZ.out
   refine eT 0 hHeld ?_;(try simp only[Act.put,sEa,sEb,sEc]);refine eT 1 hHeld ?_;(try simp only[Act.put,sEa,sEb,sEc]);refine eT 2 hHeld ?_;(try simp only[Act.put,sEa,sEb,sEc]);refine eT 3 hHeld ?_;(try simp only[Act.put,sEa,sEb,sEc]);refine eT 4 hHeld ?_;(try simp only[Act.put,sEa,sEb,sEc]);refine eR 5 (fun K hK=>?_);go_simp;refine hK.out _ _ (by rw[←HWZ.out];exact HS.out) (fun hHeld=>?_);clear hK K;(try simp only[Act.put,sEa,sEb,sEc]);refine eL (fun K hK=>?_);go_simp;refine hK.out _ _ ?_;clear hK K;(try simp only[Act.put,sEa,sEb,sEc])
   rw[←HWZ.out]
   clear z0 z1 z2 z3 z4 z5 y0 y1 y2 y3 y4 y5 zlt hHeld
   obtain⟨⟨v0,v1,v2,v3,v4,v5⟩,_,_⟩:=six hbz
   go_wp2
   refine bodyPost_ret (v:= .tuple #[.agg #[.int .i64 0,.float .f64 0,.slice none 0 0,.slice none 0 0,.slice none 0 0,.slice none 0 0],.int .i64 e]) (by simp[results,Tryz.results48,go_sem,v0,v1,v2,v3,v4,v5]) rfl ⟨_,e,rfl,HF.out⟩
  | some k=>
   obtain⟨a,e,hb,rfl,rfl,hk⟩:=HG9.out.rd
   have c2:w8.cell? ⟨g,2,none⟩=some (.int .i64 0):=hb.cell 2
   have c1:w8.cell? ⟨g,1,none⟩=some (.int .i64 k):=hb.cell 1
   by_cases hkl:k<s.length
   ·have hgm:jE s=none:=by
     unfold jE
     rw[if_neg (by rw[←HST.out];simp;omega)]
    have hki:(k:Int)<(s.length:Int):=by omega
    obtain⟨wz,hwz⟩: ∃wz,wz=za w8 r0 0 [.int .i64 0,.float .f64 0,.slice none 0 0,.slice none 0 0,.slice none 0 0,.slice none 0 0]:=⟨_,rfl⟩
    have hbz:Blk wz r0 29 #[.int .i64 0,.float .f64 0,.slice none 0 0,.slice none 0 0,.slice none 0 0,.slice none 0 0]:=by rw[hwz];exact(((((HRZ.out.set_ 0 _).set_ 1 _).set_ 2 _).set_ 3 _).set_ 4 _).set_ 5 _
    have HF:Hid (MdF W.heap.size wz mdZ∧Below W.heap.size W wz∧abe (jE s) mdZ.m 6):=hid (by
     refine⟨fun w'' _=>qS w'',by rw[hwz];exact xA HH.out.2.2.2.2.2.1 HKZ.out (by rw[HRW.out.2.2.2.1];omega) (by rw[HRW.out.2.2.2.2];omega),by rw[hgm];exact show(6:Int)≠0 by decide⟩)
    unfold za za za za za za za at hwz
    have HWZ:=hid hwz
    have HBZ:=hid hbz
    clear hb hk hgm hwz hkl hbz
    go_wp2
    rw[←HWZ.out]
    have hbz:=HBZ.out
    obtain⟨⟨v0,v1,v2,v3,v4,v5⟩,_,_⟩:=six hbz
    refine bodyPost_ret (v:= .tuple #[.agg #[.int .i64 0,.float .f64 0,.slice none 0 0,.slice none 0 0,.slice none 0 0,.slice none 0 0],.int .i64 6]) (by simp[results,Tryz.results48,go_sem,v0,v1,v2,v3,v4,v5]) rfl ⟨_,6,rfl,HF.out⟩
   ·have hki: ¬(k:Int)<(s.length:Int):=by omega
    have hkl2:some k=some s.length:=by congr 1;omega
    have hmd:qZ w8 y:=by rw[HYE.out];exact HG9.out.md2 Hxd.out.1 Hxp.out.1 Hxl.out.1 Hxi.out.1 HRZ.out (fun _ _ _ _=>rfl)
    have HCK:=hid (abN hmd (by rw[HYE.out];show xdn≤1000;have:=Hxd.out;omega) (by rw[HYE.out];show xpn≤1000;have:=Hxp.out;omega) (by rw[HYE.out];show xln≤1000;have:=Hxl.out;omega) (by rw[HYE.out];show xin≤1000;have:=Hxi.out;omega) (fun q hq=>by
     rw[HYE.out]at hq
     have h1:=HG9.out.pi q hq
     have h2:q.l∈xp.map Prg.l:=List.mem_map.2 ⟨q,hq,rfl⟩
     rw[Hxp.out.2.1]at h2
     have h3:=Kx (ahH xR) _ _ q.l h2
     have:=h1.1
     omega))
    rw[show(mdC y).toArray= #[.int .i64 sd,.float .f64 en,.slice xdp xdn xdc,.slice xpp xpn xpc,.slice xlp xln xlc,.slice xip xin xic]by rw[HYE.out];rfl]at HCK
    obtain⟨⟨a0,a1,a2,a3,a4,a5⟩,_,_⟩:=six HG9.out.blk
    have HGR:Hid (abe (jE s) y.m (if yM y.m=true then 0 else 15)∧(yM y.m=false→abe (jE s) mdZ.m 15)):=hid (by
     unfold jE
     rw[HY.out,←HST.out,hkl2]
     cases hc:yM (rdM s (some 0)).1 with
     |true=>simp only[and_self,if_true];exact⟨⟨rfl,rfl⟩,fun h=>by cases h⟩
     |false=>simp only[Bool.false_eq_true,and_false,if_false];exact⟨show(15:Int)≠0 by decide,fun _=>show(15:Int)≠0 by decide⟩)
    clear hb hk hkl hkl2 hmd z0 z1 z2 z3 z4 z5 y0 y1 y2 y3 y4 y5 zlt
    go_wp2_with fail
    (with_reducible refine HCK.out.mono ?_)
    rintro r w9 ⟨rfl,hb9⟩
    have HG10:=hid (HG9.out.step (Kp.of_below hb9) (HG9.out.rd.below hb9))
    have HRZ:Hid (Blk w9 r0 29 #[.int .i64 0,.float .f64 0,.slice none 0 0,.slice none 0 0,.slice none 0 0,.slice none 0 0]):=hid (HRZ.out.below hb9 HRZ.out.lt)
    have HKZ:=hid HG10.out.kp
    clear crv c1 c2 a0 a1 a2 a3 a4 a5 hb9 HCK
    obtain⟨⟨a0,a1,a2,a3,a4,a5⟩,_,_⟩:=six HG10.out.blk
    obtain⟨⟨z0,z1,z2,z3,z4,z5⟩,⟨y0,y1,y2,y3,y4,y5⟩,zlt⟩:=six HRZ.out
    cases hc:yM y.m with
    | false=>
     obtain⟨wz,hwz⟩: ∃wz,wz=za w9 r0 0 [.int .i64 0,.float .f64 0,.slice none 0 0,.slice none 0 0,.slice none 0 0,.slice none 0 0]:=⟨_,rfl⟩
     have hbz:Blk wz r0 29 #[.int .i64 0,.float .f64 0,.slice none 0 0,.slice none 0 0,.slice none 0 0,.slice none 0 0]:=by rw[hwz];exact(((((HRZ.out.set_ 0 _).set_ 1 _).set_ 2 _).set_ 3 _).set_ 4 _).set_ 5 _
     have HF:Hid (MdF W.heap.size wz mdZ∧Below W.heap.size W wz∧abe (jE s) mdZ.m 15):=hid (by
      refine⟨fun w'' _=>qS w'',by rw[hwz];exact xA HH.out.2.2.2.2.2.1 HKZ.out (by rw[HRW.out.2.2.2.1];omega) (by rw[HRW.out.2.2.2.2];omega),HGR.out.2 hc⟩)
     unfold za za za za za za za at hwz
     have HWZ:=hid hwz
     have HBZ:=hid hbz
     clear hwz hbz hc
     simp only[Bool.false_eq_true,if_false]
     go_wp2
     rw[←HWZ.out]
     have hbz:=HBZ.out
     obtain⟨⟨v0,v1,v2,v3,v4,v5⟩,_,_⟩:=six hbz
     refine bodyPost_ret (v:= .tuple #[.agg #[.int .i64 0,.float .f64 0,.slice none 0 0,.slice none 0 0,.slice none 0 0,.slice none 0 0],.int .i64 15]) (by simp[results,Tryz.results48,go_sem,v0,v1,v2,v3,v4,v5]) rfl ⟨_,15,rfl,HF.out⟩
    | true=>
     obtain⟨wz,hwz⟩: ∃wz,wz=za w9 r0 0 [.int .i64 sd,.float .f64 en,.slice xdp xdn xdc,.slice xpp xpn xpc,.slice xlp xln xlc,.slice xip xin xic]:=⟨_,rfl⟩
     have hbz:Blk wz r0 29 #[.int .i64 sd,.float .f64 en,.slice xdp xdn xdc,.slice xpp xpn xpc,.slice xlp xln xlc,.slice xip xin xic]:=by rw[hwz];exact(((((HRZ.out.set_ 0 _).set_ 1 _).set_ 2 _).set_ 3 _).set_ 4 _).set_ 5 _
     have HF:Hid (MdF W.heap.size wz y∧Below W.heap.size W wz∧abe (jE s) y.m 0):=hid (by
      refine⟨fun w'' he=>by rw[HYE.out];exact HG10.out.md2 Hxd.out.1 Hxp.out.1 Hxl.out.1 Hxi.out.1 HRZ.out (fun b hlo hlt hbn=>(he b (Nat.le_trans HH.out.2.2.2.2.2.1.size hlo) (by rw[hwz,xO];exact hlt)).trans (by rw[hwz];exact yB _ _ _ _ _ hbn)),by rw[hwz];exact xA HH.out.2.2.2.2.2.1 HKZ.out (by rw[HRW.out.2.2.2.1];omega) (by rw[HRW.out.2.2.2.2];omega),by have:=HGR.out.1;rw[hc]at this;exact this⟩)
     unfold za za za za za za za at hwz
     have HWZ:=hid hwz
     have HBZ:=hid hbz
     clear hwz hbz hc
     simp only[if_true]
     go_wp2
     rw[←HWZ.out]
     have hbz:=HBZ.out
     obtain⟨⟨v0,v1,v2,v3,v4,v5⟩,_,_⟩:=six hbz
     refine bodyPost_ret (v:= .tuple #[.agg #[.int .i64 sd,.float .f64 en,.slice xdp xdn xdc,.slice xpp xpn xpc,.slice xlp xln xlc,.slice xip xin xic],.int .i64 0]) (by simp[results,Tryz.results48,go_sem,v0,v1,v2,v3,v4,v5]) rfl ⟨y,0,by rw[HYE.out];rfl,HF.out⟩
end
end Go.Proofs.YtcdiljebkpikbaaGreat
