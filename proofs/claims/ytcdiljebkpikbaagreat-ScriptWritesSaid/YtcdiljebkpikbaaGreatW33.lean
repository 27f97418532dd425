/- Parts of the proof: Ew Sdj Scf. -/
import Derived.Laws.EntriesVeiled
import Derived.Test.YtcdiljebkpikbaaGreatW31
import Derived.Test.YtcdiljebkpikbaaGreatW32
set_option linter.all false
set_option maxRecDepth 100000
set_option maxHeartbeats 64000000
namespace Go.Proofs.YtcdiljebkpikbaaGreat
section
open Go.RowKit Go.Lib
section
variable {W:World} {x:MdV}
def aio (x:MdV):Bool:=decide ((1:Int)≤x.ln∧(x.ln:Int)≤6)&&(decide ((1:Int)≤x.pn∧(x.pn:Int)≤4)&&(decide ((1:Int)≤x.dn∧(x.dn:Int)≤8)&&decide ((x.im:Int)≤16)))
theorem abr (x:MdV) (W:World):
  Calls Tryz.prog 106 #[.agg (mdC x).toArray] W fun r w'=>r= .returned (.bool (aio x))∧Below W.heap.size W w':=by
 have HB:=hid ((Below.refl _ W).alloc (Nat.le_refl _) (.cells (mdC x).toArray 29))
 have HW:=hid (fun (n a b:Int) (z:Bool) (h:z=decide (a≤n∧n≤b)) W=>(h▸qG n a b W:Calls Tryz.prog 109 #[.int .i64 n,.int .i64 a,.int .i64 b] W fun r w'=>r= .returned (.bool z)∧W=w'))
 unfold aio
 unfold mdC at HB⊢
 obtain⟨b1,h1⟩: ∃b,b=decide ((1:Int)≤x.ln∧(x.ln:Int)≤6):=⟨_,rfl⟩
 obtain⟨b2,h2⟩: ∃b,b=decide ((1:Int)≤x.pn∧(x.pn:Int)≤4):=⟨_,rfl⟩
 obtain⟨b3,h3⟩: ∃b,b=decide ((1:Int)≤x.dn∧(x.dn:Int)≤8):=⟨_,rfl⟩
 rw[←h1,←h2,←h3]
 have H1:=hid (HW.out _ _ _ _ h1)
 have H2:=hid (HW.out _ _ _ _ h2)
 have H3:=hid (HW.out _ _ _ _ h3)
 clear h1 h2 h3 HW
 cases b1
 all_goals cases b2
 all_goals cases b3
 all_goals
  go_enter Tryz.func106,Tryz.ntmps106
  go_wp2_with (first | ((with_reducible refine(H1.out _).mono ?_);rintro r w' ⟨rfl,rfl⟩) | ((with_reducible refine(H2.out _).mono ?_);rintro r w' ⟨rfl,rfl⟩) | ((with_reducible refine(H3.out _).mono ?_);rintro r w' ⟨rfl,rfl⟩))
  go_ret
  exact⟨rfl,HB.out⟩
theorem aAX {d:Nat} (h:jm d=true):dlB d=false:=by
 unfold dlB fgt
 rw[jC h]
 rfl
def lpR (n:Nat) (q:LpR):Bool:=decide ((0:Int)≤q.k∧q.k≤(n:Int) -1)&&decide ((q.n:Int)≤8)
def aaz (n:Nat) (y:Ini):Bool:= !jm y.t&&decide ((0:Int)≤y.dst∧y.dst≤(n:Int) -1)
theorem aag (h:qZ W x):yM x.m=((aio x&& !jm x.en)&&(x.dl.all dlB&&(x.ps.all (fun q=>xf q.l)&&(x.ls.all (lpR x.pn)&&x.is.all (aaz x.ln))))):=by
 have e1:X1 x.m=(aio x&& !jm x.en):=by
  unfold X1 aio MdV.m
  simp only[List.length_map,←Bool.decide_and]
  congr 1
  rw[←h.pn,←h.ln,←h.dn,←h.im]
  exact decide_eq_decide.2 (by omega)
 have e2:x.m.pr.all xf=x.ps.all (fun q=>xf q.l):=by unfold MdV.m;simp only[List.all_map];rfl
 have e3:x.m.lp.all (lpB x.m.pr.length)=x.ls.all (lpR x.pn):=by
  unfold MdV.m
  simp only[List.all_map,List.length_map]
  rw[Bool.eq_iff_iff,List.all_eq_true,List.all_eq_true]
  have hz: ∀q∈x.ls,((lpB x.ps.length∘fun q=>(q.k,q.l)) q=true↔lpR x.pn q=true):=fun q hq=>by
   unfold lpB lpR
   simp only[Function.comp,←Bool.decide_and,decide_eq_true_eq]
   rw[←(h.li q hq).1,←h.pn]
   omega
  exact⟨fun g q hq=>(hz q hq).1 (g q hq),fun g q hq=>(hz q hq).2 (g q hq)⟩
 have e4:x.m.ini.all (aRS x.m.lp.length)=x.is.all (aaz x.ln):=by
  unfold MdV.m
  simp only[List.length_map]
  rw[←h.ln]
  congr 1
  funext y
  unfold aRS aaz
  congr 1
  exact decide_eq_decide.2 (by omega)
 unfold yM
 rw[e1,e2,e3,e4]
 rfl
theorem abN (h:qZ W x) (hd:x.dn≤1000) (hp:x.pn≤1000) (hl:x.ln≤1000) (hi:x.im≤1000) (hq: ∀q∈x.ps,q.n≤1000):
  Calls Tryz.prog 60 #[.agg (mdC x).toArray] W fun r w'=>r= .returned (.int .i64 (if yM x.m=true then 0 else 15))∧Below W.heap.size W w':=by
 obtain⟨W1,hW1⟩: ∃W1,W1=W.alloc (.cells (mdC x).toArray 29):=⟨_,rfl⟩
 have hb1:Below W.heap.size W W1:=by rw[hW1];exact(Below.refl _ W).alloc (Nat.le_refl _) _
 have hB1:=MdB.new h
 rw[←hW1]at hB1
 obtain⟨e0,he0⟩: ∃e:Int,e=if yM x.m=true then 0 else 15:=⟨_,rfl⟩
 rw[←he0]
 rw[aag h]at he0
 have HE:=hid he0
 obtain⟨dp,hdp⟩: ∃p,p=x.dp:=⟨_,rfl⟩
 obtain⟨pp,hpp⟩: ∃p,p=x.pp:=⟨_,rfl⟩
 obtain⟨lp,hlp⟩: ∃p,p=x.lp:=⟨_,rfl⟩
 obtain⟨ip,hip⟩: ∃p,p=x.ip:=⟨_,rfl⟩
 have HC:Hid (∀W',Below W1.heap.size W1 W'→(W'.cell? ⟨W.heap.size,0,none⟩=some (.int .i64 x.seed)∧W'.cell? ⟨W.heap.size,1,none⟩=some (.float .f64 x.en)∧W'.cell? ⟨W.heap.size,2,none⟩=some (.slice dp x.dn x.dc)∧W'.cell? ⟨W.heap.size,3,none⟩=some (.slice pp x.pn x.pc)∧W'.cell? ⟨W.heap.size,4,none⟩=some (.slice lp x.ln x.lc)∧W'.cell? ⟨W.heap.size,5,none⟩=some (.slice ip x.im x.ic))∧qZ W' x∧Below W.heap.size W W'):=hid fun W' hW=>by
  have:=hB1.below hW
  rw[hdp,hpp,hlp,hip]
  exact⟨this.c,this.2,hb1.trans (hW.mono hb1.size)⟩
 have HCN:=hid (fun W=>abr x W)
 have HNN:=hid (fun b W=>ag2 b W)
 have HH:=hid (⟨h,hq⟩:_∧_)
 have HW1:=hid hW1
 have HD:=hid hdp
 have HP:=hid hpp
 have HL:=hid hlp
 have HI:=hid hip
 unfold mdC at HCN HW1⊢
 rw[←hdp,←hpp,←hlp,←hip]at HCN HW1⊢
 clear h hq hW1 hb1 hB1 he0 hdp hpp hlp hip
 obtain⟨b0,hb0⟩: ∃b,b=aio x:=⟨_,rfl⟩
 obtain⟨n0,hn0⟩: ∃b,b=jm x.en:=⟨_,rfl⟩
 rw[←hb0]at HCN
 have HN0:Hid (∀W',Calls Tryz.prog 107 #[.float .f64 x.en] W' fun e w'=>e= .returned (.bool n0)∧W'=w'):=hid fun W'=>by rw[hn0];exact HNN.out _ W'
 rw[←hb0,←hn0]at HE
 clear hb0 hn0
 go_enter Tryz.func60,Tryz.ntmps60
 go_upto_region 1 with fail
 rw[←HW1.out]
 go_cut [3]from 12 to 19 (fun s3 wc=>s3= .bool (b0&& !n0)∧Hid (Below W1.heap.size W1 wc))
 case first=>
  obtain⟨⟨c0,c1,c2,c3,c4,c5⟩,_,_⟩:=HC.out W1 (Below.refl _ _)
  go_wp2_with fail
  (with_reducible refine(HCN.out _).mono ?_)
  rintro r w1 ⟨rfl,hbw⟩
  clear c0 c1 c2 c3 c4 c5
  obtain⟨⟨c0,c1,c2,c3,c4,c5⟩,_,_⟩:=HC.out w1 hbw
  have HBW:=hid hbw
  clear hbw
  cases b0
  all_goals
   go_wp2_with ((with_reducible refine(HN0.out _).mono ?_);rintro r w' ⟨rfl,rfl⟩)
   go_meet
   case rel=>exact⟨rfl,HBW⟩
 case rest =>
  obtain⟨rfl,HBW⟩:=hcut
  obtain⟨a0,ha0⟩: ∃a,a=(b0&& !n0):=⟨_,rfl⟩
  rw[←ha0]at HE⊢
  clear ha0 HCN HN0
  obtain⟨⟨c0,c1,c2,c3,c4,c5⟩,_,_⟩:=HC.out wc HBW.out
  go_wp2
  go_loopg [3,23] x.dn (fun gg s3 s23 wr=> ∃(j:Nat) (b:Bool),j≤x.dn∧x.dn-j≤gg∧s3= .bool b∧s23= .int .i64 j∧Hid (b=(a0&&(x.dl.take j).all dlB))∧wc=wr)
  case atStart=>exact⟨0,a0,by omega,by omega,rfl,rfl,hid (by simp),rfl⟩
  case round=>
   obtain⟨j,b,hj,hgg,rfl,rfl,HJ,hwr⟩:=hrel
   subst hwr
   by_cases hjn:j<x.dn
   ·obtain⟨d,hd'⟩: ∃d,x.dl[j]? =some d:=⟨_,List.getElem?_eq_getElem (by rw[←HH.out.1.dn];exact hjn)⟩
    obtain⟨g,o,e1,m0⟩:=(HC.out wc HBW.out).2.1.dly hd'
    obtain rfl:dp=some ⟨g,o,none⟩:=HD.out.trans e1
    have hji:(j:Int)<(x.dn:Int):=by omega
    have hjz:(x.dn:Int)≤1000:=by omega
    have HJN:=hid hjn
    have HX:Hid ((x.dl.take (j+1)).all dlB=((x.dl.take j).all dlB&&dlB d)):=hid (zD _ hd')
    clear hd' e1
    cases b with
    |false=>
     go_wp2
     go_roundg (x.dn- (j+1))
     case measure=>omega
     case rel=>exact⟨j+1,false,by have:=HJN.out;omega,by omega,rfl,by go_num,hid (by rw[HX.out,←Bool.and_assoc,←HJ.out];rfl),rfl⟩
    | true=>
     obtain⟨nd,hnd⟩: ∃b,b=jm d:=⟨_,rfl⟩
     have HNd:Hid (∀W',Calls Tryz.prog 107 #[.float .f64 d] W' fun e w'=>e= .returned (.bool nd)∧W'=w'):=hid fun W'=>by rw[hnd];exact HNN.out _ W'
     have HND:=hid hnd
     clear hnd
     cases nd
     ·go_wp2_with ((with_reducible refine(HNd.out _).mono ?_);rintro r w' ⟨rfl,rfl⟩)
      go_roundg (x.dn- (j+1))
      case measure=>omega
      case rel=>exact⟨j+1,dlB d,by have:=HJN.out;omega,by omega,rfl,by go_num,hid (by rw[HX.out,←Bool.and_assoc,←HJ.out];rfl),rfl⟩
     ·go_wp2_with ((with_reducible refine(HNd.out _).mono ?_);rintro r w' ⟨rfl,rfl⟩)
      go_roundg (x.dn- (j+1))
      case measure=>omega
      case rel=>exact⟨j+1,false,by have:=HJN.out;omega,by omega,rfl,by go_num,hid (by rw[HX.out,aAX HND.out.symm,Bool.and_false,Bool.and_false]),rfl⟩
   ·have hji: ¬(j:Int)<(x.dn:Int):=by omega
    have HA1:Hid (b=(a0&&x.dl.all dlB)):=hid (by rw[HJ.out,List.take_of_length_le (by rw[←HH.out.1.dn];omega)])
    clear HJ
    go_wp2
    go_loopg [3,41] x.pn (fun gg s3 s41 wr=> ∃(j:Nat) (b':Bool),j≤x.pn∧x.pn-j≤gg∧s3= .bool b'∧s41= .int .i64 j∧Hid (b'=(b&&(x.ps.take j).all fun q=>xf q.l))∧Hid (Below W1.heap.size W1 wr))
    case atStart=>exact⟨0,b,by omega,by omega,rfl,rfl,hid (by simp),HBW⟩
    case round=>
     obtain⟨j,b',hj,hgg,rfl,rfl,HJ,HBr⟩:=hrel
     by_cases hjn:j<x.pn
     ·obtain⟨q,hq'⟩: ∃q,x.ps[j]? =some q:=⟨_,List.getElem?_eq_getElem (by rw[←HH.out.1.pn];exact hjn)⟩
      obtain⟨⟨_,_,_,k3,_,_⟩,hmr,_⟩:=HC.out wr HBr.out
      obtain⟨g,o,e1,m0⟩:=hmr.prg hq'
      obtain rfl:pp=some ⟨g,o,none⟩:=HP.out.trans e1
      have hqm:=List.mem_of_getElem? hq'
      obtain⟨go,hgo⟩: ∃b,b=xf q.l:=⟨_,rfl⟩
      have HPR:=hid (Kr (hmr.pi q hqm).2 (hmr.pi q hqm).1 (HH.out.2 q hqm))
      rw[←hgo]at HPR
      have hji:(j:Int)<(x.pn:Int):=by omega
      have hjz:(x.pn:Int)≤1000:=by omega
      have HJN:=hid hjn
      have HX:Hid (((x.ps.take (j+1)).all fun q=>xf q.l)=(((x.ps.take j).all fun q=>xf q.l)&&go)):=hid (by rw[hgo];exact zD (fun q:Prg=>xf q.l) hq')
      clear hq' e1 hqm hgo hmr
      cases b' with
      |false=>
       go_wp2
       go_roundg (x.pn- (j+1))
       case measure=>omega
       case rel=>exact⟨j+1,false,by have:=HJN.out;omega,by omega,rfl,by go_num,hid (by rw[HX.out,←Bool.and_assoc,←HJ.out];rfl),HBr⟩
      |true=>
       go_wp2_with fail
       (with_reducible refine HPR.out.mono ?_)
       rintro r w2 ⟨rfl,hb2⟩
       have HB2:=hid (HBr.out.trans (hb2.mono HBr.out.size))
       clear hb2
       go_wp2
       go_roundg (x.pn- (j+1))
       case measure=>omega
       case rel=>exact⟨j+1,go,by have:=HJN.out;omega,by omega,rfl,by go_num,hid (by rw[HX.out,←Bool.and_assoc,←HJ.out];rfl),HB2⟩
     ·have hji: ¬(j:Int)<(x.pn:Int):=by omega
      have HA2:Hid (b'=(b&&x.ps.all fun q=>xf q.l)):=hid (by rw[HJ.out,List.take_of_length_le (by rw[←HH.out.1.pn];omega)])
      obtain⟨⟨k0,k1,k2,k3,k4,k5⟩,_,_⟩:=HC.out wr HBr.out
      clear HJ c0 c1 c2 c3 c4 c5
      obtain⟨w2,rfl⟩: ∃w2,w2=wr:=⟨_,rfl⟩
      have w9:IntKind.i64.wrap ((x.pn:Int) -1)=(x.pn:Int) -1:=by rw[IntKind.wrap_i64];omega
      have w8:IntKind.i64.wrap ((x.ln:Int) -1)=(x.ln:Int) -1:=by rw[IntKind.wrap_i64];omega
      go_wp2
      go_loopg [3,54] x.ln (fun gg s3 s54 wr=> ∃(j:Nat) (c':Bool),j≤x.ln∧x.ln-j≤gg∧s3= .bool c'∧s54= .int .i64 j∧Hid (c'=(b'&&(x.ls.take j).all (lpR x.pn)))∧Hid (Below W1.heap.size W1 wr))
      case atStart=>exact⟨0,b',by omega,by omega,rfl,rfl,hid (by simp),HBr⟩
      case round=>
       obtain⟨j,c',hj,hgg,rfl,rfl,HJ,HBr⟩:=hrel
       by_cases hjn:j<x.ln
       ·obtain⟨q,hq'⟩: ∃q,x.ls[j]? =some q:=⟨_,List.getElem?_eq_getElem (by rw[←HH.out.1.ln];exact hjn)⟩
        obtain⟨g,o,e1,m0,m1⟩:=(HC.out wr HBr.out).2.1.lpr hq'
        obtain rfl:lp=some ⟨g,o,none⟩:=HL.out.trans e1
        obtain⟨wo,hwo⟩: ∃wo,wo=wr.alloc (.cells #[.int .i64 q.k,.slice q.p q.n q.c] 88):=⟨_,rfl⟩
        have hbo:Below W1.heap.size W1 wo:=by rw[hwo];exact HBr.out.alloc HBr.out.size _
        have hBo:Blk wo wr.heap.size 88 #[.int .i64 q.k,.slice q.p q.n q.c]:=by rw[hwo];exact Blk.new wr _ _
        obtain⟨z,hz⟩: ∃z,z=decide ((0:Int)≤q.k∧q.k≤(x.pn:Int) -1):=⟨_,rfl⟩
        have HWI:Hid (∀W',Calls Tryz.prog 109 #[.int .i64 q.k,.int .i64 0,.int .i64 ((x.pn:Int) -1)] W' fun r w'=>r= .returned (.bool z)∧W'=w'):=hid fun W'=>by rw[hz];exact qG _ _ _ W'
        have hji:(j:Int)<(x.ln:Int):=by omega
        have hjz:(x.ln:Int)≤1000:=by omega
        have HJN:=hid hjn
        have HX:Hid ((x.ls.take (j+1)).all (lpR x.pn)=((x.ls.take j).all (lpR x.pn)&&(z&&decide ((q.n:Int)≤8)))):=hid (by rw[hz];exact zD _ hq')
        have HBO:=hid (⟨hwo,hbo,hBo⟩:_∧_∧_)
        clear hq' e1 hz hwo hbo hBo
        cases c' with
        |false=>
         go_wp2
         go_roundg (x.ln- (j+1))
         case measure=>omega
         case rel=>exact⟨j+1,false,by have:=HJN.out;omega,by omega,rfl,by go_num,hid (by rw[HX.out,←Bool.and_assoc,←HJ.out];rfl),hid (by rw[←HBO.out.1];exact HBO.out.2.1)⟩
        | true=>
         obtain⟨⟨k0,k1,k2,k3,k4,k5⟩,_,_⟩:=HC.out wo HBO.out.2.1
         have q0:wo.cell? ⟨wr.heap.size,0,none⟩=some (.int .i64 q.k):=HBO.out.2.2.cell 0
         have q1:wo.cell? ⟨wr.heap.size,1,none⟩=some (.slice q.p q.n q.c):=HBO.out.2.2.cell 1
         go_upto_region 15 with fail
         rw[←HBO.out.1]
         cases z
         all_goals
          go_wp2_with ((with_reducible refine(HWI.out _).mono ?_);rintro r w' ⟨rfl,rfl⟩)
          go_roundg (x.ln- (j+1))
          case measure=>omega
          case rel=>exact⟨j+1,_,by have:=HJN.out;omega,by omega,rfl,by go_num,hid (by rw[HX.out,←Bool.and_assoc,←HJ.out];simp),hid HBO.out.2.1⟩
       ·have hji: ¬(j:Int)<(x.ln:Int):=by omega
        have HA3:Hid (c'=(b'&&x.ls.all (lpR x.pn))):=hid (by rw[HJ.out,List.take_of_length_le (by rw[←HH.out.1.ln];omega)])
        obtain⟨⟨r0,r1,r2,r3,r4,r5⟩,_,_⟩:=HC.out wr HBr.out
        clear HJ k0 k1 k2 k3 k4 k5
        obtain⟨w3,rfl⟩: ∃w3,w3=wr:=⟨_,rfl⟩
        go_wp2
        go_loopg [3,78] x.im (fun gg s3 s78 wr=> ∃(j:Nat) (d':Bool),j≤x.im∧x.im-j≤gg∧s3= .bool d'∧s78= .int .i64 j∧Hid (d'=(c'&&(x.is.take j).all (aaz x.ln)))∧Hid (Below W1.heap.size W1 wr))
        case atStart=>exact⟨0,c',by omega,by omega,rfl,rfl,hid (by simp),HBr⟩
        case round=>
         obtain⟨j,d',hj,hgg,rfl,rfl,HJ,HBr⟩:=hrel
         by_cases hjn:j<x.im
         ·obtain⟨y,hy'⟩: ∃q,x.is[j]? =some q:=⟨_,List.getElem?_eq_getElem (by rw[←HH.out.1.im];exact hjn)⟩
          obtain⟨g,o,e1,m0,m1,m2⟩:=(HC.out wr HBr.out).2.1.ini hy'
          obtain rfl:ip=some ⟨g,o,none⟩:=HI.out.trans e1
          obtain⟨wo,hwo⟩: ∃wo,wo=wr.alloc (.cells #[.float .f64 y.t,.int .i64 y.dst,.int .i64 y.pay] 90):=⟨_,rfl⟩
          have hbo:Below W1.heap.size W1 wo:=by rw[hwo];exact HBr.out.alloc HBr.out.size _
          have hBo:Blk wo wr.heap.size 90 #[.float .f64 y.t,.int .i64 y.dst,.int .i64 y.pay]:=by rw[hwo];exact Blk.new wr _ _
          obtain⟨z,hz⟩: ∃z,z=decide ((0:Int)≤y.dst∧y.dst≤(x.ln:Int) -1):=⟨_,rfl⟩
          obtain⟨nd,hnd⟩: ∃z,z=jm y.t:=⟨_,rfl⟩
          have HWI:Hid (∀W',Calls Tryz.prog 109 #[.int .i64 y.dst,.int .i64 0,.int .i64 ((x.ln:Int) -1)] W' fun r w'=>r= .returned (.bool z)∧W'=w'):=hid fun W'=>by rw[hz];exact qG _ _ _ W'
          have HNd:Hid (∀W',Calls Tryz.prog 107 #[.float .f64 y.t] W' fun e w'=>e= .returned (.bool nd)∧W'=w'):=hid fun W'=>by rw[hnd];exact HNN.out _ W'
          have hji:(j:Int)<(x.im:Int):=by omega
          have hjz:(x.im:Int)≤1000:=by omega
          have HJN:=hid hjn
          have HX:Hid ((x.is.take (j+1)).all (aaz x.ln)=((x.is.take j).all (aaz x.ln)&&(!nd&&z))):=hid (by rw[hz,hnd];exact zD _ hy')
          have HBO:=hid (⟨hwo,hbo,hBo⟩:_∧_∧_)
          clear hy' e1 hz hnd hwo hbo hBo
          cases d' with
          |false=>
           go_wp2
           go_roundg (x.im- (j+1))
           case measure=>omega
           case rel=>exact⟨j+1,false,by have:=HJN.out;omega,by omega,rfl,by go_num,hid (by rw[HX.out,←Bool.and_assoc,←HJ.out];rfl),hid (by rw[←HBO.out.1];exact HBO.out.2.1)⟩
          | true=>
           obtain⟨⟨k0,k1,k2,k3,k4,k5⟩,_,_⟩:=HC.out wo HBO.out.2.1
           have q0:wo.cell? ⟨wr.heap.size,0,none⟩=some (.float .f64 y.t):=HBO.out.2.2.cell 0
           have q1:wo.cell? ⟨wr.heap.size,1,none⟩=some (.int .i64 y.dst):=HBO.out.2.2.cell 1
           go_upto_region 20 with fail
           rw[←HBO.out.1]
           cases nd
           all_goals
            go_wp2_with (first | ((with_reducible refine(HNd.out _).mono ?_);rintro r w' ⟨rfl,rfl⟩) | ((with_reducible refine(HWI.out _).mono ?_);rintro r w' ⟨rfl,rfl⟩))
            go_roundg (x.im- (j+1))
            case measure=>omega
            case rel=>exact⟨j+1,_,by have:=HJN.out;omega,by omega,rfl,by go_num,hid (by rw[HX.out,←Bool.and_assoc,←HJ.out];simp),hid HBO.out.2.1⟩
         ·have hji: ¬(j:Int)<(x.im:Int):=by omega
          have HA4:Hid (e0=if d'=true then 0 else 15):=hid (by
           rw[HE.out,HJ.out,List.take_of_length_le (by rw[←HH.out.1.im];omega),HA3.out,HA2.out,HA1.out]
           simp only[Bool.and_assoc])
          have HF:=hid (HC.out wr HBr.out).2.2
          clear HJ HE HA1 HA2 HA3
          cases d'
          all_goals
           go_wp2
           go_ret
           rw[HA4.out]
           exact⟨rfl,HF.out⟩
end
end
section
open Go.RowKit Go.Lib
theorem zZ {w:World} {g:Nat} {T:TypeId} {a b c d e f i j k:Value} (h:Blk w g T #[a,b,c,d,e,f,i,j,k]):w.cell? ⟨g,0,none⟩=some a∧w.cell? ⟨g,1,none⟩=some b∧w.cell? ⟨g,2,none⟩=some c∧w.cell? ⟨g,3,none⟩=some d∧w.cell? ⟨g,4,none⟩=some e∧w.cell? ⟨g,5,none⟩=some f∧w.cell? ⟨g,6,none⟩=some i∧w.cell? ⟨g,7,none⟩=some j∧w.cell? ⟨g,8,none⟩=some k:=
 ⟨h.cell 0,h.cell 1,h.cell 2,h.cell 3,h.cell 4,h.cell 5,h.cell 6,h.cell 7,h.cell 8⟩
theorem yA {w:World} {g:Nat} {T:TypeId} {a b c d e f i j k:Value} (h:Blk w g T #[a,b,c,d,e,f,i,j,k]):w.frozen? ⟨g,0,none⟩=false∧w.frozen? ⟨g,1,none⟩=false∧w.frozen? ⟨g,2,none⟩=false∧w.frozen? ⟨g,3,none⟩=false∧w.frozen? ⟨g,4,none⟩=false∧w.frozen? ⟨g,5,none⟩=false∧w.frozen? ⟨g,6,none⟩=false∧w.frozen? ⟨g,7,none⟩=false∧w.frozen? ⟨g,8,none⟩=false∧g<w.heap.size:=
 ⟨h.frozen 0,h.frozen 1,h.frozen 2,h.frozen 3,h.frozen 4,h.frozen 5,h.frozen 6,h.frozen 7,h.frozen 8,h.lt⟩
theorem zS {W w:World} {r:Nat} {T:TypeId} {a b c d e f i j k:Value} (h:Below W.heap.size W w) (hb:Blk w r T #[a,b,c,d,e,f,i,j,k]) (hr:W.heap.size≤r) (l:List Value) (hl:l.length=9): ∃wz,wz=za w r 0 l∧Blk wz r T l.toArray∧Below W.heap.size W wz∧ ∀b,b≠r→wz.heap[b]? =w.heap[b]? :=by
 obtain⟨a',b',c',d',e',f',i',j',k',rfl⟩: ∃a b c d e f i j k,l=[a,b,c,d,e,f,i,j,k]:=by
  match l,hl with
  | [a,b,c,d,e,f,i,j,k],_=>exact⟨a,b,c,d,e,f,i,j,k,rfl⟩
 have h1:Blk (w.setCell ⟨r,0,none⟩ a') r T #[a',b,c,d,e,f,i,j,k]:=hb.set_ 0 a'
 have h2:Blk _ r T #[a',b',c,d,e,f,i,j,k]:=h1.set_ 1 b'
 have h3:Blk _ r T #[a',b',c',d,e,f,i,j,k]:=h2.set_ 2 c'
 have h4:Blk _ r T #[a',b',c',d',e,f,i,j,k]:=h3.set_ 3 d'
 have h5:Blk _ r T #[a',b',c',d',e',f,i,j,k]:=h4.set_ 4 e'
 have h6:Blk _ r T #[a',b',c',d',e',f',i,j,k]:=h5.set_ 5 f'
 have h7:Blk _ r T #[a',b',c',d',e',f',i',j,k]:=h6.set_ 6 i'
 have h8:Blk _ r T #[a',b',c',d',e',f',i',j',k]:=h7.set_ 7 j'
 have h9:Blk _ r T #[a',b',c',d',e',f',i',j',k']:=h8.set_ 8 k'
 refine⟨_,rfl,h9,?_,fun b hb=>yB _ _ _ _ _ hb⟩
 exact h.trans ((zU (O:=[r]) (.inl (by simp)) _ w 0 (Kp.refl _ _)).to_below h.size fun x hx=>by
  simp at hx
  omega)
end
section
open Go.RowKit Go.Lib
theorem aVh {W:World} {q:Option Addr} {n c:Nat} {l:List (Nat)} (h:Vw 1 flC W (.slice q n c) l) {j:Nat} {x:Nat} (hx:l[j]? =some x): ∃g o,q=some ⟨g,o,none⟩∧W.cell? ⟨g,o+j,none⟩=some (.float .f64 x):=by
 obtain⟨g,o,c',e,_,hb,k⟩:=h.ex (by intro e;rw[e]at hx;simp at hx)
 injection e with e1 _ _
 exact⟨g,o,e1,by have:=k j x hx 0 _ rfl;rwa[Nat.mul_one,Nat.add_zero]at this⟩
theorem aT3 {w0 w:World} {df:Nat} {caps:Array Value} {bs:Nat→Bs} {l:List (Nat)} {q:Option Addr} {n c:Nat} {v:Value} {b:Bs} (hD:LaD w0 df caps (fun x:Nat=>Value.float .f64 x) bs l) (hown:OB w0.heap.size w v b) (hb0:Below w0.heap.size w0 w) (hv:Vw 1 flC w0 (.slice q n c) l) (hn:n=l.length) (hl:n≤1000) (hb:b.length+(abK bs l).length≤900000):
  Calls Tryz.prog 65 #[v,.slice q n c,.func (.func df) #[] caps] w (aSR w0.heap.size w (b++abK bs l)):=by
 obtain⟨p0,c0,rfl⟩:=zm hown
 obtain⟨m0,hm0⟩: ∃m,m=b.length:=⟨_,rfl⟩
 rw[←hm0]
 have hbl:b.length≤900000:=by omega
 have HI:Hid (Calls Tryz.prog 62 #[.slice p0 m0 c0,.slice (some ⟨w.heap.size,0,none⟩) 1 1] (w.alloc (.cells #[.int .i64 n] 3)) (aSR w0.heap.size (w.alloc (.cells #[.int .i64 n] 3)) (b++X6 n))):=hid (by
  have:=qk (B:=w0.heap.size) (g:=w.heap.size) (l:=[(n:Int)]) (b:=b) (v:= .slice p0 m0 c0) (w:=w.alloc (.cells #[.int .i64 n] 3)) (by rw[hm0];exact hown.below ((Below.refl _ w).alloc (Nat.le_refl _) _)) (by have:=hb0.size;simp;omega) (Blk.new w _ _) (by simp) (by intro z hz;simp at hz;rw[hz];unfold okZ;omega) hbl
  simpa using this)
 have HBW:Hid (Ly w0.heap.size w (w.alloc (.cells #[.int .i64 n] 3))):=hid (Ly.of ((Below.refl _ w).alloc (Nat.le_refl _) _) hb0.size)
 have HH:=hid (⟨hD,hb0,hv,hn,hb⟩:_∧_∧_∧_∧_)
 have hen:=hD.en
 clear hD hown hb0 hv hn hb hbl hm0
 go_enter Tryz.func65,Tryz.ntmps65
 go_wp2_with fail
 (with_reducible refine HI.out.mono ?_)
 rintro r w1 ⟨v1,rfl,hO1,hb1⟩
 obtain⟨p1,c1,rfl⟩:=zm hO1
 obtain⟨m1,hm1⟩: ∃m,m=(b++X6 n).length:=⟨_,rfl⟩
 rw[←hm1]at hO1⊢
 have HI0:Hid (w1.ownsRow w0.heap.size 5 1 (.slice p1 m1 c1) (b++X6 n++(l.take 0).flatMap bs).length (cB (b++X6 n++(l.take 0).flatMap bs))∧Ly w0.heap.size w w1):=hid ⟨by rw[List.take_zero,List.flatMap_nil,List.append_nil];exact hO1,HBW.out.trans hb1⟩
 clear hO1 hb1 hm1 HI
 go_wp2
 go_loopg [0,16] n (fun gg s0 s16 wr=> ∃(j:Nat) (p:Option Addr) (m c:Nat),j≤n∧n-j≤gg∧s0= .slice p m c∧s16= .int .i64 j∧Hid (OB w0.heap.size wr (.slice p m c) (b++X6 n++(l.take j).flatMap bs)∧Ly w0.heap.size w wr))
 case atStart=>exact⟨0,_,_,_,by omega,by omega,rfl,rfl,HI0⟩
 case round=>
  obtain⟨j,p,m,c',hj,hgg,rfl,rfl,HI⟩:=hrel
  by_cases hjn:j<n
  ·obtain⟨x,hx⟩: ∃x,l[j]? =some x:=⟨_,List.getElem?_eq_getElem (by rw[←HH.out.2.2.2.1];exact hjn)⟩
   obtain⟨g,o,rfl,m0⟩:=aVh (HH.out.2.2.1.below (HH.out.2.1.trans HI.out.2.b)) hx
   have hji:(j:Int)<(n:Int):=by omega
   have HX:=hid hx
   have HJN:=hid hjn
   have HG:=hid (HH.out.1.go x (List.mem_of_getElem? hx) wr _ _ HI.out.1 (HH.out.2.1.trans HI.out.2.b) (by have:=app bs hx;have h2:=HH.out.2.2.2.2;unfold abK at h2;simp only[List.length_append,aAY]at h2⊢;omega))
   clear hx
   go_wp2_with fail
   (with_reducible refine HG.out.mono ?_)
   rintro r w2 ⟨v2,rfl,hO2,hb2⟩
   obtain⟨p2,c2,rfl⟩:=zm hO2
   obtain⟨m2,hm2⟩: ∃m,m=(b++X6 n++(l.take j).flatMap bs++bs x).length:=⟨_,rfl⟩
   rw[←hm2]at hO2⊢
   have HF:Hid (OB w0.heap.size w2 (.slice p2 m2 c2) (b++X6 n++(l.take (j+1)).flatMap bs)∧Ly w0.heap.size w w2):=hid ⟨by
    rw[qa HX.out,←List.append_assoc]
    exact hO2,HI.out.2.trans hb2⟩
   clear hO2 hb2 hm2
   go_wp2
   go_roundg (n- (j+1))
   case measure=>omega
   case rel=>exact⟨j+1,_,_,_,by have:=HJN.out;omega,by omega,rfl,by go_num,HF⟩
  ·have hje:j=n:=by omega
   have hji: ¬(j:Int)<(n:Int):=by omega
   have HF:Hid (OB w0.heap.size wr (.slice p m c') (b++abK bs l)∧Ly w0.heap.size w wr):=hid (by
    have:=HI.out
    rw[hje,HH.out.2.2.2.1,List.take_length,List.append_assoc]at this
    exact this)
   go_wp2
   go_ret
   exact⟨_,rfl,HF.out.1,HF.out.2⟩
theorem aVm {W:World} {q:Option Addr} {n c:Nat} {l:List (Int)} (h:Vw 1 wdC W (.slice q n c) l) {j:Nat} {x:Int} (hx:l[j]? =some x): ∃g o,q=some ⟨g,o,none⟩∧W.cell? ⟨g,o+j,none⟩=some (.int .i64 x):=by
 obtain⟨g,o,c',e,_,hb,k⟩:=h.ex (by intro e;rw[e]at hx;simp at hx)
 injection e with e1 _ _
 exact⟨g,o,e1,by have:=k j x hx 0 _ rfl;rwa[Nat.mul_one,Nat.add_zero]at this⟩
theorem aT8 {w0 w:World} {df:Nat} {caps:Array Value} {bs:Int→Bs} {l:List (Int)} {q:Option Addr} {n c:Nat} {v:Value} {b:Bs} (hD:LaD w0 df caps (fun x:Int=>Value.int .i64 x) bs l) (hown:OB w0.heap.size w v b) (hb0:Below w0.heap.size w0 w) (hv:Vw 1 wdC w0 (.slice q n c) l) (hn:n=l.length) (hl:n≤1000) (hb:b.length+(abK bs l).length≤900000):
  Calls Tryz.prog 71 #[v,.slice q n c,.func (.func df) #[] caps] w (aSR w0.heap.size w (b++abK bs l)):=by
 obtain⟨p0,c0,rfl⟩:=zm hown
 obtain⟨m0,hm0⟩: ∃m,m=b.length:=⟨_,rfl⟩
 rw[←hm0]
 have hbl:b.length≤900000:=by omega
 have HI:Hid (Calls Tryz.prog 62 #[.slice p0 m0 c0,.slice (some ⟨w.heap.size,0,none⟩) 1 1] (w.alloc (.cells #[.int .i64 n] 3)) (aSR w0.heap.size (w.alloc (.cells #[.int .i64 n] 3)) (b++X6 n))):=hid (by
  have:=qk (B:=w0.heap.size) (g:=w.heap.size) (l:=[(n:Int)]) (b:=b) (v:= .slice p0 m0 c0) (w:=w.alloc (.cells #[.int .i64 n] 3)) (by rw[hm0];exact hown.below ((Below.refl _ w).alloc (Nat.le_refl _) _)) (by have:=hb0.size;simp;omega) (Blk.new w _ _) (by simp) (by intro z hz;simp at hz;rw[hz];unfold okZ;omega) hbl
  simpa using this)
 have HBW:Hid (Ly w0.heap.size w (w.alloc (.cells #[.int .i64 n] 3))):=hid (Ly.of ((Below.refl _ w).alloc (Nat.le_refl _) _) hb0.size)
 have HH:=hid (⟨hD,hb0,hv,hn,hb⟩:_∧_∧_∧_∧_)
 have hen:=hD.en
 clear hD hown hb0 hv hn hb hbl hm0
 go_enter Tryz.func71,Tryz.ntmps71
 go_wp2_with fail
 (with_reducible refine HI.out.mono ?_)
 rintro r w1 ⟨v1,rfl,hO1,hb1⟩
 obtain⟨p1,c1,rfl⟩:=zm hO1
 obtain⟨m1,hm1⟩: ∃m,m=(b++X6 n).length:=⟨_,rfl⟩
 rw[←hm1]at hO1⊢
 have HI0:Hid (w1.ownsRow w0.heap.size 5 1 (.slice p1 m1 c1) (b++X6 n++(l.take 0).flatMap bs).length (cB (b++X6 n++(l.take 0).flatMap bs))∧Ly w0.heap.size w w1):=hid ⟨by rw[List.take_zero,List.flatMap_nil,List.append_nil];exact hO1,HBW.out.trans hb1⟩
 clear hO1 hb1 hm1 HI
 go_wp2
 go_loopg [0,16] n (fun gg s0 s16 wr=> ∃(j:Nat) (p:Option Addr) (m c:Nat),j≤n∧n-j≤gg∧s0= .slice p m c∧s16= .int .i64 j∧Hid (OB w0.heap.size wr (.slice p m c) (b++X6 n++(l.take j).flatMap bs)∧Ly w0.heap.size w wr))
 case atStart=>exact⟨0,_,_,_,by omega,by omega,rfl,rfl,HI0⟩
 case round=>
  obtain⟨j,p,m,c',hj,hgg,rfl,rfl,HI⟩:=hrel
  by_cases hjn:j<n
  ·obtain⟨x,hx⟩: ∃x,l[j]? =some x:=⟨_,List.getElem?_eq_getElem (by rw[←HH.out.2.2.2.1];exact hjn)⟩
   obtain⟨g,o,rfl,m0⟩:=aVm (HH.out.2.2.1.below (HH.out.2.1.trans HI.out.2.b)) hx
   have hji:(j:Int)<(n:Int):=by omega
   have HX:=hid hx
   have HJN:=hid hjn
   have HG:=hid (HH.out.1.go x (List.mem_of_getElem? hx) wr _ _ HI.out.1 (HH.out.2.1.trans HI.out.2.b) (by have:=app bs hx;have h2:=HH.out.2.2.2.2;unfold abK at h2;simp only[List.length_append,aAY]at h2⊢;omega))
   clear hx
   go_wp2_with fail
   (with_reducible refine HG.out.mono ?_)
   rintro r w2 ⟨v2,rfl,hO2,hb2⟩
   obtain⟨p2,c2,rfl⟩:=zm hO2
   obtain⟨m2,hm2⟩: ∃m,m=(b++X6 n++(l.take j).flatMap bs++bs x).length:=⟨_,rfl⟩
   rw[←hm2]at hO2⊢
   have HF:Hid (OB w0.heap.size w2 (.slice p2 m2 c2) (b++X6 n++(l.take (j+1)).flatMap bs)∧Ly w0.heap.size w w2):=hid ⟨by
    rw[qa HX.out,←List.append_assoc]
    exact hO2,HI.out.2.trans hb2⟩
   clear hO2 hb2 hm2
   go_wp2
   go_roundg (n- (j+1))
   case measure=>omega
   case rel=>exact⟨j+1,_,_,_,by have:=HJN.out;omega,by omega,rfl,by go_num,HF⟩
  ·have hje:j=n:=by omega
   have hji: ¬(j:Int)<(n:Int):=by omega
   have HF:Hid (OB w0.heap.size wr (.slice p m c') (b++abK bs l)∧Ly w0.heap.size w wr):=hid (by
    have:=HI.out
    rw[hje,HH.out.2.2.2.1,List.take_length,List.append_assoc]at this
    exact this)
   go_wp2
   go_ret
   exact⟨_,rfl,HF.out.1,HF.out.2⟩
theorem aVl {W:World} {q:Option Addr} {n c:Nat} {l:List (Prg)} (h:Vw 1 prC W (.slice q n c) l) {j:Nat} {x:Prg} (hx:l[j]? =some x): ∃g o,q=some ⟨g,o,none⟩∧W.cell? ⟨g,o+j,none⟩=some (.slice x.p x.n x.c):=by
 obtain⟨g,o,c',e,_,hb,k⟩:=h.ex (by intro e;rw[e]at hx;simp at hx)
 injection e with e1 _ _
 exact⟨g,o,e1,by have:=k j x hx 0 _ rfl;rwa[Nat.mul_one,Nat.add_zero]at this⟩
theorem aT7 {w0 w:World} {df:Nat} {caps:Array Value} {bs:Prg→Bs} {l:List (Prg)} {q:Option Addr} {n c:Nat} {v:Value} {b:Bs} (hD:LaD w0 df caps (fun x:Prg=>Value.slice x.p x.n x.c) bs l) (hown:OB w0.heap.size w v b) (hb0:Below w0.heap.size w0 w) (hv:Vw 1 prC w0 (.slice q n c) l) (hn:n=l.length) (hl:n≤1000) (hb:b.length+(abK bs l).length≤900000):
  Calls Tryz.prog 66 #[v,.slice q n c,.func (.func df) #[] caps] w (aSR w0.heap.size w (b++abK bs l)):=by
 obtain⟨p0,c0,rfl⟩:=zm hown
 obtain⟨m0,hm0⟩: ∃m,m=b.length:=⟨_,rfl⟩
 rw[←hm0]
 have hbl:b.length≤900000:=by omega
 have HI:Hid (Calls Tryz.prog 62 #[.slice p0 m0 c0,.slice (some ⟨w.heap.size,0,none⟩) 1 1] (w.alloc (.cells #[.int .i64 n] 3)) (aSR w0.heap.size (w.alloc (.cells #[.int .i64 n] 3)) (b++X6 n))):=hid (by
  have:=qk (B:=w0.heap.size) (g:=w.heap.size) (l:=[(n:Int)]) (b:=b) (v:= .slice p0 m0 c0) (w:=w.alloc (.cells #[.int .i64 n] 3)) (by rw[hm0];exact hown.below ((Below.refl _ w).alloc (Nat.le_refl _) _)) (by have:=hb0.size;simp;omega) (Blk.new w _ _) (by simp) (by intro z hz;simp at hz;rw[hz];unfold okZ;omega) hbl
  simpa using this)
 have HBW:Hid (Ly w0.heap.size w (w.alloc (.cells #[.int .i64 n] 3))):=hid (Ly.of ((Below.refl _ w).alloc (Nat.le_refl _) _) hb0.size)
 have HH:=hid (⟨hD,hb0,hv,hn,hb⟩:_∧_∧_∧_∧_)
 have hen:=hD.en
 clear hD hown hb0 hv hn hb hbl hm0
 go_enter Tryz.func66,Tryz.ntmps66
 go_wp2_with fail
 (with_reducible refine HI.out.mono ?_)
 rintro r w1 ⟨v1,rfl,hO1,hb1⟩
 obtain⟨p1,c1,rfl⟩:=zm hO1
 obtain⟨m1,hm1⟩: ∃m,m=(b++X6 n).length:=⟨_,rfl⟩
 rw[←hm1]at hO1⊢
 have HI0:Hid (w1.ownsRow w0.heap.size 5 1 (.slice p1 m1 c1) (b++X6 n++(l.take 0).flatMap bs).length (cB (b++X6 n++(l.take 0).flatMap bs))∧Ly w0.heap.size w w1):=hid ⟨by rw[List.take_zero,List.flatMap_nil,List.append_nil];exact hO1,HBW.out.trans hb1⟩
 clear hO1 hb1 hm1 HI
 go_wp2
 go_loopg [0,16] n (fun gg s0 s16 wr=> ∃(j:Nat) (p:Option Addr) (m c:Nat),j≤n∧n-j≤gg∧s0= .slice p m c∧s16= .int .i64 j∧Hid (OB w0.heap.size wr (.slice p m c) (b++X6 n++(l.take j).flatMap bs)∧Ly w0.heap.size w wr))
 case atStart=>exact⟨0,_,_,_,by omega,by omega,rfl,rfl,HI0⟩
 case round=>
  obtain⟨j,p,m,c',hj,hgg,rfl,rfl,HI⟩:=hrel
  by_cases hjn:j<n
  ·obtain⟨x,hx⟩: ∃x,l[j]? =some x:=⟨_,List.getElem?_eq_getElem (by rw[←HH.out.2.2.2.1];exact hjn)⟩
   obtain⟨g,o,rfl,m0⟩:=aVl (HH.out.2.2.1.below (HH.out.2.1.trans HI.out.2.b)) hx
   have hji:(j:Int)<(n:Int):=by omega
   have HX:=hid hx
   have HJN:=hid hjn
   have HG:=hid (HH.out.1.go x (List.mem_of_getElem? hx) wr _ _ HI.out.1 (HH.out.2.1.trans HI.out.2.b) (by have:=app bs hx;have h2:=HH.out.2.2.2.2;unfold abK at h2;simp only[List.length_append,aAY]at h2⊢;omega))
   clear hx
   go_wp2_with fail
   (with_reducible refine HG.out.mono ?_)
   rintro r w2 ⟨v2,rfl,hO2,hb2⟩
   obtain⟨p2,c2,rfl⟩:=zm hO2
   obtain⟨m2,hm2⟩: ∃m,m=(b++X6 n++(l.take j).flatMap bs++bs x).length:=⟨_,rfl⟩
   rw[←hm2]at hO2⊢
   have HF:Hid (OB w0.heap.size w2 (.slice p2 m2 c2) (b++X6 n++(l.take (j+1)).flatMap bs)∧Ly w0.heap.size w w2):=hid ⟨by
    rw[qa HX.out,←List.append_assoc]
    exact hO2,HI.out.2.trans hb2⟩
   clear hO2 hb2 hm2
   go_wp2
   go_roundg (n- (j+1))
   case measure=>omega
   case rel=>exact⟨j+1,_,_,_,by have:=HJN.out;omega,by omega,rfl,by go_num,HF⟩
  ·have hje:j=n:=by omega
   have hji: ¬(j:Int)<(n:Int):=by omega
   have HF:Hid (OB w0.heap.size wr (.slice p m c') (b++abK bs l)∧Ly w0.heap.size w wr):=hid (by
    have:=HI.out
    rw[hje,HH.out.2.2.2.1,List.take_length,List.append_assoc]at this
    exact this)
   go_wp2
   go_ret
   exact⟨_,rfl,HF.out.1,HF.out.2⟩
theorem aVk {W:World} {q:Option Addr} {n c:Nat} {l:List (In)} (h:Vw 4 inC W (.slice q n c) l) {j:Nat} {x:In} (hx:l[j]? =some x): ∃g o,q=some ⟨g,o,none⟩∧W.cell? ⟨g,o+j*4,none⟩=some (.int .i64 x.op)∧W.cell? ⟨g,o+j*4+1,none⟩=some (.int .i64 x.a)∧W.cell? ⟨g,o+j*4+2,none⟩=some (.int .i64 x.b)∧W.cell? ⟨g,o+j*4+3,none⟩=some (.int .i64 x.c):=by
 obtain⟨g,o,c',e,_,hb,k⟩:=h.ex (by intro e;rw[e]at hx;simp at hx)
 injection e with e1 _ _
 exact⟨g,o,e1,⟨k j x hx 0 _ rfl,k j x hx 1 _ rfl,k j x hx 2 _ rfl,k j x hx 3 _ rfl⟩⟩
theorem aT6 {w0 w:World} {df:Nat} {caps:Array Value} {bs:In→Bs} {l:List (In)} {q:Option Addr} {n c:Nat} {v:Value} {b:Bs} (hD:LaD w0 df caps (fun x:In=>Value.agg #[.int .i64 x.op,.int .i64 x.a,.int .i64 x.b,.int .i64 x.c]) bs l) (hown:OB w0.heap.size w v b) (hb0:Below w0.heap.size w0 w) (hv:Vw 4 inC w0 (.slice q n c) l) (hn:n=l.length) (hl:n≤1000) (hb:b.length+(abK bs l).length≤900000):
  Calls Tryz.prog 68 #[v,.slice q n c,.func (.func df) #[] caps] w (aSR w0.heap.size w (b++abK bs l)):=by
 obtain⟨p0,c0,rfl⟩:=zm hown
 obtain⟨m0,hm0⟩: ∃m,m=b.length:=⟨_,rfl⟩
 rw[←hm0]
 have hbl:b.length≤900000:=by omega
 have HI:Hid (Calls Tryz.prog 62 #[.slice p0 m0 c0,.slice (some ⟨w.heap.size,0,none⟩) 1 1] (w.alloc (.cells #[.int .i64 n] 3)) (aSR w0.heap.size (w.alloc (.cells #[.int .i64 n] 3)) (b++X6 n))):=hid (by
  have:=qk (B:=w0.heap.size) (g:=w.heap.size) (l:=[(n:Int)]) (b:=b) (v:= .slice p0 m0 c0) (w:=w.alloc (.cells #[.int .i64 n] 3)) (by rw[hm0];exact hown.below ((Below.refl _ w).alloc (Nat.le_refl _) _)) (by have:=hb0.size;simp;omega) (Blk.new w _ _) (by simp) (by intro z hz;simp at hz;rw[hz];unfold okZ;omega) hbl
  simpa using this)
 have HBW:Hid (Ly w0.heap.size w (w.alloc (.cells #[.int .i64 n] 3))):=hid (Ly.of ((Below.refl _ w).alloc (Nat.le_refl _) _) hb0.size)
 have HH:=hid (⟨hD,hb0,hv,hn,hb⟩:_∧_∧_∧_∧_)
 have hen:=hD.en
 clear hD hown hb0 hv hn hb hbl hm0
 go_enter Tryz.func68,Tryz.ntmps68
 go_wp2_with fail
 (with_reducible refine HI.out.mono ?_)
 rintro r w1 ⟨v1,rfl,hO1,hb1⟩
 obtain⟨p1,c1,rfl⟩:=zm hO1
 obtain⟨m1,hm1⟩: ∃m,m=(b++X6 n).length:=⟨_,rfl⟩
 rw[←hm1]at hO1⊢
 have HI0:Hid (w1.ownsRow w0.heap.size 5 1 (.slice p1 m1 c1) (b++X6 n++(l.take 0).flatMap bs).length (cB (b++X6 n++(l.take 0).flatMap bs))∧Ly w0.heap.size w w1):=hid ⟨by rw[List.take_zero,List.flatMap_nil,List.append_nil];exact hO1,HBW.out.trans hb1⟩
 clear hO1 hb1 hm1 HI
 go_wp2
 go_loopg [0,16] n (fun gg s0 s16 wr=> ∃(j:Nat) (p:Option Addr) (m c:Nat),j≤n∧n-j≤gg∧s0= .slice p m c∧s16= .int .i64 j∧Hid (OB w0.heap.size wr (.slice p m c) (b++X6 n++(l.take j).flatMap bs)∧Ly w0.heap.size w wr))
 case atStart=>exact⟨0,_,_,_,by omega,by omega,rfl,rfl,HI0⟩
 case round=>
  obtain⟨j,p,m,c',hj,hgg,rfl,rfl,HI⟩:=hrel
  by_cases hjn:j<n
  ·obtain⟨x,hx⟩: ∃x,l[j]? =some x:=⟨_,List.getElem?_eq_getElem (by rw[←HH.out.2.2.2.1];exact hjn)⟩
   obtain⟨g,o,rfl,m0,m1,m2,m3⟩:=aVk (HH.out.2.2.1.below (HH.out.2.1.trans HI.out.2.b)) hx
   have hji:(j:Int)<(n:Int):=by omega
   have HX:=hid hx
   have HJN:=hid hjn
   obtain⟨wa,hwa⟩: ∃wa,wa=wr.alloc (.cells #[.int .i64 x.op,.int .i64 x.a,.int .i64 x.b,.int .i64 x.c] 84):=⟨_,rfl⟩
   have hba:Below wr.heap.size wr wa:=by rw[hwa];exact(Below.refl _ wr).alloc (Nat.le_refl _) _
   have hBa:Ly w0.heap.size w wa:=HI.out.2.step hba HH.out.2.1.size
   have HG:=hid (HH.out.1.go x (List.mem_of_getElem? hx) wa _ _ (HI.out.1.below hba) (HH.out.2.1.trans hBa.b) (by have:=app bs hx;have h2:=HH.out.2.2.2.2;unfold abK at h2;simp only[List.length_append,aAY]at h2⊢;omega))
   have HA:=hid (⟨hwa,hBa⟩:_∧_)
   clear hx hwa hba hBa
   go_wp2_with fail
   rw[←HA.out.1]
   (with_reducible refine HG.out.mono ?_)
   rintro r w2 ⟨v2,rfl,hO2,hb2⟩
   obtain⟨p2,c2,rfl⟩:=zm hO2
   obtain⟨m2,hm2⟩: ∃m,m=(b++X6 n++(l.take j).flatMap bs++bs x).length:=⟨_,rfl⟩
   rw[←hm2]at hO2⊢
   have HF:Hid (OB w0.heap.size w2 (.slice p2 m2 c2) (b++X6 n++(l.take (j+1)).flatMap bs)∧Ly w0.heap.size w w2):=hid ⟨by
    rw[qa HX.out,←List.append_assoc]
    exact hO2,HA.out.2.trans hb2⟩
   clear hO2 hb2 hm2
   go_wp2
   go_roundg (n- (j+1))
   case measure=>omega
   case rel=>exact⟨j+1,_,_,_,by have:=HJN.out;omega,by omega,rfl,by go_num,HF⟩
  ·have hje:j=n:=by omega
   have hji: ¬(j:Int)<(n:Int):=by omega
   have HF:Hid (OB w0.heap.size wr (.slice p m c') (b++abK bs l)∧Ly w0.heap.size w wr):=hid (by
    have:=HI.out
    rw[hje,HH.out.2.2.2.1,List.take_length,List.append_assoc]at this
    exact this)
   go_wp2
   go_ret
   exact⟨_,rfl,HF.out.1,HF.out.2⟩
theorem aVj {W:World} {q:Option Addr} {n c:Nat} {l:List (LpR)} (h:Vw 2 lpC W (.slice q n c) l) {j:Nat} {x:LpR} (hx:l[j]? =some x): ∃g o,q=some ⟨g,o,none⟩∧W.cell? ⟨g,o+j*2,none⟩=some (.int .i64 x.k)∧W.cell? ⟨g,o+j*2+1,none⟩=some (.slice x.p x.n x.c):=by
 obtain⟨g,o,c',e,_,hb,k⟩:=h.ex (by intro e;rw[e]at hx;simp at hx)
 injection e with e1 _ _
 exact⟨g,o,e1,⟨k j x hx 0 _ rfl,k j x hx 1 _ rfl⟩⟩
theorem aT5 {w0 w:World} {df:Nat} {caps:Array Value} {bs:LpR→Bs} {l:List (LpR)} {q:Option Addr} {n c:Nat} {v:Value} {b:Bs} (hD:LaD w0 df caps (fun x:LpR=>Value.agg #[.int .i64 x.k,.slice x.p x.n x.c]) bs l) (hown:OB w0.heap.size w v b) (hb0:Below w0.heap.size w0 w) (hv:Vw 2 lpC w0 (.slice q n c) l) (hn:n=l.length) (hl:n≤1000) (hb:b.length+(abK bs l).length≤900000):
  Calls Tryz.prog 69 #[v,.slice q n c,.func (.func df) #[] caps] w (aSR w0.heap.size w (b++abK bs l)):=by
 obtain⟨p0,c0,rfl⟩:=zm hown
 obtain⟨m0,hm0⟩: ∃m,m=b.length:=⟨_,rfl⟩
 rw[←hm0]
 have hbl:b.length≤900000:=by omega
 have HI:Hid (Calls Tryz.prog 62 #[.slice p0 m0 c0,.slice (some ⟨w.heap.size,0,none⟩) 1 1] (w.alloc (.cells #[.int .i64 n] 3)) (aSR w0.heap.size (w.alloc (.cells #[.int .i64 n] 3)) (b++X6 n))):=hid (by
  have:=qk (B:=w0.heap.size) (g:=w.heap.size) (l:=[(n:Int)]) (b:=b) (v:= .slice p0 m0 c0) (w:=w.alloc (.cells #[.int .i64 n] 3)) (by rw[hm0];exact hown.below ((Below.refl _ w).alloc (Nat.le_refl _) _)) (by have:=hb0.size;simp;omega) (Blk.new w _ _) (by simp) (by intro z hz;simp at hz;rw[hz];unfold okZ;omega) hbl
  simpa using this)
 have HBW:Hid (Ly w0.heap.size w (w.alloc (.cells #[.int .i64 n] 3))):=hid (Ly.of ((Below.refl _ w).alloc (Nat.le_refl _) _) hb0.size)
 have HH:=hid (⟨hD,hb0,hv,hn,hb⟩:_∧_∧_∧_∧_)
 have hen:=hD.en
 clear hD hown hb0 hv hn hb hbl hm0
 go_enter Tryz.func69,Tryz.ntmps69
 go_wp2_with fail
 (with_reducible refine HI.out.mono ?_)
 rintro r w1 ⟨v1,rfl,hO1,hb1⟩
 obtain⟨p1,c1,rfl⟩:=zm hO1
 obtain⟨m1,hm1⟩: ∃m,m=(b++X6 n).length:=⟨_,rfl⟩
 rw[←hm1]at hO1⊢
 have HI0:Hid (w1.ownsRow w0.heap.size 5 1 (.slice p1 m1 c1) (b++X6 n++(l.take 0).flatMap bs).length (cB (b++X6 n++(l.take 0).flatMap bs))∧Ly w0.heap.size w w1):=hid ⟨by rw[List.take_zero,List.flatMap_nil,List.append_nil];exact hO1,HBW.out.trans hb1⟩
 clear hO1 hb1 hm1 HI
 go_wp2
 go_loopg [0,16] n (fun gg s0 s16 wr=> ∃(j:Nat) (p:Option Addr) (m c:Nat),j≤n∧n-j≤gg∧s0= .slice p m c∧s16= .int .i64 j∧Hid (OB w0.heap.size wr (.slice p m c) (b++X6 n++(l.take j).flatMap bs)∧Ly w0.heap.size w wr))
 case atStart=>exact⟨0,_,_,_,by omega,by omega,rfl,rfl,HI0⟩
 case round=>
  obtain⟨j,p,m,c',hj,hgg,rfl,rfl,HI⟩:=hrel
  by_cases hjn:j<n
  ·obtain⟨x,hx⟩: ∃x,l[j]? =some x:=⟨_,List.getElem?_eq_getElem (by rw[←HH.out.2.2.2.1];exact hjn)⟩
   obtain⟨g,o,rfl,m0,m1⟩:=aVj (HH.out.2.2.1.below (HH.out.2.1.trans HI.out.2.b)) hx
   have hji:(j:Int)<(n:Int):=by omega
   have HX:=hid hx
   have HJN:=hid hjn
   obtain⟨wa,hwa⟩: ∃wa,wa=wr.alloc (.cells #[.int .i64 x.k,.slice x.p x.n x.c] 88):=⟨_,rfl⟩
   have hba:Below wr.heap.size wr wa:=by rw[hwa];exact(Below.refl _ wr).alloc (Nat.le_refl _) _
   have hBa:Ly w0.heap.size w wa:=HI.out.2.step hba HH.out.2.1.size
   have HG:=hid (HH.out.1.go x (List.mem_of_getElem? hx) wa _ _ (HI.out.1.below hba) (HH.out.2.1.trans hBa.b) (by have:=app bs hx;have h2:=HH.out.2.2.2.2;unfold abK at h2;simp only[List.length_append,aAY]at h2⊢;omega))
   have HA:=hid (⟨hwa,hBa⟩:_∧_)
   clear hx hwa hba hBa
   go_wp2_with fail
   rw[←HA.out.1]
   (with_reducible refine HG.out.mono ?_)
   rintro r w2 ⟨v2,rfl,hO2,hb2⟩
   obtain⟨p2,c2,rfl⟩:=zm hO2
   obtain⟨m2,hm2⟩: ∃m,m=(b++X6 n++(l.take j).flatMap bs++bs x).length:=⟨_,rfl⟩
   rw[←hm2]at hO2⊢
   have HF:Hid (OB w0.heap.size w2 (.slice p2 m2 c2) (b++X6 n++(l.take (j+1)).flatMap bs)∧Ly w0.heap.size w w2):=hid ⟨by
    rw[qa HX.out,←List.append_assoc]
    exact hO2,HA.out.2.trans hb2⟩
   clear hO2 hb2 hm2
   go_wp2
   go_roundg (n- (j+1))
   case measure=>omega
   case rel=>exact⟨j+1,_,_,_,by have:=HJN.out;omega,by omega,rfl,by go_num,HF⟩
  ·have hje:j=n:=by omega
   have hji: ¬(j:Int)<(n:Int):=by omega
   have HF:Hid (OB w0.heap.size wr (.slice p m c') (b++abK bs l)∧Ly w0.heap.size w wr):=hid (by
    have:=HI.out
    rw[hje,HH.out.2.2.2.1,List.take_length,List.append_assoc]at this
    exact this)
   go_wp2
   go_ret
   exact⟨_,rfl,HF.out.1,HF.out.2⟩
theorem aVi {W:World} {q:Option Addr} {n c:Nat} {l:List (Ini)} (h:Vw 3 aay W (.slice q n c) l) {j:Nat} {x:Ini} (hx:l[j]? =some x): ∃g o,q=some ⟨g,o,none⟩∧W.cell? ⟨g,o+j*3,none⟩=some (.float .f64 x.t)∧W.cell? ⟨g,o+j*3+1,none⟩=some (.int .i64 x.dst)∧W.cell? ⟨g,o+j*3+2,none⟩=some (.int .i64 x.pay):=by
 obtain⟨g,o,c',e,_,hb,k⟩:=h.ex (by intro e;rw[e]at hx;simp at hx)
 injection e with e1 _ _
 exact⟨g,o,e1,⟨k j x hx 0 _ rfl,k j x hx 1 _ rfl,k j x hx 2 _ rfl⟩⟩
theorem aT4 {w0 w:World} {df:Nat} {caps:Array Value} {bs:Ini→Bs} {l:List (Ini)} {q:Option Addr} {n c:Nat} {v:Value} {b:Bs} (hD:LaD w0 df caps (fun x:Ini=>Value.agg #[.float .f64 x.t,.int .i64 x.dst,.int .i64 x.pay]) bs l) (hown:OB w0.heap.size w v b) (hb0:Below w0.heap.size w0 w) (hv:Vw 3 aay w0 (.slice q n c) l) (hn:n=l.length) (hl:n≤1000) (hb:b.length+(abK bs l).length≤900000):
  Calls Tryz.prog 72 #[v,.slice q n c,.func (.func df) #[] caps] w (aSR w0.heap.size w (b++abK bs l)):=by
 obtain⟨p0,c0,rfl⟩:=zm hown
 obtain⟨m0,hm0⟩: ∃m,m=b.length:=⟨_,rfl⟩
 rw[←hm0]
 have hbl:b.length≤900000:=by omega
 have HI:Hid (Calls Tryz.prog 62 #[.slice p0 m0 c0,.slice (some ⟨w.heap.size,0,none⟩) 1 1] (w.alloc (.cells #[.int .i64 n] 3)) (aSR w0.heap.size (w.alloc (.cells #[.int .i64 n] 3)) (b++X6 n))):=hid (by
  have:=qk (B:=w0.heap.size) (g:=w.heap.size) (l:=[(n:Int)]) (b:=b) (v:= .slice p0 m0 c0) (w:=w.alloc (.cells #[.int .i64 n] 3)) (by rw[hm0];exact hown.below ((Below.refl _ w).alloc (Nat.le_refl _) _)) (by have:=hb0.size;simp;omega) (Blk.new w _ _) (by simp) (by intro z hz;simp at hz;rw[hz];unfold okZ;omega) hbl
  simpa using this)
 have HBW:Hid (Ly w0.heap.size w (w.alloc (.cells #[.int .i64 n] 3))):=hid (Ly.of ((Below.refl _ w).alloc (Nat.le_refl _) _) hb0.size)
 have HH:=hid (⟨hD,hb0,hv,hn,hb⟩:_∧_∧_∧_∧_)
 have hen:=hD.en
 clear hD hown hb0 hv hn hb hbl hm0
 go_enter Tryz.func72,Tryz.ntmps72
 go_wp2_with fail
 (with_reducible refine HI.out.mono ?_)
 rintro r w1 ⟨v1,rfl,hO1,hb1⟩
 obtain⟨p1,c1,rfl⟩:=zm hO1
 obtain⟨m1,hm1⟩: ∃m,m=(b++X6 n).length:=⟨_,rfl⟩
 rw[←hm1]at hO1⊢
 have HI0:Hid (w1.ownsRow w0.heap.size 5 1 (.slice p1 m1 c1) (b++X6 n++(l.take 0).flatMap bs).length (cB (b++X6 n++(l.take 0).flatMap bs))∧Ly w0.heap.size w w1):=hid ⟨by rw[List.take_zero,List.flatMap_nil,List.append_nil];exact hO1,HBW.out.trans hb1⟩
 clear hO1 hb1 hm1 HI
 go_wp2
 go_loopg [0,16] n (fun gg s0 s16 wr=> ∃(j:Nat) (p:Option Addr) (m c:Nat),j≤n∧n-j≤gg∧s0= .slice p m c∧s16= .int .i64 j∧Hid (OB w0.heap.size wr (.slice p m c) (b++X6 n++(l.take j).flatMap bs)∧Ly w0.heap.size w wr))
 case atStart=>exact⟨0,_,_,_,by omega,by omega,rfl,rfl,HI0⟩
 case round=>
  obtain⟨j,p,m,c',hj,hgg,rfl,rfl,HI⟩:=hrel
  by_cases hjn:j<n
  ·obtain⟨x,hx⟩: ∃x,l[j]? =some x:=⟨_,List.getElem?_eq_getElem (by rw[←HH.out.2.2.2.1];exact hjn)⟩
   obtain⟨g,o,rfl,m0,m1,m2⟩:=aVi (HH.out.2.2.1.below (HH.out.2.1.trans HI.out.2.b)) hx
   have hji:(j:Int)<(n:Int):=by omega
   have HX:=hid hx
   have HJN:=hid hjn
   obtain⟨wa,hwa⟩: ∃wa,wa=wr.alloc (.cells #[.float .f64 x.t,.int .i64 x.dst,.int .i64 x.pay] 90):=⟨_,rfl⟩
   have hba:Below wr.heap.size wr wa:=by rw[hwa];exact(Below.refl _ wr).alloc (Nat.le_refl _) _
   have hBa:Ly w0.heap.size w wa:=HI.out.2.step hba HH.out.2.1.size
   have HG:=hid (HH.out.1.go x (List.mem_of_getElem? hx) wa _ _ (HI.out.1.below hba) (HH.out.2.1.trans hBa.b) (by have:=app bs hx;have h2:=HH.out.2.2.2.2;unfold abK at h2;simp only[List.length_append,aAY]at h2⊢;omega))
   have HA:=hid (⟨hwa,hBa⟩:_∧_)
   clear hx hwa hba hBa
   go_wp2_with fail
   rw[←HA.out.1]
   (with_reducible refine HG.out.mono ?_)
   rintro r w2 ⟨v2,rfl,hO2,hb2⟩
   obtain⟨p2,c2,rfl⟩:=zm hO2
   obtain⟨m2,hm2⟩: ∃m,m=(b++X6 n++(l.take j).flatMap bs++bs x).length:=⟨_,rfl⟩
   rw[←hm2]at hO2⊢
   have HF:Hid (OB w0.heap.size w2 (.slice p2 m2 c2) (b++X6 n++(l.take (j+1)).flatMap bs)∧Ly w0.heap.size w w2):=hid ⟨by
    rw[qa HX.out,←List.append_assoc]
    exact hO2,HA.out.2.trans hb2⟩
   clear hO2 hb2 hm2
   go_wp2
   go_roundg (n- (j+1))
   case measure=>omega
   case rel=>exact⟨j+1,_,_,_,by have:=HJN.out;omega,by omega,rfl,by go_num,HF⟩
  ·have hje:j=n:=by omega
   have hji: ¬(j:Int)<(n:Int):=by omega
   have HF:Hid (OB w0.heap.size wr (.slice p m c') (b++abK bs l)∧Ly w0.heap.size w wr):=hid (by
    have:=HI.out
    rw[hje,HH.out.2.2.2.1,List.take_length,List.append_assoc]at this
    exact this)
   go_wp2
   go_ret
   exact⟨_,rfl,HF.out.1,HF.out.2⟩
end
end Go.Proofs.YtcdiljebkpikbaaGreat
