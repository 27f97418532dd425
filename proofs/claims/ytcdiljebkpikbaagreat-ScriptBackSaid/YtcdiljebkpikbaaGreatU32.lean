/- Parts of the proof: Ee Ef Eq Ev Sem Sen Seo Scd. -/
import Derived.Deep.Cut
import Derived.Deep.CutRange
import Derived.Deep.CutBlock
import Derived.Laws.RangeString
import Derived.LoopTactic
import Derived.Test.YtcdiljebkpikbaaGreatS11
import Derived.Test.YtcdiljebkpikbaaGreatU31
set_option linter.all false
set_option maxRecDepth 100000
set_option maxHeartbeats 64000000
namespace Go.Proofs.YtcdiljebkpikbaaGreat
section
open Go.RowKit Go.Lib
def MdB (W:World) (g:Nat) (x:MdV):Prop:=Blk W g 29 (mdC x).toArray∧qZ W x
theorem MdB.below {W W':World} {g:Nat} {x:MdV} (h:MdB W g x) (hb:Below W.heap.size W W'):MdB W' g x:=⟨h.1.below hb h.1.lt,h.2.below hb⟩
theorem MdB.new {W:World} {x:MdV} (h:qZ W x):MdB (W.alloc (.cells (mdC x).toArray 29)) W.heap.size x:=⟨Blk.new W _ _,h.below ((Below.refl _ W).alloc (Nat.le_refl _) _)⟩
theorem MdB.c {W:World} {g:Nat} {x:MdV} (h:MdB W g x):W.cell? ⟨g,0,none⟩=some (.int .i64 x.seed)∧W.cell? ⟨g,1,none⟩=some (.float .f64 x.en)∧W.cell? ⟨g,2,none⟩=some (.slice x.dp x.dn x.dc)∧W.cell? ⟨g,3,none⟩=some (.slice x.pp x.pn x.pc)∧W.cell? ⟨g,4,none⟩=some (.slice x.lp x.ln x.lc)∧W.cell? ⟨g,5,none⟩=some (.slice x.ip x.im x.ic):=⟨h.1.cell 0,h.1.cell 1,h.1.cell 2,h.1.cell 3,h.1.cell 4,h.1.cell 5⟩
theorem qZ.prg {W:World} {x:MdV} (h:qZ W x) {j:Nat} {q:Prg} (hq:x.ps[j]? =some q): ∃b o,x.pp=some ⟨b,o,none⟩∧W.cell? ⟨b,o+j,none⟩=some (.slice q.p q.n q.c):=by
 obtain⟨b,o,c',e,_,hb,k⟩:=h.p.ex (by intro e;rw[e]at hq;simp at hq)
 injection e with e1 _ _
 refine⟨b,o,e1,?_⟩
 have:=k j q hq 0 _ rfl
 rwa[Nat.mul_one,Nat.add_zero]at this
theorem qZ.lpr {W:World} {x:MdV} (h:qZ W x) {j:Nat} {q:LpR} (hq:x.ls[j]? =some q): ∃b o,x.lp=some ⟨b,o,none⟩∧W.cell? ⟨b,o+j*2,none⟩=some (.int .i64 q.k)∧W.cell? ⟨b,o+j*2+1,none⟩=some (.slice q.p q.n q.c):=by
 obtain⟨b,o,c',e,_,hb,k⟩:=h.l.ex (by intro e;rw[e]at hq;simp at hq)
 injection e with e1 _ _
 exact⟨b,o,e1,k j q hq 0 _ rfl,k j q hq 1 _ rfl⟩
theorem qZ.dly {W:World} {x:MdV} (h:qZ W x) {j:Nat} {d:Nat} (hq:x.dl[j]? =some d): ∃b o,x.dp=some ⟨b,o,none⟩∧W.cell? ⟨b,o+j,none⟩=some (.float .f64 d):=by
 obtain⟨b,o,c',e,_,hb,k⟩:=h.d.ex (by intro e;rw[e]at hq;simp at hq)
 injection e with e1 _ _
 refine⟨b,o,e1,?_⟩
 have:=k j d hq 0 _ rfl
 rwa[Nat.mul_one,Nat.add_zero]at this
theorem qZ.ini {W:World} {x:MdV} (h:qZ W x) {j:Nat} {y:Ini} (hq:x.is[j]? =some y): ∃b o,x.ip=some ⟨b,o,none⟩∧W.cell? ⟨b,o+j*3,none⟩=some (.float .f64 y.t)∧W.cell? ⟨b,o+j*3+1,none⟩=some (.int .i64 y.dst)∧W.cell? ⟨b,o+j*3+2,none⟩=some (.int .i64 y.pay):=by
 obtain⟨b,o,c',e,_,hb,k⟩:=h.i.ex (by intro e;rw[e]at hq;simp at hq)
 injection e with e1 _ _
 exact⟨b,o,e1,k j y hq 0 _ rfl,k j y hq 1 _ rfl,k j y hq 2 _ rfl⟩
theorem zD {α:Type} (f:α→Bool) {l:List α} {j:Nat} {x:α} (h:l[j]? =some x):(l.take (j+1)).all f=((l.take j).all f&&f x):=by
 rw[List.take_add_one,h,Option.toList_some,List.all_append]
 simp
theorem yU {α:Type} {f:α→Bool} {l:List α} {j:Nat} {x:α} (h:l[j]? =some x) (hf:f x=false):l.all f=false:=by
 rw[List.all_eq_false]
 exact⟨x,List.mem_of_getElem? h,by simp[hf]⟩
theorem qG (n a b:Int) (w:World):Calls Tryz.prog 109 #[.int .i64 n,.int .i64 a,.int .i64 b] w fun r w'=>r= .returned (.bool (decide (a≤n∧n≤b)))∧w=w':=by
 by_cases h1:a≤n
 ·by_cases h2:n≤b
  ·rw[decide_eq_true (p:=a≤n∧n≤b) ⟨h1,h2⟩]
   go_enter Tryz.func109,Tryz.ntmps109
   go_wp2
   go_ret
   exact⟨rfl,rfl⟩
  ·rw[decide_eq_false (p:=a≤n∧n≤b) (fun h=>h2 h.2)]
   go_enter Tryz.func109,Tryz.ntmps109
   go_wp2
   go_ret
   exact⟨rfl,rfl⟩
 ·rw[decide_eq_false (p:=a≤n∧n≤b) (fun h=>h1 h.1)]
  go_enter Tryz.func109,Tryz.ntmps109
  go_wp2
  go_ret
  exact⟨rfl,rfl⟩
theorem aVl {W:World} {x:MdV} (h:qZ W x):aS2 x.m=(decide (x.pn≤10∧x.ln≤20∧x.dn≤60∧x.im≤60)&&(x.ps.all (fun q=>decide (q.n≤100))&&x.ls.all fun q=>decide (q.n≤60))):=by
 have e1:(x.ps.all fun q=>decide (q.n≤100))=x.ps.all fun q=>decide (q.l.length≤100):=by
  rw[Bool.eq_iff_iff,List.all_eq_true,List.all_eq_true]
  exact⟨fun g q hq=>by have:=g q hq;rwa[(h.pi q hq).1]at this,fun g q hq=>by have:=g q hq;rwa[(h.pi q hq).1]⟩
 have e2:(x.ls.all fun q=>decide (q.n≤60))=x.ls.all fun q=>decide (q.l.length≤60):=by
  rw[Bool.eq_iff_iff,List.all_eq_true,List.all_eq_true]
  exact⟨fun g q hq=>by have:=g q hq;rwa[(h.li q hq).1]at this,fun g q hq=>by have:=g q hq;rwa[(h.li q hq).1]⟩
 rw[e1,e2,h.pn,h.ln,h.dn,h.im]
 unfold aS2 MdV.m
 simp only[List.length_map,List.all_map]
 rfl
theorem aUM {W:World} {x:MdV} (h:qZ W x):
  Calls Tryz.prog 28 #[.agg (mdC x).toArray] W fun r w'=>r= .returned (.bool (aS2 x.m))∧Below W.heap.size W w':=by
 obtain⟨W1,hW1⟩: ∃W1,W1=W.alloc (.cells (mdC x).toArray 29):=⟨_,rfl⟩
 have hb1:Below W.heap.size W W1:=by rw[hW1];exact(Below.refl _ W).alloc (Nat.le_refl _) _
 have hB:=MdB.new h
 rw[←hW1]at hB
 obtain⟨r0,hr0⟩: ∃r,r=aS2 x.m:=⟨_,rfl⟩
 rw[←hr0]
 rw[aVl h]at hr0
 have HE:=hid hr0
 clear hr0
 have HX:=hid (⟨hW1,hb1,hB⟩:_∧_∧_)
 unfold mdC at HX⊢
 clear h hW1 hb1 hB
 by_cases hc:x.pn≤10∧x.ln≤20∧x.dn≤60∧x.im≤60
 ·have HE1:Hid (r0=(x.ps.all (fun q=>decide (q.n≤100))&&x.ls.all fun q=>decide (q.n≤60))):=hid (by rw[HE.out,decide_eq_true hc,Bool.true_and])
  obtain⟨k1,k2,k3,k4⟩:=hc
  have i1: ¬(10:Int)<(x.pn:Int):=by omega
  have i2: ¬(20:Int)<(x.ln:Int):=by omega
  have i3: ¬(60:Int)<(x.dn:Int):=by omega
  have i4: ¬(60:Int)<(x.im:Int):=by omega
  have ip:(x.pn:Int)≤10:=by omega
  have il:(x.ln:Int)≤20:=by omega
  obtain⟨c0,c1,c2,c3,c4,c5⟩:=HX.out.2.2.c
  have HP:Hid (x.pn=x.ps.length∧x.ln=x.ls.length):=hid ⟨HX.out.2.2.2.pn,HX.out.2.2.2.ln⟩
  clear k1 k2 k3 k4
  go_enter Tryz.func28,Tryz.ntmps28
  go_wp2
  rw[←HX.out.1]
  go_loopg [3] x.pn (fun gg s3 wr=> ∃(j:Nat),j≤x.pn∧x.pn-j≤gg∧s3= .int .i64 j∧Hid ((x.ps.take j).all (fun q=>decide (q.n≤100))=true)∧W1=wr)
  case atStart=>exact⟨0,by omega,by omega,rfl,hid (by simp),rfl⟩
  case round=>
   obtain⟨j,hj,hgg,rfl,HI,hwr⟩:=hrel
   subst hwr
   by_cases hje:j<x.pn
   ·obtain⟨q,hq⟩: ∃q,x.ps[j]? =some q:=⟨_,List.getElem?_eq_getElem (by rw[←HP.out.1];exact hje)⟩
    obtain⟨b,o,e1,m0⟩:=HX.out.2.2.2.prg hq
    rw[e1]at c3
    have hji:(j:Int)<(x.pn:Int):=by omega
    have HQ:=hid hq
    clear hq e1
    by_cases hn:q.n≤100
    ·have hn2: ¬(100:Int)<(q.n:Int):=by omega
     have HT:Hid ((x.ps.take (j+1)).all (fun q=>decide (q.n≤100))=true):=hid (by rw[zD _ HQ.out,HI.out,decide_eq_true hn];rfl)
     clear hn
     go_wp2
     go_roundg (x.pn- (j+1))
     case measure=>omega
     case rel=>exact⟨j+1,by omega,by omega,by go_num,HT,rfl⟩
    ·have hn2:(100:Int)<(q.n:Int):=by omega
     have HZ:Hid (r0=false):=hid (by rw[HE1.out,yU HQ.out (decide_eq_false hn),Bool.false_and])
     clear hn
     go_wp2
     go_ret
     rw[HZ.out]
     exact⟨rfl,HX.out.2.1⟩
   ·have hji: ¬(j:Int)<(x.pn:Int):=by omega
    have hall:x.ps.all (fun q=>decide (q.n≤100))=true:=by
     have:=HI.out
     rwa[List.take_of_length_le (by rw[←HP.out.1];omega)]at this
    have HE2:Hid (r0=x.ls.all fun q=>decide (q.n≤60)):=hid (by rw[HE1.out,hall,Bool.true_and])
    clear hall
    go_wp2
    go_loopg [4] x.ln (fun gg s4 wr=> ∃(k:Nat),k≤x.ln∧x.ln-k≤gg∧s4= .int .i64 k∧Hid ((x.ls.take k).all (fun q=>decide (q.n≤60))=true)∧W1=wr)
    case atStart=>exact⟨0,by omega,by omega,rfl,hid (by simp),rfl⟩
    case round=>
     obtain⟨k,hk,hgg,rfl,HI,hwr⟩:=hrel
     subst hwr
     by_cases hke:k<x.ln
     ·obtain⟨q,hq⟩: ∃q,x.ls[k]? =some q:=⟨_,List.getElem?_eq_getElem (by rw[←HP.out.2];exact hke)⟩
      obtain⟨b,o,e1,m0,m1⟩:=HX.out.2.2.2.lpr hq
      rw[e1]at c4
      have hki:(k:Int)<(x.ln:Int):=by omega
      have HQ:=hid hq
      clear hq e1
      by_cases hn:q.n≤60
      ·have hn2: ¬(60:Int)<(q.n:Int):=by omega
       have HT:Hid ((x.ls.take (k+1)).all (fun q=>decide (q.n≤60))=true):=hid (by rw[zD _ HQ.out,HI.out,decide_eq_true hn];rfl)
       clear hn
       go_wp2
       go_roundg (x.ln- (k+1))
       case measure=>omega
       case rel=>exact⟨k+1,by omega,by omega,by go_num,HT,rfl⟩
      ·have hn2:(60:Int)<(q.n:Int):=by omega
       have HZ:Hid (r0=false):=hid (by rw[HE2.out,yU HQ.out (decide_eq_false hn)])
       clear hn
       go_wp2
       go_ret
       rw[HZ.out]
       exact⟨rfl,HX.out.2.1⟩
     ·have hki: ¬(k:Int)<(x.ln:Int):=by omega
      have hall:x.ls.all (fun q=>decide (q.n≤60))=true:=by
       have:=HI.out
       rwa[List.take_of_length_le (by rw[←HP.out.2];omega)]at this
      have HZ:Hid (r0=true):=hid (by rw[HE2.out,hall])
      clear hall
      go_wp2
      go_ret
      rw[HZ.out]
      exact⟨rfl,HX.out.2.1⟩
 ·have HZ:Hid (r0=false):=hid (by rw[HE.out,decide_eq_false hc,Bool.false_and])
  have HF:=hid HX.out.2.1
  rw[HX.out.1]at HF
  have hcs:(10:Int)<(x.pn:Int)∨(¬(10:Int)<(x.pn:Int)∧(20:Int)<(x.ln:Int))∨(¬(10:Int)<(x.pn:Int)∧ ¬(20:Int)<(x.ln:Int)∧(60:Int)<(x.dn:Int))∨(¬(10:Int)<(x.pn:Int)∧ ¬(20:Int)<(x.ln:Int)∧ ¬(60:Int)<(x.dn:Int)∧(60:Int)<(x.im:Int)):=by omega
  clear hc HX
  rcases hcs with h1| ⟨h1,h2⟩ | ⟨h1,h2,h3⟩ | ⟨h1,h2,h3,h4⟩
  all_goals
   go_enter Tryz.func28,Tryz.ntmps28
   go_wp2
   go_ret
   rw[HZ.out]
   exact⟨rfl,HF.out⟩
end
section
open Go.RowKit Go.Lib
def xK (op:Int):Bs:=
 if op=0 then [45,45,45]
 else if op=1 then [114,45,45]
 else if op=2∨op=11∨op=13∨op=14 then [114,114,45]
 else if(3≤op∧op≤8)∨op=12 then [114,114,114]
 else if op=9 then [112,45,45]
 else if op=10 then [114,112,45]
 else []
theorem aaO (op:Int):(op=0∨op=1∨op=2∨op=3∨op=4∨op=5∨op=6∨op=7∨op=8∨op=9∨op=10∨op=11∨op=12∨op=13∨op=14)∨(¬op=0∧ ¬op=1∧ ¬op=2∧ ¬op=3∧ ¬op=4∧ ¬op=5∧ ¬op=6∧ ¬op=7∧ ¬op=8∧ ¬op=9∧ ¬op=10∧ ¬op=11∧ ¬op=12∧ ¬op=13∧ ¬op=14):=by omega
theorem ahh (op:Int) (w:World):Calls Tryz.prog 178 #[.int .i64 op] w fun r w'=>r= .returned (.string (S (xK op)))∧w=w':=by
 rcases aaO op with h| ⟨h0,h1,h2,h3,h4,h5,h6,h7,h8,h9,h10,h11,h12,h13,h14⟩
 ·rcases h with rfl|rfl|rfl|rfl|rfl|rfl|rfl|rfl|rfl|rfl|rfl|rfl|rfl|rfl|rfl
  all_goals
   go_enter Tryz.func178,Tryz.ntmps178
   go_wp2
   go_ret
   exact⟨rfl,rfl⟩
 ·have e:xK op=[]:=by
   unfold xK
   rw[if_neg h0,if_neg h1,if_neg (by omega),if_neg (by omega),if_neg h9,if_neg h10]
  rw[e]
  go_enter Tryz.func178,Tryz.ntmps178
  go_wp2
  go_ret
  exact⟨rfl,rfl⟩
def aBt (ch:UInt8) (n len:Int):Bool:=if ch=114 then rgB n else if ch=112 then plB n len else true
def abT (x:In) (j:Nat):Int:=if j=0 then x.a else if j=1 then x.b else x.c
theorem ai6 (x:In) (len:Int):vM x len=(!(xK x.op).isEmpty&&((List.range (xK x.op).length).all fun j=>aBt ((xK x.op).getD j 0) (abT x j) len)):=by
 have hr:List.range 3=[0,1,2]:=rfl
 rcases aaO x.op with h| ⟨h0,h1,h2,h3,h4,h5,h6,h7,h8,h9,h10,h11,h12,h13,h14⟩
 ·rcases h with h|h|h|h|h|h|h|h|h|h|h|h|h|h|h
  all_goals
   unfold vM xK
   simp[h,aBt,abT,hr]
 ·have e:xK x.op=[]:=by
   unfold xK
   rw[if_neg h0,if_neg h1,if_neg (by omega),if_neg (by omega),if_neg h9,if_neg h10]
  have e2:vM x len=false:=by
   unfold vM
   rw[if_neg h0,if_neg h1,if_neg (by omega),if_neg (by omega),if_neg h9,if_neg h10]
  rw[e,e2]
  rfl
end
section
open Go.RowKit Go.Lib
theorem ahg (op:Int):(xK op).length≤3:=by
 unfold xK
 repeat' split
 all_goals simp
theorem Kk (op:Int): ∀b∈xK op,b.toNat<128:=by
 unfold xK
 repeat' split
 all_goals simp
theorem abO (ch:UInt8) (n len:Int):(aBt ch n len=false∧((ch.toNat=114∧n<0)∨(ch.toNat=114∧ ¬n<0∧7<n)∨(ch.toNat=112∧n<0)∨(ch.toNat=112∧ ¬n<0∧len<n)))∨
  (aBt ch n len=true∧((ch.toNat=114∧ ¬n<0∧ ¬7<n)∨(ch.toNat=112∧ ¬n<0∧ ¬len<n)∨(ch.toNat≠114∧ch.toNat≠112))):=by
 unfold aBt rgB plB
 by_cases h1:ch=114
 ·subst h1
  by_cases h2:n<0
  ·left;simp;omega
  ·by_cases h3:7<n
   ·left;simp;omega
   ·right;simp;omega
 ·by_cases h2:ch=112
  ·subst h2
   by_cases h2:n<0
   ·left;simp;omega
   ·by_cases h3:len<n
    ·left;simp;omega
    ·right;simp;omega
  ·right
   have e1:ch.toNat≠114:=fun h=>h1 (UInt8.toNat_inj.1 h)
   have e2:ch.toNat≠112:=fun h=>h2 (UInt8.toNat_inj.1 h)
   simp[h1,h2,e1,e2]
theorem aBg (x:In) (len:Int) (w:World):
  Calls Tryz.prog 142 #[.agg #[.int .i64 x.op,.int .i64 x.a,.int .i64 x.b,.int .i64 x.c],.int .i64 len] w fun r w'=>r= .returned (.bool (vM x len))∧Below w.heap.size w w':=by
 obtain⟨W1,hW1⟩: ∃W1,W1=(w.alloc (.cells #[.int .i64 x.op,.int .i64 x.a,.int .i64 x.b,.int .i64 x.c] 84)).alloc (.cells #[.int .i64 x.a,.int .i64 x.b,.int .i64 x.c] 256):=⟨_,rfl⟩
 have hb1:Below w.heap.size w W1:=by rw[hW1];exact((Below.refl _ w).alloc (Nat.le_refl _) _).alloc (by simp) _
 have hP:Blk W1 (w.heap.size+1) 256 #[.int .i64 x.a,.int .i64 x.b,.int .i64 x.c]:=by rw[hW1];simpa using Blk.new (w.alloc (.cells #[.int .i64 x.op,.int .i64 x.a,.int .i64 x.b,.int .i64 x.c] 84)) 256 #[.int .i64 x.a,.int .i64 x.b,.int .i64 x.c]
 obtain⟨s,hs⟩: ∃s:ByteArray,s=S (xK x.op):=⟨_,rfl⟩
 have hsz:s.size=(xK x.op).length:=by rw[hs];rfl
 have hl3:=ahg x.op
 have HI:Hid (∀p,Below w.heap.size w (W1.iter s p)∧ ∀j,j<3→(W1.iter s p).cell? ⟨w.heap.size+1,j,none⟩=some (.int .i64 (abT x j))):=hid fun p=>by
  refine⟨hb1.alloc (hb1.size) _,fun j hj=>?_⟩
  have:=(hP.alloc (.stringIter s p)).cell j
  match j,hj with
  |0,_=>exact this
  |1,_=>exact this
  |2,_=>exact this
 have HN:=hid (fun W=>ahh x.op W)
 have hz:W1.heap.size=w.heap.size+1+1:=by rw[hW1];simp
 obtain⟨r0,hr0⟩: ∃r,r=vM x len:=⟨_,rfl⟩
 rw[←hr0]
 have HR:=hid (hr0.trans (ai6 x len))
 rw[←hs]at HN
 have HS:=hid (⟨hs,hl3⟩:_∧_)
 have HW1:=hid hW1
 have HZ1:=hid hz
 have HNX:Hid (∀(j:Nat) (h:j<s.size) (ty:TypeId),(Instr.next (.pointer (some ⟨w.heap.size+1+1,0,none⟩)) true ty).run Tryz.prog (W1.iter s j)= .ok (.tuple #[.bool true,.int .i64 j,.int .i32 ((xK x.op).getD j 0).toNat]) (W1.iter s (j+1))):=hid fun j h ty=>by
  have e:s[j]'h=(xK x.op).getD j 0:=by
   have h':j<(xK x.op).length:=by rw[←hsz];exact h
   subst hs
   rw[List.getD_eq_getElem?_getD,List.getElem?_eq_getElem h']
   rfl
  have:=run_next_ascii (P:=Tryz.prog) W1 s j ty h (by rw[e,List.getD_eq_getElem?_getD,List.getElem?_eq_getElem (by rw[←hsz];exact h)];exact Kk _ _ (List.getElem_mem _))
  rw[e,hz]at this
  exact this
 have hne:Tryz.prog.underlying 9=some .string:=by kernel_rfl
 have hrg:=run_range_string (P:=Tryz.prog) W1 9 s hne
 clear hr0 hs hW1 hb1 hP hne hz
 go_enter Tryz.func142,Tryz.ntmps142
 go_wp2_with ((with_reducible refine(HN.out _).mono ?_);rintro r w' ⟨rfl,rfl⟩)
 rw[←HW1.out]
 have HSZ:=hid hsz
 obtain⟨m,hm⟩: ∃m,m=s.size:=⟨_,rfl⟩
 have hm3:m≤3:=by omega
 have HM:=hid hm
 clear hsz hm hl3 hrg
 go_loopg [7] (m+1) (fun gg s7 wr=> ∃j,j≤m∧m+1-j≤gg∧Hid (∀i,i<j→aBt ((xK x.op).getD i 0) (abT x i) len=true)∧W1.iter s j=wr)
 case atStart=>exact⟨0,by omega,by omega,hid (fun i hi=>absurd hi (by omega)),rfl⟩
 case round=>
  obtain⟨j,hj,hgg,HJ,hwr⟩:=hrel
  subst hwr
  by_cases hjm:j<m
  ·have hnx:=HNX.out j (by rw[←HM.out];exact hjm)
   obtain⟨c,hc⟩: ∃c,c=(xK x.op).getD j 0:=⟨_,rfl⟩
   obtain⟨n,hn⟩: ∃n,n=abT x j:=⟨_,rfl⟩
   have hp:=(HI.out (j+1)).2 j (by omega)
   rw[←hc]at hnx
   rw[←hn]at hp
   have hj3:(j:Int)<3:=by omega
   have hj0:(0:Int)≤(j:Int):=by omega
   obtain⟨hmB,hcs⟩ | ⟨hmB,hcs⟩:=abO c n len
   ·have HZ:Hid (r0=false):=hid (by
     rw[HR.out,Bool.and_eq_false_iff]
     right
     rw[List.all_eq_false]
     exact⟨j,List.mem_range.2 (by rw[←HSZ.out,←HM.out];exact hjm),by rw[←hc,←hn,hmB];simp⟩)
    have HQ:=hid (HI.out (j+1)).1
    clear hmB hc hn hjm
    rcases hcs with⟨h1,h2⟩ | ⟨h1,h2,h3⟩ | ⟨h1,h2⟩ | ⟨h1,h2,h3⟩
    all_goals
     rw[h1]at hnx
     clear h1
     go_wp2
     go_ret
     rw[HZ.out]
     exact⟨rfl,HQ.out⟩
   ·have HJ2:Hid (∀i,i<j+1→aBt ((xK x.op).getD i 0) (abT x i) len=true):=hid fun i hi=>by
     by_cases e:i=j
     ·rw[e,←hc,←hn];exact hmB
     ·exact HJ.out i (by omega)
    clear hmB hc hn
    rcases hcs with⟨h1,h2,h3⟩ | ⟨h1,h2,h3⟩ | ⟨h1,h2⟩
    ·rw[h1]at hnx
     clear h1
     go_wp2
     go_roundg (m+1- (j+1))
     case measure=>omega
     case rel=>exact⟨j+1,by omega,by omega,HJ2,rfl⟩
    ·rw[h1]at hnx
     clear h1
     go_wp2
     go_roundg (m+1- (j+1))
     case measure=>omega
     case rel=>exact⟨j+1,by omega,by omega,HJ2,rfl⟩
    ·have e1:((c.toNat:Int)==114)=false:=beq_eq_false_iff_ne.2 (by omega)
     have e2:((c.toNat:Int)==112)=false:=beq_eq_false_iff_ne.2 (by omega)
     clear h1 h2
     go_wp2
     go_roundg (m+1- (j+1))
     case measure=>omega
     case rel=>exact⟨j+1,by omega,by omega,HJ2,rfl⟩
  ·have hnx: ∀ty,(Instr.next (.pointer (some ⟨w.heap.size+1+1,0,none⟩)) true ty).run Tryz.prog (W1.iter s j)= .ok (.tuple #[.bool false]) (W1.iter s j):=fun ty=>by
    have:=run_next_end (P:=Tryz.prog) W1 s j ty (by rw[←HM.out];exact hjm)
    rwa[HZ1.out]at this
   have HQ:=hid (HI.out j).1
   have HZ:Hid (r0= !(xK x.op).isEmpty):=hid (by
    rw[HR.out,(List.all_eq_true.2 fun i hi=>HJ.out i (by have:=List.mem_range.1 hi;rw[←HSZ.out,←HM.out]at this;omega)),Bool.and_true])
   have HE:Hid (s.toList=xK x.op):=hid (by rw[HS.out.1,aiv])
   go_wp2
   go_ret
   rw[HZ.out,←HE.out]
   exact⟨rfl,HQ.out⟩
end
section
open Go.RowKit Go.Lib
section
variable {W:World} {q:Option Addr} {n c:Nat} {l:List In}
theorem aMu (hv:Vw 4 inC W (.slice q n c) l) {j:Nat} {x:In} (hx:l[j]? =some x): ∃b o,q=some ⟨b,o,none⟩∧ ∀W',Below W.heap.size W W'→W'.cell? ⟨b,o+j*4,none⟩=some (.int .i64 x.op)∧W'.cell? ⟨b,o+j*4+1,none⟩=some (.int .i64 x.a)∧W'.cell? ⟨b,o+j*4+2,none⟩=some (.int .i64 x.b)∧W'.cell? ⟨b,o+j*4+3,none⟩=some (.int .i64 x.c):=by
 obtain⟨b,o,c',e,_,hb,k⟩:=hv.ex (by intro e;rw[e]at hx;simp at hx)
 injection e with e1 _ _
 refine⟨b,o,e1,fun W' hW=>?_⟩
 have e: ∀i,W'.cell? ⟨b,i,none⟩=W.cell? ⟨b,i,none⟩:=fun i=>hW.cell (p:=⟨b,i,none⟩) hb
 simp only[e]
 exact⟨k j x hx 0 _ rfl,k j x hx 1 _ rfl,k j x hx 2 _ rfl,k j x hx 3 _ rfl⟩
theorem ahx {g:Nat} {T:TypeId} (hg:Blk W g T #[.slice q n c]) (x:In):
  Calls Tryz.prog 141 #[.agg #[.int .i64 x.op,.int .i64 x.a,.int .i64 x.b,.int .i64 x.c],.pointer (some ⟨g,0,none⟩)] W fun r w'=>r= .returned (.bool (vM x n))∧Below W.heap.size W w':=by
 have HB:=hid ((Below.refl _ W).alloc (Nat.le_refl _) (.cells #[.int .i64 x.op,.int .i64 x.a,.int .i64 x.b,.int .i64 x.c] 84))
 have c0:(W.alloc (.cells #[.int .i64 x.op,.int .i64 x.a,.int .i64 x.b,.int .i64 x.c] 84)).cell? ⟨g,0,none⟩=some (.slice q n c):=(hg.alloc _).cell 0
 have HI:=hid (fun W=>aBg x n W)
 clear hg
 go_enter Tryz.func141,Tryz.ntmps141
 go_wp2_with fail
 (with_reducible refine(HI.out _).mono ?_)
 rintro r w1 ⟨rfl,hb1⟩
 have HF:=hid (HB.out.trans (hb1.mono (by simp)))
 clear hb1
 go_wp2
 go_ret
 exact⟨rfl,HF.out⟩
theorem Kr (hv:Vw 4 inC W (.slice q n c) l) (hn:n=l.length) (hnb:n≤1000):
  Calls Tryz.prog 108 #[.slice q n c] W fun r w'=>r= .returned (.bool (xf l))∧Below W.heap.size W w':=by
 obtain⟨W1,hW1⟩: ∃W1,W1=W.alloc (.cells #[.slice q n c] 85):=⟨_,rfl⟩
 have hb1:Below W.heap.size W W1:=by rw[hW1];exact(Below.refl _ W).alloc (Nat.le_refl _) _
 have hB1:Blk W1 W.heap.size 85 #[.slice q n c]:=by rw[hW1];exact Blk.new W _ _
 have HB:Hid (∀W',Below W1.heap.size W1 W'→Blk W' W.heap.size 85 #[.slice q n c]∧Below W.heap.size W W'):=hid fun W' hW=>⟨hB1.below hW hB1.lt,hb1.trans (hW.mono hb1.size)⟩
 have hmf: ∀(fn:Fn) (first cap:Array Value) (w:World),(Instr.makeFunc fn first cap).run Tryz.prog w= .ok (.func fn first cap) w:=fun _ _ _ _=>rfl
 obtain⟨r0,hr0⟩: ∃r,r=xf l:=⟨_,rfl⟩
 rw[←hr0]
 have HR:=hid hr0
 have HV:=hid (⟨hv,hn⟩:_∧_)
 have HW1:=hid hW1
 have c0:W1.cell? ⟨W.heap.size,0,none⟩=some (.slice q n c):=hB1.cell 0
 have HWN:=hid (fun W=>qG n 1 48 W)
 clear hr0 hv hn hW1 hb1 hB1
 go_enter Tryz.func108,Tryz.ntmps108
 go_wp2
 rw[←HW1.out]
 go_loopg [9] (n+1) (fun gg s9 wr=> ∃j:Nat,j≤n∧n+1-j≤gg∧s9= .int .i64 j∧Hid ((l.take j).all (fun x=>vM x l.length)=true)∧Hid (Below W1.heap.size W1 wr))
 case atStart=>exact⟨0,by omega,by omega,rfl,hid (by simp),hid (Below.refl _ _)⟩
 case round=>
  obtain⟨j,hj,hgg,rfl,HJ,HBW⟩:=hrel
  by_cases hjn:j<n
  ·obtain⟨x,hx⟩: ∃x,l[j]? =some x:=⟨_,List.getElem?_eq_getElem (by rw[←HV.out.2];exact hjn)⟩
   obtain⟨b,o,rfl,hxc⟩:=aMu HV.out.1 hx
   obtain⟨x0,x1,x2,x3⟩:=hxc wr (HB.out _ HBW.out).2
   have hji:(j:Int)<(n:Int):=by omega
   have hnz:(n:Int)≤1000:=by omega
   obtain⟨wo,hwo⟩: ∃wo,wo=wr.alloc (.cells #[.int .i64 x.op,.int .i64 x.a,.int .i64 x.b,.int .i64 x.c] 84):=⟨_,rfl⟩
   have hbo:Below W1.heap.size W1 wo:=by rw[hwo];exact HBW.out.alloc HBW.out.size _
   have HP:=hid (ahx (HB.out _ hbo).1 x)
   have HJN:=hid hjn
   have HX:=hid hx
   have HWO:=hid hwo
   have HBO:=hid hbo
   clear hx hxc hwo hbo
   go_wp2_with fail
   rw[←HWO.out]
   (with_reducible refine HP.out.mono ?_)
   rintro r w1 ⟨rfl,hb1⟩
   obtain⟨go,hgo⟩: ∃go,go=vM x n:=⟨_,rfl⟩
   rw[←hgo]
   have HG:=hid (⟨hgo,HBO.out.trans (hb1.mono HBO.out.size)⟩:_∧_)
   clear hgo hb1 x0 x1 x2 x3
   cases go with
   |true=>
    have HJ2:Hid ((l.take (j+1)).all (fun x=>vM x l.length)=true):=hid (by rw[zD _ HX.out,HJ.out,←HV.out.2,←HG.out.1];rfl)
    go_wp2
    go_roundg (n+1- (j+1))
    case measure=>omega
    case rel=>exact⟨j+1,by have:=HJN.out;omega,by omega,by go_num,HJ2,hid HG.out.2⟩
   |false=>
    have HZ:Hid (r0=false):=hid (by rw[HR.out];unfold xf;rw[yU HX.out (by rw[←HV.out.2,←HG.out.1]),Bool.false_and])
    go_wp2
    go_ret
    rw[HZ.out]
    exact⟨rfl,(HB.out _ HG.out.2).2⟩
  ·have hji: ¬(j:Int)<(n:Int):=by omega
   have HZ:Hid (r0=decide ((1:Int)≤n∧(n:Int)≤48)):=hid (by
    have h1:=HJ.out
    rw[List.take_of_length_le (by rw[←HV.out.2];omega)]at h1
    rw[HR.out]
    unfold xf
    rw[h1,Bool.true_and,←HV.out.2,←Bool.decide_and]
    exact decide_eq_decide.2 (by omega))
   have HWN2:Hid (∀W',Calls Tryz.prog 109 #[.int .i64 n,.int .i64 1,.int .i64 48] W' fun r w'=>r= .returned (.bool r0)∧W'=w'):=hid fun W'=>by rw[HZ.out];exact HWN.out W'
   have c1:wr.cell? ⟨W.heap.size,0,none⟩=some (.slice q n c):=(HB.out _ HBW.out).1.cell 0
   go_wp2_with ((with_reducible refine(HWN2.out _).mono ?_);rintro r w' ⟨rfl,rfl⟩)
   go_ret
   exact⟨rfl,(HB.out _ HBW.out).2⟩
end
end
section
open Go.RowKit Go.Lib
theorem qt {α:Type} {f:α→α→Bool} : ∀ {l r:List α},vX f l r=true→l.length=r.length∧ ∀(j:Nat) (a:α),l[j]? =some a→ ∃b,r[j]? =some b∧f a b=true
 | [],[],_=>⟨rfl,fun j a h=>by cases h⟩
 |a::l,b::r,h=>by
  simp only[vX,Bool.and_eq_true]at h
  obtain⟨h1,h2⟩:=qt h.2
  refine⟨by simp[h1],fun j x hx=>?_⟩
  cases j with
  |zero=>simp at hx;subst hx;exact⟨b,rfl,h.1⟩
  |succ j=>exact h2 j x hx
 | [],_::_,h=>by cases h
 |_::_,[],h=>by cases h
theorem qL {a b:Nat} (h:YP a b=true) (W:World):Calls Tryz.prog 57 #[.float .f64 a,.float .f64 b] W fun r w'=>r= .returned (.bool true)∧W=w':=by
 unfold YP at h
 cases ha:jm a with
 |true=>
  rw[ha]at h
  simp only[Bool.true_or,if_true,Bool.true_and]at h
  go_enter Tryz.func57,Tryz.ntmps57
  go_wp2
  go_ret
  exact⟨rfl,rfl⟩
 | false=>
  cases hb:jm b with
  |true=>
   rw[ha,hb]at h
   cases h
  |false=>
   rw[ha,hb]at h
   simp only[Bool.or_self,Bool.false_eq_true,if_false,decide_eq_true_eq]at h
   subst h
   go_enter Tryz.func57,Tryz.ntmps57
   go_wp2
   go_ret
   exact⟨rfl,rfl⟩
theorem JF {w:World} {p1 p2:Option Addr} {n c1 c2:Nat} {l:List Int} (h1:Vw 1 wdC w (.slice p1 n c1) l) (h2:Vw 1 wdC w (.slice p2 n c2) l) (hn:n=l.length) (hl:n≤1000):
  Calls Tryz.prog 58 #[.slice p1 n c1,.slice p2 n c2] w fun r w'=>r= .returned (.bool true)∧Below w.heap.size w w':=by
 have hli:(n:Int)≤1000:=by omega
 have HG:=hid (⟨h1,h2,hn⟩:_∧_∧_)
 clear h1 h2 hn hl
 go_enter Tryz.func58,Tryz.ntmps58
 go_wp2
 go_loopg [5] n (fun gg s5 wr=> ∃j:Nat,j≤n∧n-j≤gg∧s5= .int .i64 j∧Hid (Below w.heap.size w wr))
 case atStart=>exact⟨0,by omega,by omega,rfl,hid (Below.refl _ _)⟩
 case round=>
  obtain⟨j,hj,hgg,rfl,HI⟩:=hrel
  by_cases hje:j<n
  ·obtain⟨x,hx⟩: ∃x,l[j]? =some x:=⟨_,List.getElem?_eq_getElem (by rw[←HG.out.2.2];exact hje)⟩
   have hne:l≠[]:=by rintro rfl;simp at hx
   obtain⟨b1,o1,_,e1,_,hb1,k1⟩:=HG.out.1.ex hne
   obtain⟨b2,o2,_,e2,_,hb2,k2⟩:=HG.out.2.1.ex hne
   injection e1 with e1 e3 e4
   injection e2 with e2 e5 e6
   subst e1 e2
   clear e3 e4 e5 e6
   have q1:=k1 j x hx 0 _ rfl
   have q2:=k2 j x hx 0 _ rfl
   rw[Nat.mul_one,Nat.add_zero]at q1 q2
   have r1:wr.cell? ⟨b1,o1+j,none⟩=some (.int .i64 x):=(World.cell?_of_block (HI.out.block b1 hb1)).trans q1
   have r2:wr.cell? ⟨b2,o2+j,none⟩=some (.int .i64 x):=(World.cell?_of_block (HI.out.block b2 hb2)).trans q2
   have HJ:=hid hje
   have hji:(j:Int)<(n:Int):=by omega
   clear hx hne k1 k2 hb1 hb2 q1 q2
   go_upto_region 6 with fail
   refine zB (fun W'=>W'.cell? ⟨b1,o1+j,none⟩=some (.int .i64 x)∧W'.cell? ⟨b2,o2+j,none⟩=some (.int .i64 x)) 8 (by kernel_rfl) ⟨r1,r2⟩ (fun hHeld=>?_)
   refine eT 0 hHeld ?_;(try simp only[Act.put,sEa,sEb,sEc]);refine eT 1 hHeld ?_;(try simp only[Act.put,sEa,sEb,sEc]);refine eT 2 hHeld ?_;(try simp only[Act.put,sEa,sEb,sEc]);refine eT 3 hHeld ?_;(try simp only[Act.put,sEa,sEb,sEc]);refine eT 4 hHeld ?_;(try simp only[Act.put,sEa,sEb,sEc]);refine eT 5 hHeld ?_;(try simp only[Act.put,sEa,sEb,sEc]);refine eT 6 hHeld ?_;(try simp only[Act.put,sEa,sEb,sEc]);refine eT 7 hHeld ?_;(try simp only[Act.put,sEa,sEb,sEc]);refine eL (fun K hK=>?_);go_simp;refine hK.out _ _ ?_;clear hK K;(try simp only[Act.put,sEa,sEb,sEc])
   go_wp2
   go_roundg (n- (j+1))
   case measure=>have:=HJ.out;omega
   case rel=>exact⟨j+1,by have:=HJ.out;omega,by omega,by go_num,hid HI.out.drew⟩
  ·have hji: ¬(j:Int)<(n:Int):=by omega
   go_wp2
   go_ret
   exact⟨rfl,HI.out⟩
end
section
open Go.RowKit Go.Lib
theorem Vw.elt {α:Type} {k:Nat} {enc:α→List Value} {W:World} {p:Option Addr} {n c:Nat} {l:List α} (h:Vw k enc W (.slice p n c) l) {j:Nat} {a:α} (ha:l[j]? =some a): ∃b o,p=some ⟨b,o,none⟩∧ ∀W',Below W.heap.size W W'→ ∀q u,(enc a)[q]? =some u→W'.cell? ⟨b,o+j*k+q,none⟩=some u:=by
 obtain⟨b,o,c',e1,e2,e3,e4⟩:=h.ex (by rintro rfl;simp at ha)
 injection e1 with e1
 exact⟨b,o,e1,fun W' hb q u hu=>(World.cell?_of_block (hb.block b e3)).trans (e4 j a ha q u hu)⟩
theorem ahU {a b:In} (h:aa0 a b=true):a=b:=by
 unfold aa0 at h
 simp only[Bool.and_eq_true,decide_eq_true_eq]at h
 obtain⟨a1,a2,a3,a4⟩:=a
 obtain⟨b1,b2,b3,b4⟩:=b
 simp only at h
 obtain⟨rfl,rfl,rfl,rfl⟩:=h
 rfl
theorem QA {α:Type} {f:α→α→Bool} (hf: ∀a b,f a b=true→a=b): ∀ {l r:List α},vX f l r=true→l=r
 | [],[],_=>rfl
 |a::l,b::r,h=>by
  simp only[vX,Bool.and_eq_true]at h
  rw[hf _ _ h.1,QA hf h.2]
 | [],_::_,h=>by cases h
 |_::_,[],h=>by cases h
structure SmM (W:World) (dp dp':Option Addr) (dn:Nat) (pp pp':Option Addr) (pn:Nat) (lp lp':Option Addr) (ln:Nat) (ip ip':Option Addr) (im:Nat):Prop where
 d: ∀j,j<dn→ ∃a b g1 o1 g2 o2,dp=some ⟨g1,o1,none⟩∧dp'=some ⟨g2,o2,none⟩∧YP a b=true∧ ∀W',Below W.heap.size W W'→W'.cell? ⟨g1,o1+j,none⟩=some (.float .f64 a)∧W'.cell? ⟨g2,o2+j,none⟩=some (.float .f64 b)
 p : ∀j,j<pn→ ∃(p:Option Addr) (n c:Nat) (p':Option Addr) (c' g1 o1 g2 o2:Nat),pp=some ⟨g1,o1,none⟩∧pp'=some ⟨g2,o2,none⟩∧n≤1000∧(∀W',Below W.heap.size W W'→W'.cell? ⟨g1,o1+j,none⟩=some (.slice p n c)∧W'.cell? ⟨g2,o2+j,none⟩=some (.slice p' n c'))∧
  ∀i,i<n→ ∃(x:In) (b1 q1 b2 q2:Nat),p=some ⟨b1,q1,none⟩∧p'=some ⟨b2,q2,none⟩∧ ∀W',Below W.heap.size W W'→(W'.cell? ⟨b1,q1+i*4,none⟩=some (.int .i64 x.op)∧W'.cell? ⟨b1,q1+i*4+1,none⟩=some (.int .i64 x.a)∧W'.cell? ⟨b1,q1+i*4+2,none⟩=some (.int .i64 x.b)∧W'.cell? ⟨b1,q1+i*4+3,none⟩=some (.int .i64 x.c))∧
   (W'.cell? ⟨b2,q2+i*4,none⟩=some (.int .i64 x.op)∧W'.cell? ⟨b2,q2+i*4+1,none⟩=some (.int .i64 x.a)∧W'.cell? ⟨b2,q2+i*4+2,none⟩=some (.int .i64 x.b)∧W'.cell? ⟨b2,q2+i*4+3,none⟩=some (.int .i64 x.c))
 l: ∀j,j<ln→ ∃(k:Int) (l:List Int) (p:Option Addr) (n c:Nat) (p':Option Addr) (c' g1 o1 g2 o2:Nat),lp=some ⟨g1,o1,none⟩∧lp'=some ⟨g2,o2,none⟩∧n=l.length∧n≤1000∧ ∀W',Below W.heap.size W W'→(W'.cell? ⟨g1,o1+j*2,none⟩=some (.int .i64 k)∧W'.cell? ⟨g1,o1+j*2+1,none⟩=some (.slice p n c)∧W'.cell? ⟨g2,o2+j*2,none⟩=some (.int .i64 k)∧W'.cell? ⟨g2,o2+j*2+1,none⟩=some (.slice p' n c'))∧Vw 1 wdC W' (.slice p n c) l∧Vw 1 wdC W' (.slice p' n c') l
 i: ∀j,j<im→ ∃(a b:Nat) (d y:Int) (g1 o1 g2 o2:Nat),ip=some ⟨g1,o1,none⟩∧ip'=some ⟨g2,o2,none⟩∧YP a b=true∧ ∀W',Below W.heap.size W W'→(W'.cell? ⟨g1,o1+j*3,none⟩=some (.float .f64 a)∧W'.cell? ⟨g1,o1+j*3+1,none⟩=some (.int .i64 d)∧W'.cell? ⟨g1,o1+j*3+2,none⟩=some (.int .i64 y))∧(W'.cell? ⟨g2,o2+j*3,none⟩=some (.float .f64 b)∧W'.cell? ⟨g2,o2+j*3+1,none⟩=some (.int .i64 d)∧W'.cell? ⟨g2,o2+j*3+2,none⟩=some (.int .i64 y))
theorem aSc {W:World} {x y:MdV} (hx:qZ W x) (hy:qZ W y) (h:ab1 x.m y.m=true) (hp: ∀q∈x.ps,q.n≤1000) (hl: ∀q∈x.ls,q.n≤1000):
  (x.seed=y.seed∧YP x.en y.en=true∧x.dn=y.dn∧x.pn=y.pn∧x.ln=y.ln∧x.im=y.im)∧SmM W x.dp y.dp x.dn x.pp y.pp x.pn x.lp y.lp x.ln x.ip y.ip x.im:=by
 unfold ab1 MdV.m at h
 simp only[Bool.and_eq_true,decide_eq_true_eq]at h
 obtain⟨h1,h2,h3,h4,h5,h6⟩:=h
 obtain⟨d1,d2⟩:=qt h3
 obtain⟨p1,p2⟩:=qt h4
 obtain⟨l1,l2⟩:=qt h5
 obtain⟨i1,i2⟩:=qt h6
 rw[List.length_map,List.length_map]at p1 l1
 refine⟨⟨h1,h2,by rw[hx.dn,hy.dn,d1],by rw[hx.pn,hy.pn,p1],by rw[hx.ln,hy.ln,l1],by rw[hx.im,hy.im,i1]⟩,⟨fun j hj=>?_,fun j hj=>?_,fun j hj=>?_,fun j hj=>?_⟩⟩
 ·obtain⟨a,ha⟩: ∃a,x.dl[j]? =some a:=⟨_,List.getElem?_eq_getElem (by rw[←hx.dn];exact hj)⟩
  obtain⟨b,hb,hs⟩:=d2 j a ha
  obtain⟨g1,o1,e1,k1⟩:=hx.d.elt ha
  obtain⟨g2,o2,e2,k2⟩:=hy.d.elt hb
  exact⟨a,b,g1,o1,g2,o2,e1,e2,hs,fun W' hb=>⟨by have:=k1 W' hb 0 _ rfl;simpa using this,by have:=k2 W' hb 0 _ rfl;simpa using this⟩⟩
 ·obtain⟨a,ha⟩: ∃a,x.ps[j]? =some a:=⟨_,List.getElem?_eq_getElem (by rw[←hx.pn];exact hj)⟩
  obtain⟨l',hl',hs⟩:=p2 j a.l (by rw[List.getElem?_map,ha];rfl)
  rw[List.getElem?_map,Option.map_eq_some_iff]at hl'
  obtain⟨b,hb,rfl⟩:=hl'
  have hll:a.l=b.l:=QA (fun _ _=>ahU) hs
  obtain⟨g1,o1,e1,k1⟩:=hx.p.elt ha
  obtain⟨g2,o2,e2,k2⟩:=hy.p.elt hb
  have qa:=hx.pi a (List.mem_of_getElem? ha)
  have qb:=hy.pi b (List.mem_of_getElem? hb)
  have hn:b.n=a.n:=by rw[qa.1,qb.1,hll]
  refine⟨a.p,a.n,a.c,b.p,b.c,g1,o1,g2,o2,e1,e2,hp a (List.mem_of_getElem? ha),fun W' hb=>⟨by have:=k1 W' hb 0 _ rfl;simpa using this,by have:=k2 W' hb 0 _ rfl;rw[←hn];simpa using this⟩,fun i hi=>?_⟩
  obtain⟨z,hz⟩: ∃z,a.l[i]? =some z:=⟨_,List.getElem?_eq_getElem (by rw[←qa.1];exact hi)⟩
  obtain⟨b1,q1,f1,m1⟩:=qa.2.elt hz
  obtain⟨b2,q2,f2,m2⟩:=qb.2.elt (hll▸hz)
  exact⟨z,b1,q1,b2,q2,f1,f2,fun W' hb=>⟨⟨m1 W' hb 0 _ rfl,m1 W' hb 1 _ rfl,m1 W' hb 2 _ rfl,m1 W' hb 3 _ rfl⟩,⟨m2 W' hb 0 _ rfl,m2 W' hb 1 _ rfl,m2 W' hb 2 _ rfl,m2 W' hb 3 _ rfl⟩⟩⟩
 ·obtain⟨a,ha⟩: ∃a,x.ls[j]? =some a:=⟨_,List.getElem?_eq_getElem (by rw[←hx.ln];exact hj)⟩
  obtain⟨l',hl',hs⟩:=l2 j (a.k,a.l) (by rw[List.getElem?_map,ha];rfl)
  rw[List.getElem?_map,Option.map_eq_some_iff]at hl'
  obtain⟨b,hb,rfl⟩:=hl'
  unfold ahV at hs
  simp only[Bool.and_eq_true,decide_eq_true_eq]at hs
  have hk:a.k=b.k:=hs.1
  have hll:a.l=b.l:=QA (fun _ _ h=>of_decide_eq_true h) hs.2
  obtain⟨g1,o1,e1,k1⟩:=hx.l.elt ha
  obtain⟨g2,o2,e2,k2⟩:=hy.l.elt hb
  have qa:=hx.li a (List.mem_of_getElem? ha)
  have qb:=hy.li b (List.mem_of_getElem? hb)
  have hn:b.n=a.n:=by rw[qa.1,qb.1,hll]
  refine⟨a.k,a.l,a.p,a.n,a.c,b.p,b.c,g1,o1,g2,o2,e1,e2,qa.1,hl a (List.mem_of_getElem? ha),fun W' hb=>⟨⟨k1 W' hb 0 _ rfl,k1 W' hb 1 _ rfl,by rw[hk];exact k2 W' hb 0 _ rfl,by rw[←hn];exact k2 W' hb 1 _ rfl⟩,qa.2.below hb,?_⟩⟩
  have:=qb.2.below hb
  rw[←hll,hn]at this
  exact this
 ·obtain⟨a,ha⟩: ∃a,x.is[j]? =some a:=⟨_,List.getElem?_eq_getElem (by rw[←hx.im];exact hj)⟩
  obtain⟨b,hb,hs⟩:=i2 j a ha
  unfold KB at hs
  simp only[Bool.and_eq_true,decide_eq_true_eq]at hs
  obtain⟨g1,o1,e1,k1⟩:=hx.i.elt ha
  obtain⟨g2,o2,e2,k2⟩:=hy.i.elt hb
  exact⟨a.t,b.t,a.dst,a.pay,g1,o1,g2,o2,e1,e2,hs.1,fun W' hb=>⟨⟨k1 W' hb 0 _ rfl,k1 W' hb 1 _ rfl,k1 W' hb 2 _ rfl⟩,⟨k2 W' hb 0 _ rfl,by rw[hs.2.1];exact k2 W' hb 1 _ rfl,by rw[hs.2.2];exact k2 W' hb 2 _ rfl⟩⟩⟩
end
section
open Go.RowKit Go.Lib
theorem JG {W:World} {x y:MdV} (hx:qZ W x) (hy:qZ W y) (h:ab1 x.m y.m=true) (h1:x.dn≤1000) (h2:x.pn≤1000) (h3:x.ln≤1000) (h4:x.im≤1000) (hp: ∀q∈x.ps,q.n≤1000) (hl: ∀q∈x.ls,q.n≤1000):
  Calls Tryz.prog 26 #[.agg (mdC x).toArray,.agg (mdC y).toArray] W fun r w'=>r= .returned (.bool true)∧Below W.heap.size W w':=by
 obtain⟨⟨e1,e2,e3,e4,e5,e6⟩,hs⟩:=aSc hx hy h hp hl
 obtain⟨sd,en,dp,dn,dc,dl,pp,pn,pc,ps,lp,ln,lc,ls,ip,im,ic,is⟩:=x
 obtain⟨sd',en',dp',dn',dc',dl',pp',pn',pc',ps',lp',ln',lc',ls',ip',im',ic',is'⟩:=y
 dsimp only at e1 e2 e3 e4 e5 e6 h1 h2 h3 h4 hs
 subst e1 e3 e4 e5 e6
 clear hx hy h hp hl
 obtain⟨bx,hbx⟩: ∃k,k=W.heap.size:=⟨_,rfl⟩
 obtain⟨by',hby⟩: ∃k,k=W.heap.size+1:=⟨_,rfl⟩
 obtain⟨W1,hW1⟩: ∃w,w=(W.alloc (.cells #[.int .i64 sd,.float .f64 en,.slice dp dn dc,.slice pp pn pc,.slice lp ln lc,.slice ip im ic] 29)).alloc (.cells #[.int .i64 sd,.float .f64 en',.slice dp' dn dc',.slice pp' pn pc',.slice lp' ln lc',.slice ip' im ic'] 29):=⟨_,rfl⟩
 have hb1:Below W.heap.size W W1:=by rw[hW1];exact((Below.refl _ W).alloc (Nat.le_refl _) _).alloc (by simp) _
 have hX:Blk W1 bx 29 #[.int .i64 sd,.float .f64 en,.slice dp dn dc,.slice pp pn pc,.slice lp ln lc,.slice ip im ic]:=by rw[hW1,hbx];exact(Blk.new W _ _).alloc _
 have hY:Blk W1 by' 29 #[.int .i64 sd,.float .f64 en',.slice dp' dn dc',.slice pp' pn pc',.slice lp' ln lc',.slice ip' im ic']:=by
  have:=Blk.new (W.alloc (.cells #[.int .i64 sd,.float .f64 en,.slice dp dn dc,.slice pp pn pc,.slice lp ln lc,.slice ip im ic] 29)) 29 #[.int .i64 sd,.float .f64 en',.slice dp' dn dc',.slice pp' pn pc',.slice lp' ln lc',.slice ip' im ic']
  rw[World.size_alloc]at this
  rw[hW1,hby]
  exact this
 have HC:Hid (∀W',Below W1.heap.size W1 W'→((W'.cell? ⟨bx,0,none⟩=some (.int .i64 sd)∧W'.cell? ⟨bx,1,none⟩=some (.float .f64 en)∧W'.cell? ⟨bx,2,none⟩=some (.slice dp dn dc)∧W'.cell? ⟨bx,3,none⟩=some (.slice pp pn pc)∧W'.cell? ⟨bx,4,none⟩=some (.slice lp ln lc)∧W'.cell? ⟨bx,5,none⟩=some (.slice ip im ic))∧
   (W'.cell? ⟨by',0,none⟩=some (.int .i64 sd)∧W'.cell? ⟨by',1,none⟩=some (.float .f64 en')∧W'.cell? ⟨by',2,none⟩=some (.slice dp' dn dc')∧W'.cell? ⟨by',3,none⟩=some (.slice pp' pn pc')∧W'.cell? ⟨by',4,none⟩=some (.slice lp' ln lc')∧W'.cell? ⟨by',5,none⟩=some (.slice ip' im ic')))∧Below W.heap.size W W'):=hid fun W' hb=>by
  have hX2:=hX.below hb hX.lt
  have hY2:=hY.below hb hY.lt
  exact⟨⟨⟨hX2.cell 0,hX2.cell 1,hX2.cell 2,hX2.cell 3,hX2.cell 4,hX2.cell 5⟩,⟨hY2.cell 0,hY2.cell 1,hY2.cell 2,hY2.cell 3,hY2.cell 4,hY2.cell 5⟩⟩,hb1.trans (hb.mono hb1.size)⟩
 have HF:=hid (fun w=>qL e2 w)
 have HS:=hid hs
 have HN:=hid (⟨h1,h2,h3,h4⟩:_∧_∧_∧_)
 have HW:=hid (⟨hbx,hby,hW1⟩:_∧_∧_)
 unfold mdC
 obtain⟨⟨⟨x0,x1,x2,x3,x4,x5⟩,⟨y0,y1,y2,y3,y4,y5⟩⟩,_⟩:=HC.out W1 (Below.refl _ _)
 clear hbx hby hW1 hX hY hb1 hs e2 h1 h2 h3 h4
 go_enter Tryz.func26,Tryz.ntmps26
 go_upto_region 1 with fail
 rw[←HW.out.2.1,←HW.out.1,←HW.out.2.2]
 go_wp2_with fail
 (with_reducible refine(HF.out _).mono ?_)
 rintro r w2 ⟨rfl,rfl⟩
 go_wp2_with fail
 go_loopg [5] dn (fun gg s5 wr=> ∃j:Nat,j≤dn∧dn-j≤gg∧s5= .int .i64 j∧Hid (Below W1.heap.size W1 wr))
 case atStart=>exact⟨0,by omega,by omega,rfl,hid (Below.refl _ _)⟩
 case round=>
  obtain⟨j,hj,hgg,rfl,HB⟩:=hrel
  clear x0 x1 x2 x3 x4 x5 y0 y1 y2 y3 y4 y5
  obtain⟨⟨⟨x0,x1,x2,x3,x4,x5⟩,⟨y0,y1,y2,y3,y4,y5⟩⟩,_⟩:=HC.out wr HB.out
  have hdz:(dn:Int)≤1000:=by have:=HN.out.1;omega
  by_cases hje:j<dn
  ·obtain⟨a,b,g1,o1,g2,o2,rfl,rfl,hab,hcc⟩:=HS.out.d j hje
   have hcc:=hcc wr ((HC.out _ HB.out).2)
   have HFF:=hid (fun w=>qL hab w)
   have hji:(j:Int)<(dn:Int):=by omega
   have HJ:=hid hje
   clear hab
   obtain⟨u1,u2⟩:=hcc
   go_upto_region 6 with fail
   refine zB (fun W'=>W'.cell? ⟨bx,2,none⟩=some (.slice (some ⟨g1,o1,none⟩) dn dc)∧W'.cell? ⟨by',2,none⟩=some (.slice (some ⟨g2,o2,none⟩) dn dc')∧W'.cell? ⟨g1,o1+j,none⟩=some (.float .f64 a)∧W'.cell? ⟨g2,o2+j,none⟩=some (.float .f64 b)) 11 (by kernel_rfl) ⟨x2,y2,u1,u2⟩ (fun hHeld=>?_)
   refine eT 0 hHeld ?_;(try simp only[Act.put,sEa,sEb,sEc]);refine eT 1 hHeld ?_;(try simp only[Act.put,sEa,sEb,sEc]);refine eT 2 hHeld ?_;(try simp only[Act.put,sEa,sEb,sEc]);refine eT 3 hHeld ?_;(try simp only[Act.put,sEa,sEb,sEc]);refine eT 4 hHeld ?_;(try simp only[Act.put,sEa,sEb,sEc]);refine eT 5 hHeld ?_;(try simp only[Act.put,sEa,sEb,sEc]);refine eT 6 hHeld ?_;(try simp only[Act.put,sEa,sEb,sEc]);refine eT 7 hHeld ?_;(try simp only[Act.put,sEa,sEb,sEc]);refine eT 8 hHeld ?_;(try simp only[Act.put,sEa,sEb,sEc]);refine eT 9 hHeld ?_;(try simp only[Act.put,sEa,sEb,sEc])
   refine eR 10 (fun K hK=>?_)
   go_simp
   (with_reducible refine(HFF.out _).mono ?_)
   rintro r w2 ⟨rfl,rfl⟩
   refine hK.out _ _ hHeld (fun hHeld=>?_)
   clear hK K
   (try simp only[Act.put,sEa,sEb,sEc])
   refine eL (fun K hK=>?_);go_simp;refine hK.out _ _ ?_;clear hK K;(try simp only[Act.put,sEa,sEb,sEc])
   go_wp2
   go_roundg (dn- (j+1))
   case measure=>have:=HJ.out;omega
   case rel=>exact⟨j+1,by have:=HJ.out;omega,by omega,by go_num,hid HB.out.drew⟩
  ·have hji: ¬(j:Int)<(dn:Int):=by omega
   have HB2:=HB
   clear hgg HB
   obtain⟨w3,rfl⟩: ∃w3,w3=wr:=⟨_,rfl⟩
   go_wp2_with fail
   go_loopg [6] pn (fun gg s6 wr=> ∃j:Nat,j≤pn∧pn-j≤gg∧s6= .int .i64 j∧Hid (Below W1.heap.size W1 wr))
   case atStart=>exact⟨0,by omega,by omega,rfl,HB2⟩
   case round=>
    obtain⟨j,hj,hgg,rfl,HB⟩:=hrel
    clear x0 x1 x2 x3 x4 x5 y0 y1 y2 y3 y4 y5
    obtain⟨⟨⟨x0,x1,x2,x3,x4,x5⟩,⟨y0,y1,y2,y3,y4,y5⟩⟩,_⟩:=HC.out wr HB.out
    have hpz:(pn:Int)≤1000:=by have:=HN.out.2.1;omega
    by_cases hje:j<pn
    ·obtain⟨p,n,c,p',c',g1,o1,g2,o2,rfl,rfl,hnz,hcc,hin⟩:=HS.out.p j hje
     have HCC:=hid hcc
     have HIN:=hid hin
     have hcc:=hcc wr ((HC.out _ HB.out).2)
     have hji:(j:Int)<(pn:Int):=by omega
     have HJ:=hid hje
     have hnz2:(n:Int)≤1000:=by omega
     clear hin
     obtain⟨u1,u2⟩:=hcc
     go_upto_region 11 with fail
     refine zB (fun W'=>W'.cell? ⟨bx,3,none⟩=some (.slice (some ⟨g1,o1,none⟩) pn pc)∧W'.cell? ⟨by',3,none⟩=some (.slice (some ⟨g2,o2,none⟩) pn pc')∧W'.cell? ⟨g1,o1+j,none⟩=some (.slice p n c)∧W'.cell? ⟨g2,o2+j,none⟩=some (.slice p' n c')) 12 (by kernel_rfl) ⟨x3,y3,u1,u2⟩ (fun hHeld=>?_)
     refine eT 0 hHeld ?_;(try simp only[Act.put,sEa,sEb,sEc]);refine eT 1 hHeld ?_;(try simp only[Act.put,sEa,sEb,sEc]);refine eT 2 hHeld ?_;(try simp only[Act.put,sEa,sEb,sEc]);refine eT 3 hHeld ?_;(try simp only[Act.put,sEa,sEb,sEc]);refine eT 4 hHeld ?_;(try simp only[Act.put,sEa,sEb,sEc]);refine eT 5 hHeld ?_;(try simp only[Act.put,sEa,sEb,sEc]);refine eT 6 hHeld ?_;(try simp only[Act.put,sEa,sEb,sEc]);refine eT 7 hHeld ?_;(try simp only[Act.put,sEa,sEb,sEc]);refine eT 8 hHeld ?_;(try simp only[Act.put,sEa,sEb,sEc]);refine eT 9 hHeld ?_;(try simp only[Act.put,sEa,sEb,sEc]);refine eT 10 hHeld ?_;(try simp only[Act.put,sEa,sEb,sEc]);refine eT 11 hHeld ?_;(try simp only[Act.put,sEa,sEb,sEc]);refine eL (fun K hK=>?_);go_simp;refine hK.out _ _ ?_;clear hK K;(try simp only[Act.put,sEa,sEb,sEc])
     go_wp2_with fail
     go_loopg [7] n (fun gg s7 wr=> ∃i:Nat,i≤n∧n-i≤gg∧s7= .int .i64 i∧Hid (Below W1.heap.size W1 wr))
     case atStart=>exact⟨0,by omega,by omega,rfl,hid HB.out.drew⟩
     case round=>
      obtain⟨i,hi,hgi,rfl,HBI⟩:=hrel
      clear x0 x1 x2 x3 x4 x5 y0 y1 y2 y3 y4 y5 u1 u2
      obtain⟨⟨⟨x0,x1,x2,x3,x4,x5⟩,⟨y0,y1,y2,y3,y4,y5⟩⟩,_⟩:=HC.out wr HBI.out
      obtain⟨u1,u2⟩:=HCC.out wr ((HC.out _ HBI.out).2)
      by_cases hie:i<n
      ·obtain⟨z,b1,q1,b2,q2,rfl,rfl,hz⟩:=HIN.out i hie
       obtain⟨⟨v0,v1,v2,v3⟩,⟨v4,v5,v6,v7⟩⟩:=hz wr ((HC.out _ HBI.out).2)
       have hii:(i:Int)<(n:Int):=by omega
       have HIE:=hid hie
       clear hz
       go_upto_region 16 with fail
       refine zB (fun W'=>(W'.cell? ⟨bx,3,none⟩=some (.slice (some ⟨g1,o1,none⟩) pn pc)∧W'.cell? ⟨by',3,none⟩=some (.slice (some ⟨g2,o2,none⟩) pn pc')∧W'.cell? ⟨g1,o1+j,none⟩=some (.slice (some ⟨b1,q1,none⟩) n c)∧W'.cell? ⟨g2,o2+j,none⟩=some (.slice (some ⟨b2,q2,none⟩) n c'))∧(W'.cell? ⟨b1,q1+i*4,none⟩=some (.int .i64 z.op)∧W'.cell? ⟨b1,q1+i*4+1,none⟩=some (.int .i64 z.a)∧W'.cell? ⟨b1,q1+i*4+2,none⟩=some (.int .i64 z.b)∧W'.cell? ⟨b1,q1+i*4+3,none⟩=some (.int .i64 z.c))∧(W'.cell? ⟨b2,q2+i*4,none⟩=some (.int .i64 z.op)∧W'.cell? ⟨b2,q2+i*4+1,none⟩=some (.int .i64 z.a)∧W'.cell? ⟨b2,q2+i*4+2,none⟩=some (.int .i64 z.b)∧W'.cell? ⟨b2,q2+i*4+3,none⟩=some (.int .i64 z.c))) 16 (by kernel_rfl) ⟨⟨x3,y3,u1,u2⟩,⟨v0,v1,v2,v3⟩,v4,v5,v6,v7⟩ (fun hHeld=>?_)
       refine eT 0 hHeld ?_;(try simp only[Act.put,sEa,sEb,sEc]);refine eT 1 hHeld ?_;(try simp only[Act.put,sEa,sEb,sEc]);refine eT 2 hHeld ?_;(try simp only[Act.put,sEa,sEb,sEc]);refine eT 3 hHeld ?_;(try simp only[Act.put,sEa,sEb,sEc]);refine eT 4 hHeld ?_;(try simp only[Act.put,sEa,sEb,sEc]);refine eT 5 hHeld ?_;(try simp only[Act.put,sEa,sEb,sEc]);refine eT 6 hHeld ?_;(try simp only[Act.put,sEa,sEb,sEc]);refine eT 7 hHeld ?_;(try simp only[Act.put,sEa,sEb,sEc]);refine eT 8 hHeld ?_;(try simp only[Act.put,sEa,sEb,sEc]);refine eT 9 hHeld ?_;(try simp only[Act.put,sEa,sEb,sEc]);refine eT 10 hHeld ?_;(try simp only[Act.put,sEa,sEb,sEc]);refine eT 11 hHeld ?_;(try simp only[Act.put,sEa,sEb,sEc]);refine eT 12 hHeld ?_;(try simp only[Act.put,sEa,sEb,sEc]);refine eT 13 hHeld ?_;(try simp only[Act.put,sEa,sEb,sEc]);refine eT 14 hHeld ?_;(try simp only[Act.put,sEa,sEb,sEc]);refine eT 15 hHeld ?_;(try simp only[Act.put,sEa,sEb,sEc]);refine eL (fun K hK=>?_);go_simp;refine hK.out _ _ ?_;clear hK K;(try simp only[Act.put,sEa,sEb,sEc])
       go_wp2
       go_roundg (n- (i+1))
       case measure=>have:=HIE.out;omega
       case rel=>exact⟨i+1,by have:=HIE.out;omega,by omega,by go_num,hid HBI.out.drew⟩
      ·have hii: ¬(i:Int)<(n:Int):=by omega
       go_wp2
       go_roundg (pn- (j+1))
       case measure=>have:=HJ.out;omega
       case rel=>exact⟨j+1,by have:=HJ.out;omega,by omega,by go_num,HBI⟩
    ·have hji: ¬(j:Int)<(pn:Int):=by omega
     have HB3:=HB
     clear hgg HB HB2
     obtain⟨w4,rfl⟩: ∃w4,w4=wr:=⟨_,rfl⟩
     go_wp2_with fail
     go_loopg [8] ln (fun gg s8 wr=> ∃j:Nat,j≤ln∧ln-j≤gg∧s8= .int .i64 j∧Hid (Below W1.heap.size W1 wr))
     case atStart=>exact⟨0,by omega,by omega,rfl,HB3⟩
     case round=>
      obtain⟨j,hj,hgg,rfl,HB⟩:=hrel
      clear x0 x1 x2 x3 x4 x5 y0 y1 y2 y3 y4 y5
      obtain⟨⟨⟨x0,x1,x2,x3,x4,x5⟩,⟨y0,y1,y2,y3,y4,y5⟩⟩,_⟩:=HC.out wr HB.out
      have hlz:(ln:Int)≤1000:=by have:=HN.out.2.2.1;omega
      by_cases hje:j<ln
      ·obtain⟨k,l,p,n,c,p',c',g1,o1,g2,o2,rfl,rfl,hnl,hnz,hcc⟩:=HS.out.l j hje
       obtain⟨⟨u1,u2,u3,u4⟩,hv1,hv2⟩:=hcc wr ((HC.out _ HB.out).2)
       have HRI:=hid (JF (hv1.below (Below.refl wr.heap.size wr).drew) (hv2.below (Below.refl wr.heap.size wr).drew) hnl hnz)
       have hji:(j:Int)<(ln:Int):=by omega
       have HJ:=hid hje
       have HCC:=hid hcc
       clear hcc hv1 hv2 hnl
       go_upto_region 21 with fail
       refine zB (fun W'=>(W'.cell? ⟨bx,4,none⟩=some (.slice (some ⟨g1,o1,none⟩) ln lc)∧W'.cell? ⟨by',4,none⟩=some (.slice (some ⟨g2,o2,none⟩) ln lc'))∧W'.cell? ⟨g1,o1+j*2,none⟩=some (.int .i64 k)∧W'.cell? ⟨g1,o1+j*2+1,none⟩=some (.slice p n c)∧W'.cell? ⟨g2,o2+j*2,none⟩=some (.int .i64 k)∧W'.cell? ⟨g2,o2+j*2+1,none⟩=some (.slice p' n c')) 28 (by kernel_rfl) ⟨⟨x4,y4⟩,u1,u2,u3,u4⟩ (fun hHeld=>?_)
       refine eT 0 hHeld ?_;(try simp only[Act.put,sEa,sEb,sEc]);refine eT 1 hHeld ?_;(try simp only[Act.put,sEa,sEb,sEc]);refine eT 2 hHeld ?_;(try simp only[Act.put,sEa,sEb,sEc]);refine eT 3 hHeld ?_;(try simp only[Act.put,sEa,sEb,sEc]);refine eT 4 hHeld ?_;(try simp only[Act.put,sEa,sEb,sEc]);refine eT 5 hHeld ?_;(try simp only[Act.put,sEa,sEb,sEc]);refine eT 6 hHeld ?_;(try simp only[Act.put,sEa,sEb,sEc]);refine eT 7 hHeld ?_;(try simp only[Act.put,sEa,sEb,sEc]);refine eT 8 hHeld ?_;(try simp only[Act.put,sEa,sEb,sEc]);refine eT 9 hHeld ?_;(try simp only[Act.put,sEa,sEb,sEc]);refine eT 10 hHeld ?_;(try simp only[Act.put,sEa,sEb,sEc]);refine eT 11 hHeld ?_;(try simp only[Act.put,sEa,sEb,sEc]);refine eT 12 hHeld ?_;(try simp only[Act.put,sEa,sEb,sEc]);refine eT 13 hHeld ?_;(try simp only[Act.put,sEa,sEb,sEc]);refine eT 14 hHeld ?_;(try simp only[Act.put,sEa,sEb,sEc]);refine eT 15 hHeld ?_;(try simp only[Act.put,sEa,sEb,sEc]);refine eT 16 hHeld ?_;(try simp only[Act.put,sEa,sEb,sEc]);refine eT 17 hHeld ?_;(try simp only[Act.put,sEa,sEb,sEc]);refine eT 18 hHeld ?_;(try simp only[Act.put,sEa,sEb,sEc]);refine eT 19 hHeld ?_;(try simp only[Act.put,sEa,sEb,sEc]);refine eT 20 hHeld ?_;(try simp only[Act.put,sEa,sEb,sEc]);refine eT 21 hHeld ?_;(try simp only[Act.put,sEa,sEb,sEc]);refine eT 22 hHeld ?_;(try simp only[Act.put,sEa,sEb,sEc]);refine eT 23 hHeld ?_;(try simp only[Act.put,sEa,sEb,sEc]);refine eT 24 hHeld ?_;(try simp only[Act.put,sEa,sEb,sEc]);refine eT 25 hHeld ?_;(try simp only[Act.put,sEa,sEb,sEc])
       refine eR 26 (fun K hK=>?_)
       go_simp
       (with_reducible refine HRI.out.mono ?_)
       rintro r w5 ⟨rfl,hb5⟩
       have HB5:=hid (HB.out.trans ((Below.trans (Below.refl wr.heap.size wr).drew hb5).mono HB.out.size))
       obtain⟨⟨⟨x0,x1,x2,x3,x4,x5⟩,⟨y0,y1,y2,y3,y4,y5⟩⟩,_⟩:=HC.out w5 HB5.out
       obtain⟨⟨u1,u2,u3,u4⟩,_,_⟩:=HCC.out w5 ((HC.out _ HB5.out).2)
       refine hK.out _ _ ⟨⟨x4,y4⟩,u1,u2,u3,u4⟩ (fun hHeld=>?_)
       clear hK K hb5
       (try simp only[Act.put,sEa,sEb,sEc])
       refine eT 27 hHeld ?_;(try simp only[Act.put,sEa,sEb,sEc]);refine eL (fun K hK=>?_);go_simp;refine hK.out _ _ ?_;clear hK K;(try simp only[Act.put,sEa,sEb,sEc])
       go_wp2
       go_roundg (ln- (j+1))
       case measure=>have:=HJ.out;omega
       case rel=>exact⟨j+1,by have:=HJ.out;omega,by omega,by go_num,HB5⟩
      ·have hji: ¬(j:Int)<(ln:Int):=by omega
       have HB4:=HB
       clear hgg HB HB3
       obtain⟨w5,rfl⟩: ∃w5,w5=wr:=⟨_,rfl⟩
       go_wp2_with fail
       go_loopg [9] im (fun gg s9 wr=> ∃j:Nat,j≤im∧im-j≤gg∧s9= .int .i64 j∧Hid (Below W1.heap.size W1 wr))
       case atStart=>exact⟨0,by omega,by omega,rfl,HB4⟩
       case round=>
        obtain⟨j,hj,hgg,rfl,HB⟩:=hrel
        clear x0 x1 x2 x3 x4 x5 y0 y1 y2 y3 y4 y5
        obtain⟨⟨⟨x0,x1,x2,x3,x4,x5⟩,⟨y0,y1,y2,y3,y4,y5⟩⟩,_⟩:=HC.out wr HB.out
        have hiz:(im:Int)≤1000:=by have:=HN.out.2.2.2;omega
        by_cases hje:j<im
        ·obtain⟨a,b,d,y,g1,o1,g2,o2,rfl,rfl,hab,hcc⟩:=HS.out.i j hje
         obtain⟨⟨u1,u2,u3⟩,⟨u4,u5,u6⟩⟩:=hcc wr ((HC.out _ HB.out).2)
         have HFF:=hid (fun w=>qL hab w)
         have hji:(j:Int)<(im:Int):=by omega
         have HJ:=hid hje
         clear hcc hab
         go_upto_region 26 with fail
         refine zB (fun W'=>(W'.cell? ⟨bx,5,none⟩=some (.slice (some ⟨g1,o1,none⟩) im ic)∧W'.cell? ⟨by',5,none⟩=some (.slice (some ⟨g2,o2,none⟩) im ic'))∧(W'.cell? ⟨g1,o1+j*3,none⟩=some (.float .f64 a)∧W'.cell? ⟨g1,o1+j*3+1,none⟩=some (.int .i64 d)∧W'.cell? ⟨g1,o1+j*3+2,none⟩=some (.int .i64 y))∧W'.cell? ⟨g2,o2+j*3,none⟩=some (.float .f64 b)∧W'.cell? ⟨g2,o2+j*3+1,none⟩=some (.int .i64 d)∧W'.cell? ⟨g2,o2+j*3+2,none⟩=some (.int .i64 y)) 43 (by kernel_rfl) ⟨⟨x5,y5⟩,⟨u1,u2,u3⟩,u4,u5,u6⟩ (fun hHeld=>?_)
         refine eT 0 hHeld ?_;(try simp only[Act.put,sEa,sEb,sEc]);refine eT 1 hHeld ?_;(try simp only[Act.put,sEa,sEb,sEc]);refine eT 2 hHeld ?_;(try simp only[Act.put,sEa,sEb,sEc]);refine eT 3 hHeld ?_;(try simp only[Act.put,sEa,sEb,sEc]);refine eT 4 hHeld ?_;(try simp only[Act.put,sEa,sEb,sEc]);refine eT 5 hHeld ?_;(try simp only[Act.put,sEa,sEb,sEc]);refine eT 6 hHeld ?_;(try simp only[Act.put,sEa,sEb,sEc]);refine eT 7 hHeld ?_;(try simp only[Act.put,sEa,sEb,sEc]);refine eT 8 hHeld ?_;(try simp only[Act.put,sEa,sEb,sEc]);refine eT 9 hHeld ?_;(try simp only[Act.put,sEa,sEb,sEc]);refine eT 10 hHeld ?_;(try simp only[Act.put,sEa,sEb,sEc]);refine eT 11 hHeld ?_;(try simp only[Act.put,sEa,sEb,sEc])
         refine eR 12 (fun K hK=>?_)
         go_simp
         (with_reducible refine(HFF.out _).mono ?_)
         rintro r w2 ⟨rfl,rfl⟩
         refine hK.out _ _ hHeld (fun hHeld=>?_)
         clear hK K
         (try simp only[Act.put,sEa,sEb,sEc])
         refine eT 13 hHeld ?_;(try simp only[Act.put,sEa,sEb,sEc]);refine eT 14 hHeld ?_;(try simp only[Act.put,sEa,sEb,sEc]);refine eT 15 hHeld ?_;(try simp only[Act.put,sEa,sEb,sEc]);refine eT 16 hHeld ?_;(try simp only[Act.put,sEa,sEb,sEc]);refine eT 17 hHeld ?_;(try simp only[Act.put,sEa,sEb,sEc]);refine eT 18 hHeld ?_;(try simp only[Act.put,sEa,sEb,sEc]);refine eT 19 hHeld ?_;(try simp only[Act.put,sEa,sEb,sEc]);refine eT 20 hHeld ?_;(try simp only[Act.put,sEa,sEb,sEc]);refine eT 21 hHeld ?_;(try simp only[Act.put,sEa,sEb,sEc]);refine eT 22 hHeld ?_;(try simp only[Act.put,sEa,sEb,sEc]);refine eT 23 hHeld ?_;(try simp only[Act.put,sEa,sEb,sEc]);refine eT 24 hHeld ?_;(try simp only[Act.put,sEa,sEb,sEc]);refine eT 25 hHeld ?_;(try simp only[Act.put,sEa,sEb,sEc]);refine eT 26 hHeld ?_;(try simp only[Act.put,sEa,sEb,sEc]);refine eT 27 hHeld ?_;(try simp only[Act.put,sEa,sEb,sEc]);refine eT 28 hHeld ?_;(try simp only[Act.put,sEa,sEb,sEc]);refine eT 29 hHeld ?_;(try simp only[Act.put,sEa,sEb,sEc]);refine eT 30 hHeld ?_;(try simp only[Act.put,sEa,sEb,sEc]);refine eT 31 hHeld ?_;(try simp only[Act.put,sEa,sEb,sEc]);refine eT 32 hHeld ?_;(try simp only[Act.put,sEa,sEb,sEc]);refine eT 33 hHeld ?_;(try simp only[Act.put,sEa,sEb,sEc]);refine eT 34 hHeld ?_;(try simp only[Act.put,sEa,sEb,sEc]);refine eT 35 hHeld ?_;(try simp only[Act.put,sEa,sEb,sEc]);refine eT 36 hHeld ?_;(try simp only[Act.put,sEa,sEb,sEc]);refine eT 37 hHeld ?_;(try simp only[Act.put,sEa,sEb,sEc]);refine eT 38 hHeld ?_;(try simp only[Act.put,sEa,sEb,sEc]);refine eT 39 hHeld ?_;(try simp only[Act.put,sEa,sEb,sEc]);refine eT 40 hHeld ?_;(try simp only[Act.put,sEa,sEb,sEc]);refine eT 41 hHeld ?_;(try simp only[Act.put,sEa,sEb,sEc]);refine eT 42 hHeld ?_;(try simp only[Act.put,sEa,sEb,sEc]);refine eL (fun K hK=>?_);go_simp;refine hK.out _ _ ?_;clear hK K;(try simp only[Act.put,sEa,sEb,sEc])
         go_wp2
         go_roundg (im- (j+1))
         case measure=>have:=HJ.out;omega
         case rel=>exact⟨j+1,by have:=HJ.out;omega,by omega,by go_num,hid HB.out.drew⟩
        ·have hji: ¬(j:Int)<(im:Int):=by omega
         go_wp2
         go_ret
         exact⟨rfl,(HC.out _ HB.out).2⟩
end
section
open Go.RowKit Go.Lib
def boC (b:Bool):List Value:=[.bool b]
theorem XW (b:Bool):(boC b).length=1:=rfl
theorem af3 (b:Bool): ∀u∈boC b,u.oneCell'=true:=by
 intro u hu
 simp[boC]at hu
 subst hu
 rfl
structure AcV where
 kind:Int
 n:Int
 kp:Option Addr
 kn:Nat
 kc:Nat
 keep:List Bool
 torn:Int
 bytes:Int
def acC (a:AcV):List Value:=[.int .i64 a.kind,.int .i64 a.n,.slice a.kp a.kn a.kc,.int .i64 a.torn,.int .i64 a.bytes]
theorem J0 (a:AcV):(acC a).length=5:=rfl
theorem ack (a:AcV): ∀u∈acC a,u.oneCell'=true:=by
 intro u hu
 simp[acC]at hu
 rcases hu with rfl|rfl|rfl|rfl|rfl<;>rfl
def AcV.ac (a:AcV):Ac:=⟨a.kind,a.n,a.keep,a.torn,a.bytes⟩
structure acd (W:World) (a:AcV):Prop where
 n:a.kn=a.keep.length
 k:Vw 1 boC W (.slice a.kp a.kn a.kc) a.keep
structure ScV where
 sec:Int
 fr:Int
 x:MdV
 ap:Option Addr
 an:Nat
 ac:Nat
 ats:List AcV
def scC (s:ScV):List Value:= .int .i64 s.sec:: .int .i64 s.fr::(mdC s.x++[.slice s.ap s.an s.ac])
def ScV.s (s:ScV):Scr:=⟨s.sec,s.fr,s.x.m,s.ats.map AcV.ac⟩
structure aci (W:World) (s:ScV):Prop where
 m:qZ W s.x
 a:Vw 5 acC W (.slice s.ap s.an s.ac) s.ats
 an:s.an=s.ats.length
 ai: ∀a∈s.ats,acd W a
theorem acd.below {W W':World} {a:AcV} (h:acd W a) (hb:Below W.heap.size W W'):acd W' a:=⟨h.n,h.k.below hb⟩
theorem aci.below {W W':World} {s:ScV} (h:aci W s) (hb:Below W.heap.size W W'):aci W' s:=⟨h.m.below hb,h.a.below hb,h.an,fun a ha=>(h.ai a ha).below hb⟩
def mdZ:MdV:=⟨0,0,none,0,0,[],none,0,0,[],none,0,0,[],none,0,0,[]⟩
def scZ:ScV:=⟨0,0,mdZ,none,0,0,[]⟩
theorem qS (W:World):qZ W mdZ:=⟨.nil ..,rfl,.nil ..,rfl,(fun q h=>by cases h),.nil ..,rfl,(fun q h=>by cases h),.nil ..,rfl⟩
theorem jW (W:World):aci W scZ:=⟨qS W,.nil ..,rfl,fun a h=>by cases h⟩
def aCx (p:PR) (s:Scr) (i e:Int):Prop:=match p with
 | .full=>i=0∧e=11∧s=scZ.s
 | .line n=>i=n∧e=30∧s=scZ.s
 | .ok x=>i=0∧e=0∧s=x
end
end Go.Proofs.YtcdiljebkpikbaaGreat
