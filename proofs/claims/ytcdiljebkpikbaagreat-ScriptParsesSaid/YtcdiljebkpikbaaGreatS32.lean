/- Parts of the proof: Ev Sem Sen. -/
import Derived.Test.YtcdiljebkpikbaaGreatS31
set_option linter.all false
set_option maxRecDepth 100000
set_option maxHeartbeats 64000000
namespace Go.Proofs.YtcdiljebkpikbaaGreat
section
open Go.RowKit Go.Lib
section
variable {W:World} {q:Option Addr} {n c:Nat} {l:List In}
theorem aMu (hv:Vw 4 inC W (.slice q n c) l) {j:Nat} {x:In} (hx:l[j]? =some x): ∃b o,q=some ⟨b,o,none⟩∧ ∀W',Below W.heap.size W W'→W'.cell? ⟨b,o+j*4,none⟩=some (.int .i64 x.op)∧W'.cell? ⟨b,o+j*4+1,none⟩=some (.int .i64 x.a)∧W'.cell? ⟨b,o+j*4+2,none⟩=some (.int .i64 x.b)∧W'.cell? ⟨b,o+j*4+3,none⟩=some (.int .i64 x.c):=by
 obtain⟨b,o,c',e,_,hb,k⟩:=hv.ex (by intro e;rw[e]at hx;simp at hx)
 injection e with e1 _ _
 refine⟨b,o,e1,fun W' hW=>?_⟩
 have e: ∀i,W'.cell? ⟨b,i,none⟩=W.cell? ⟨b,i,none⟩:=fun i=>hW.cell (p:=⟨b,i,none⟩) hb
 simp only[e]
 exact⟨k j x hx 0 _ rfl,k j x hx 1 _ rfl,k j x hx 2 _ rfl,k j x hx 3 _ rfl⟩
theorem ahx {g:Nat} {T:TypeId} (hg:Blk W g T #[.slice q n c]) (x:In):
  Calls Tryz.prog 141 #[.agg #[.int .i64 x.op,.int .i64 x.a,.int .i64 x.b,.int .i64 x.c],.pointer (some ⟨g,0,none⟩)] W fun r w'=>r= .returned (.bool (vM x n))∧Below W.heap.size W w':=by
 have HB:=hid ((Below.refl _ W).alloc (Nat.le_refl _) (.cells #[.int .i64 x.op,.int .i64 x.a,.int .i64 x.b,.int .i64 x.c] 84))
 have c0:(W.alloc (.cells #[.int .i64 x.op,.int .i64 x.a,.int .i64 x.b,.int .i64 x.c] 84)).cell? ⟨g,0,none⟩=some (.slice q n c):=(hg.alloc _).cell 0
 have HI:=hid (fun W=>aBg x n W)
 clear hg
 go_enter Tryz.func141,Tryz.ntmps141
 go_wp2_with fail
 (with_reducible refine(HI.out _).mono ?_)
 rintro r w1 ⟨rfl,hb1⟩
 have HF:=hid (HB.out.trans (hb1.mono (by simp)))
 clear hb1
 go_wp2
 go_ret
 exact⟨rfl,HF.out⟩
theorem Kr (hv:Vw 4 inC W (.slice q n c) l) (hn:n=l.length) (hnb:n≤1000):
  Calls Tryz.prog 108 #[.slice q n c] W fun r w'=>r= .returned (.bool (xf l))∧Below W.heap.size W w':=by
 obtain⟨W1,hW1⟩: ∃W1,W1=W.alloc (.cells #[.slice q n c] 85):=⟨_,rfl⟩
 have hb1:Below W.heap.size W W1:=by rw[hW1];exact(Below.refl _ W).alloc (Nat.le_refl _) _
 have hB1:Blk W1 W.heap.size 85 #[.slice q n c]:=by rw[hW1];exact Blk.new W _ _
 have HB:Hid (∀W',Below W1.heap.size W1 W'→Blk W' W.heap.size 85 #[.slice q n c]∧Below W.heap.size W W'):=hid fun W' hW=>⟨hB1.below hW hB1.lt,hb1.trans (hW.mono hb1.size)⟩
 have hmf: ∀(fn:Fn) (first cap:Array Value) (w:World),(Instr.makeFunc fn first cap).run Tryz.prog w= .ok (.func fn first cap) w:=fun _ _ _ _=>rfl
 obtain⟨r0,hr0⟩: ∃r,r=xf l:=⟨_,rfl⟩
 rw[←hr0]
 have HR:=hid hr0
 have HV:=hid (⟨hv,hn⟩:_∧_)
 have HW1:=hid hW1
 have c0:W1.cell? ⟨W.heap.size,0,none⟩=some (.slice q n c):=hB1.cell 0
 have HWN:=hid (fun W=>qG n 1 48 W)
 clear hr0 hv hn hW1 hb1 hB1
 go_enter Tryz.func108,Tryz.ntmps108
 go_wp2
 rw[←HW1.out]
 go_loopg [9] (n+1) (fun gg s9 wr=> ∃j:Nat,j≤n∧n+1-j≤gg∧s9= .int .i64 j∧Hid ((l.take j).all (fun x=>vM x l.length)=true)∧Hid (Below W1.heap.size W1 wr))
 case atStart=>exact⟨0,by omega,by omega,rfl,hid (by simp),hid (Below.refl _ _)⟩
 case round=>
  obtain⟨j,hj,hgg,rfl,HJ,HBW⟩:=hrel
  by_cases hjn:j<n
  ·obtain⟨x,hx⟩: ∃x,l[j]? =some x:=⟨_,List.getElem?_eq_getElem (by rw[←HV.out.2];exact hjn)⟩
   obtain⟨b,o,rfl,hxc⟩:=aMu HV.out.1 hx
   obtain⟨x0,x1,x2,x3⟩:=hxc wr (HB.out _ HBW.out).2
   have hji:(j:Int)<(n:Int):=by omega
   have hnz:(n:Int)≤1000:=by omega
   obtain⟨wo,hwo⟩: ∃wo,wo=wr.alloc (.cells #[.int .i64 x.op,.int .i64 x.a,.int .i64 x.b,.int .i64 x.c] 84):=⟨_,rfl⟩
   have hbo:Below W1.heap.size W1 wo:=by rw[hwo];exact HBW.out.alloc HBW.out.size _
   have HP:=hid (ahx (HB.out _ hbo).1 x)
   have HJN:=hid hjn
   have HX:=hid hx
   have HWO:=hid hwo
   have HBO:=hid hbo
   clear hx hxc hwo hbo
   go_wp2_with fail
   rw[←HWO.out]
   (with_reducible refine HP.out.mono ?_)
   rintro r w1 ⟨rfl,hb1⟩
   obtain⟨go,hgo⟩: ∃go,go=vM x n:=⟨_,rfl⟩
   rw[←hgo]
   have HG:=hid (⟨hgo,HBO.out.trans (hb1.mono HBO.out.size)⟩:_∧_)
   clear hgo hb1 x0 x1 x2 x3
   cases go with
   |true=>
    have HJ2:Hid ((l.take (j+1)).all (fun x=>vM x l.length)=true):=hid (by rw[zD _ HX.out,HJ.out,←HV.out.2,←HG.out.1];rfl)
    go_wp2
    go_roundg (n+1- (j+1))
    case measure=>omega
    case rel=>exact⟨j+1,by have:=HJN.out;omega,by omega,by go_num,HJ2,hid HG.out.2⟩
   |false=>
    have HZ:Hid (r0=false):=hid (by rw[HR.out];unfold xf;rw[yU HX.out (by rw[←HV.out.2,←HG.out.1]),Bool.false_and])
    go_wp2
    go_ret
    rw[HZ.out]
    exact⟨rfl,(HB.out _ HG.out.2).2⟩
  ·have hji: ¬(j:Int)<(n:Int):=by omega
   have HZ:Hid (r0=decide ((1:Int)≤n∧(n:Int)≤48)):=hid (by
    have h1:=HJ.out
    rw[List.take_of_length_le (by rw[←HV.out.2];omega)]at h1
    rw[HR.out]
    unfold xf
    rw[h1,Bool.true_and,←HV.out.2,←Bool.decide_and]
    exact decide_eq_decide.2 (by omega))
   have HWN2:Hid (∀W',Calls Tryz.prog 109 #[.int .i64 n,.int .i64 1,.int .i64 48] W' fun r w'=>r= .returned (.bool r0)∧W'=w'):=hid fun W'=>by rw[HZ.out];exact HWN.out W'
   have c1:wr.cell? ⟨W.heap.size,0,none⟩=some (.slice q n c):=(HB.out _ HBW.out).1.cell 0
   go_wp2_with ((with_reducible refine(HWN2.out _).mono ?_);rintro r w' ⟨rfl,rfl⟩)
   go_ret
   exact⟨rfl,(HB.out _ HBW.out).2⟩
end
end
section
open Go.RowKit Go.Lib
theorem qt {α:Type} {f:α→α→Bool} : ∀ {l r:List α},vX f l r=true→l.length=r.length∧ ∀(j:Nat) (a:α),l[j]? =some a→ ∃b,r[j]? =some b∧f a b=true
 | [],[],_=>⟨rfl,fun j a h=>by cases h⟩
 |a::l,b::r,h=>by
  simp only[vX,Bool.and_eq_true]at h
  obtain⟨h1,h2⟩:=qt h.2
  refine⟨by simp[h1],fun j x hx=>?_⟩
  cases j with
  |zero=>simp at hx;subst hx;exact⟨b,rfl,h.1⟩
  |succ j=>exact h2 j x hx
 | [],_::_,h=>by cases h
 |_::_,[],h=>by cases h
theorem qL {a b:Nat} (h:YP a b=true) (W:World):Calls Tryz.prog 57 #[.float .f64 a,.float .f64 b] W fun r w'=>r= .returned (.bool true)∧W=w':=by
 unfold YP at h
 cases ha:jm a with
 |true=>
  rw[ha]at h
  simp only[Bool.true_or,if_true,Bool.true_and]at h
  go_enter Tryz.func57,Tryz.ntmps57
  go_wp2
  go_ret
  exact⟨rfl,rfl⟩
 | false=>
  cases hb:jm b with
  |true=>
   rw[ha,hb]at h
   cases h
  |false=>
   rw[ha,hb]at h
   simp only[Bool.or_self,Bool.false_eq_true,if_false,decide_eq_true_eq]at h
   subst h
   go_enter Tryz.func57,Tryz.ntmps57
   go_wp2
   go_ret
   exact⟨rfl,rfl⟩
theorem JF {w:World} {p1 p2:Option Addr} {n c1 c2:Nat} {l:List Int} (h1:Vw 1 wdC w (.slice p1 n c1) l) (h2:Vw 1 wdC w (.slice p2 n c2) l) (hn:n=l.length) (hl:n≤1000):
  Calls Tryz.prog 58 #[.slice p1 n c1,.slice p2 n c2] w fun r w'=>r= .returned (.bool true)∧Below w.heap.size w w':=by
 have hli:(n:Int)≤1000:=by omega
 have HG:=hid (⟨h1,h2,hn⟩:_∧_∧_)
 clear h1 h2 hn hl
 go_enter Tryz.func58,Tryz.ntmps58
 go_wp2
 go_loopg [5] n (fun gg s5 wr=> ∃j:Nat,j≤n∧n-j≤gg∧s5= .int .i64 j∧Hid (Below w.heap.size w wr))
 case atStart=>exact⟨0,by omega,by omega,rfl,hid (Below.refl _ _)⟩
 case round=>
  obtain⟨j,hj,hgg,rfl,HI⟩:=hrel
  by_cases hje:j<n
  ·obtain⟨x,hx⟩: ∃x,l[j]? =some x:=⟨_,List.getElem?_eq_getElem (by rw[←HG.out.2.2];exact hje)⟩
   have hne:l≠[]:=by rintro rfl;simp at hx
   obtain⟨b1,o1,_,e1,_,hb1,k1⟩:=HG.out.1.ex hne
   obtain⟨b2,o2,_,e2,_,hb2,k2⟩:=HG.out.2.1.ex hne
   injection e1 with e1 e3 e4
   injection e2 with e2 e5 e6
   subst e1 e2
   clear e3 e4 e5 e6
   have q1:=k1 j x hx 0 _ rfl
   have q2:=k2 j x hx 0 _ rfl
   rw[Nat.mul_one,Nat.add_zero]at q1 q2
   have r1:wr.cell? ⟨b1,o1+j,none⟩=some (.int .i64 x):=(World.cell?_of_block (HI.out.block b1 hb1)).trans q1
   have r2:wr.cell? ⟨b2,o2+j,none⟩=some (.int .i64 x):=(World.cell?_of_block (HI.out.block b2 hb2)).trans q2
   have HJ:=hid hje
   have hji:(j:Int)<(n:Int):=by omega
   clear hx hne k1 k2 hb1 hb2 q1 q2
   go_upto_region 6 with fail
   refine zB (fun W'=>W'.cell? ⟨b1,o1+j,none⟩=some (.int .i64 x)∧W'.cell? ⟨b2,o2+j,none⟩=some (.int .i64 x)) 8 (by kernel_rfl) ⟨r1,r2⟩ (fun hHeld=>?_)
   refine eT 0 hHeld ?_;(try simp only[Act.put,sEa,sEb,sEc]);refine eT 1 hHeld ?_;(try simp only[Act.put,sEa,sEb,sEc]);refine eT 2 hHeld ?_;(try simp only[Act.put,sEa,sEb,sEc]);refine eT 3 hHeld ?_;(try simp only[Act.put,sEa,sEb,sEc]);refine eT 4 hHeld ?_;(try simp only[Act.put,sEa,sEb,sEc]);refine eT 5 hHeld ?_;(try simp only[Act.put,sEa,sEb,sEc]);refine eT 6 hHeld ?_;(try simp only[Act.put,sEa,sEb,sEc]);refine eT 7 hHeld ?_;(try simp only[Act.put,sEa,sEb,sEc]);refine eL (fun K hK=>?_);go_simp;refine hK.out _ _ ?_;clear hK K;(try simp only[Act.put,sEa,sEb,sEc])
   go_wp2
   go_roundg (n- (j+1))
   case measure=>have:=HJ.out;omega
   case rel=>exact⟨j+1,by have:=HJ.out;omega,by omega,by go_num,hid HI.out.drew⟩
  ·have hji: ¬(j:Int)<(n:Int):=by omega
   go_wp2
   go_ret
   exact⟨rfl,HI.out⟩
end
section
open Go.RowKit Go.Lib
theorem Vw.elt {α:Type} {k:Nat} {enc:α→List Value} {W:World} {p:Option Addr} {n c:Nat} {l:List α} (h:Vw k enc W (.slice p n c) l) {j:Nat} {a:α} (ha:l[j]? =some a): ∃b o,p=some ⟨b,o,none⟩∧ ∀W',Below W.heap.size W W'→ ∀q u,(enc a)[q]? =some u→W'.cell? ⟨b,o+j*k+q,none⟩=some u:=by
 obtain⟨b,o,c',e1,e2,e3,e4⟩:=h.ex (by rintro rfl;simp at ha)
 injection e1 with e1
 exact⟨b,o,e1,fun W' hb q u hu=>(World.cell?_of_block (hb.block b e3)).trans (e4 j a ha q u hu)⟩
theorem ahU {a b:In} (h:aa0 a b=true):a=b:=by
 unfold aa0 at h
 simp only[Bool.and_eq_true,decide_eq_true_eq]at h
 obtain⟨a1,a2,a3,a4⟩:=a
 obtain⟨b1,b2,b3,b4⟩:=b
 simp only at h
 obtain⟨rfl,rfl,rfl,rfl⟩:=h
 rfl
theorem QA {α:Type} {f:α→α→Bool} (hf: ∀a b,f a b=true→a=b): ∀ {l r:List α},vX f l r=true→l=r
 | [],[],_=>rfl
 |a::l,b::r,h=>by
  simp only[vX,Bool.and_eq_true]at h
  rw[hf _ _ h.1,QA hf h.2]
 | [],_::_,h=>by cases h
 |_::_,[],h=>by cases h
structure SmM (W:World) (dp dp':Option Addr) (dn:Nat) (pp pp':Option Addr) (pn:Nat) (lp lp':Option Addr) (ln:Nat) (ip ip':Option Addr) (im:Nat):Prop where
 d: ∀j,j<dn→ ∃a b g1 o1 g2 o2,dp=some ⟨g1,o1,none⟩∧dp'=some ⟨g2,o2,none⟩∧YP a b=true∧ ∀W',Below W.heap.size W W'→W'.cell? ⟨g1,o1+j,none⟩=some (.float .f64 a)∧W'.cell? ⟨g2,o2+j,none⟩=some (.float .f64 b)
 p : ∀j,j<pn→ ∃(p:Option Addr) (n c:Nat) (p':Option Addr) (c' g1 o1 g2 o2:Nat),pp=some ⟨g1,o1,none⟩∧pp'=some ⟨g2,o2,none⟩∧n≤1000∧(∀W',Below W.heap.size W W'→W'.cell? ⟨g1,o1+j,none⟩=some (.slice p n c)∧W'.cell? ⟨g2,o2+j,none⟩=some (.slice p' n c'))∧
  ∀i,i<n→ ∃(x:In) (b1 q1 b2 q2:Nat),p=some ⟨b1,q1,none⟩∧p'=some ⟨b2,q2,none⟩∧ ∀W',Below W.heap.size W W'→(W'.cell? ⟨b1,q1+i*4,none⟩=some (.int .i64 x.op)∧W'.cell? ⟨b1,q1+i*4+1,none⟩=some (.int .i64 x.a)∧W'.cell? ⟨b1,q1+i*4+2,none⟩=some (.int .i64 x.b)∧W'.cell? ⟨b1,q1+i*4+3,none⟩=some (.int .i64 x.c))∧
   (W'.cell? ⟨b2,q2+i*4,none⟩=some (.int .i64 x.op)∧W'.cell? ⟨b2,q2+i*4+1,none⟩=some (.int .i64 x.a)∧W'.cell? ⟨b2,q2+i*4+2,none⟩=some (.int .i64 x.b)∧W'.cell? ⟨b2,q2+i*4+3,none⟩=some (.int .i64 x.c))
 l: ∀j,j<ln→ ∃(k:Int) (l:List Int) (p:Option Addr) (n c:Nat) (p':Option Addr) (c' g1 o1 g2 o2:Nat),lp=some ⟨g1,o1,none⟩∧lp'=some ⟨g2,o2,none⟩∧n=l.length∧n≤1000∧ ∀W',Below W.heap.size W W'→(W'.cell? ⟨g1,o1+j*2,none⟩=some (.int .i64 k)∧W'.cell? ⟨g1,o1+j*2+1,none⟩=some (.slice p n c)∧W'.cell? ⟨g2,o2+j*2,none⟩=some (.int .i64 k)∧W'.cell? ⟨g2,o2+j*2+1,none⟩=some (.slice p' n c'))∧Vw 1 wdC W' (.slice p n c) l∧Vw 1 wdC W' (.slice p' n c') l
 i: ∀j,j<im→ ∃(a b:Nat) (d y:Int) (g1 o1 g2 o2:Nat),ip=some ⟨g1,o1,none⟩∧ip'=some ⟨g2,o2,none⟩∧YP a b=true∧ ∀W',Below W.heap.size W W'→(W'.cell? ⟨g1,o1+j*3,none⟩=some (.float .f64 a)∧W'.cell? ⟨g1,o1+j*3+1,none⟩=some (.int .i64 d)∧W'.cell? ⟨g1,o1+j*3+2,none⟩=some (.int .i64 y))∧(W'.cell? ⟨g2,o2+j*3,none⟩=some (.float .f64 b)∧W'.cell? ⟨g2,o2+j*3+1,none⟩=some (.int .i64 d)∧W'.cell? ⟨g2,o2+j*3+2,none⟩=some (.int .i64 y))
theorem aSc {W:World} {x y:MdV} (hx:qZ W x) (hy:qZ W y) (h:ab1 x.m y.m=true) (hp: ∀q∈x.ps,q.n≤1000) (hl: ∀q∈x.ls,q.n≤1000):
  (x.seed=y.seed∧YP x.en y.en=true∧x.dn=y.dn∧x.pn=y.pn∧x.ln=y.ln∧x.im=y.im)∧SmM W x.dp y.dp x.dn x.pp y.pp x.pn x.lp y.lp x.ln x.ip y.ip x.im:=by
 unfold ab1 MdV.m at h
 simp only[Bool.and_eq_true,decide_eq_true_eq]at h
 obtain⟨h1,h2,h3,h4,h5,h6⟩:=h
 obtain⟨d1,d2⟩:=qt h3
 obtain⟨p1,p2⟩:=qt h4
 obtain⟨l1,l2⟩:=qt h5
 obtain⟨i1,i2⟩:=qt h6
 rw[List.length_map,List.length_map]at p1 l1
 refine⟨⟨h1,h2,by rw[hx.dn,hy.dn,d1],by rw[hx.pn,hy.pn,p1],by rw[hx.ln,hy.ln,l1],by rw[hx.im,hy.im,i1]⟩,⟨fun j hj=>?_,fun j hj=>?_,fun j hj=>?_,fun j hj=>?_⟩⟩
 ·obtain⟨a,ha⟩: ∃a,x.dl[j]? =some a:=⟨_,List.getElem?_eq_getElem (by rw[←hx.dn];exact hj)⟩
  obtain⟨b,hb,hs⟩:=d2 j a ha
  obtain⟨g1,o1,e1,k1⟩:=hx.d.elt ha
  obtain⟨g2,o2,e2,k2⟩:=hy.d.elt hb
  exact⟨a,b,g1,o1,g2,o2,e1,e2,hs,fun W' hb=>⟨by have:=k1 W' hb 0 _ rfl;simpa using this,by have:=k2 W' hb 0 _ rfl;simpa using this⟩⟩
 ·obtain⟨a,ha⟩: ∃a,x.ps[j]? =some a:=⟨_,List.getElem?_eq_getElem (by rw[←hx.pn];exact hj)⟩
  obtain⟨l',hl',hs⟩:=p2 j a.l (by rw[List.getElem?_map,ha];rfl)
  rw[List.getElem?_map,Option.map_eq_some_iff]at hl'
  obtain⟨b,hb,rfl⟩:=hl'
  have hll:a.l=b.l:=QA (fun _ _=>ahU) hs
  obtain⟨g1,o1,e1,k1⟩:=hx.p.elt ha
  obtain⟨g2,o2,e2,k2⟩:=hy.p.elt hb
  have qa:=hx.pi a (List.mem_of_getElem? ha)
  have qb:=hy.pi b (List.mem_of_getElem? hb)
  have hn:b.n=a.n:=by rw[qa.1,qb.1,hll]
  refine⟨a.p,a.n,a.c,b.p,b.c,g1,o1,g2,o2,e1,e2,hp a (List.mem_of_getElem? ha),fun W' hb=>⟨by have:=k1 W' hb 0 _ rfl;simpa using this,by have:=k2 W' hb 0 _ rfl;rw[←hn];simpa using this⟩,fun i hi=>?_⟩
  obtain⟨z,hz⟩: ∃z,a.l[i]? =some z:=⟨_,List.getElem?_eq_getElem (by rw[←qa.1];exact hi)⟩
  obtain⟨b1,q1,f1,m1⟩:=qa.2.elt hz
  obtain⟨b2,q2,f2,m2⟩:=qb.2.elt (hll▸hz)
  exact⟨z,b1,q1,b2,q2,f1,f2,fun W' hb=>⟨⟨m1 W' hb 0 _ rfl,m1 W' hb 1 _ rfl,m1 W' hb 2 _ rfl,m1 W' hb 3 _ rfl⟩,⟨m2 W' hb 0 _ rfl,m2 W' hb 1 _ rfl,m2 W' hb 2 _ rfl,m2 W' hb 3 _ rfl⟩⟩⟩
 ·obtain⟨a,ha⟩: ∃a,x.ls[j]? =some a:=⟨_,List.getElem?_eq_getElem (by rw[←hx.ln];exact hj)⟩
  obtain⟨l',hl',hs⟩:=l2 j (a.k,a.l) (by rw[List.getElem?_map,ha];rfl)
  rw[List.getElem?_map,Option.map_eq_some_iff]at hl'
  obtain⟨b,hb,rfl⟩:=hl'
  unfold ahV at hs
  simp only[Bool.and_eq_true,decide_eq_true_eq]at hs
  have hk:a.k=b.k:=hs.1
  have hll:a.l=b.l:=QA (fun _ _ h=>of_decide_eq_true h) hs.2
  obtain⟨g1,o1,e1,k1⟩:=hx.l.elt ha
  obtain⟨g2,o2,e2,k2⟩:=hy.l.elt hb
  have qa:=hx.li a (List.mem_of_getElem? ha)
  have qb:=hy.li b (List.mem_of_getElem? hb)
  have hn:b.n=a.n:=by rw[qa.1,qb.1,hll]
  refine⟨a.k,a.l,a.p,a.n,a.c,b.p,b.c,g1,o1,g2,o2,e1,e2,qa.1,hl a (List.mem_of_getElem? ha),fun W' hb=>⟨⟨k1 W' hb 0 _ rfl,k1 W' hb 1 _ rfl,by rw[hk];exact k2 W' hb 0 _ rfl,by rw[←hn];exact k2 W' hb 1 _ rfl⟩,qa.2.below hb,?_⟩⟩
  have:=qb.2.below hb
  rw[←hll,hn]at this
  exact this
 ·obtain⟨a,ha⟩: ∃a,x.is[j]? =some a:=⟨_,List.getElem?_eq_getElem (by rw[←hx.im];exact hj)⟩
  obtain⟨b,hb,hs⟩:=i2 j a ha
  unfold KB at hs
  simp only[Bool.and_eq_true,decide_eq_true_eq]at hs
  obtain⟨g1,o1,e1,k1⟩:=hx.i.elt ha
  obtain⟨g2,o2,e2,k2⟩:=hy.i.elt hb
  exact⟨a.t,b.t,a.dst,a.pay,g1,o1,g2,o2,e1,e2,hs.1,fun W' hb=>⟨⟨k1 W' hb 0 _ rfl,k1 W' hb 1 _ rfl,k1 W' hb 2 _ rfl⟩,⟨k2 W' hb 0 _ rfl,by rw[hs.2.1];exact k2 W' hb 1 _ rfl,by rw[hs.2.2];exact k2 W' hb 2 _ rfl⟩⟩⟩
end
end Go.Proofs.YtcdiljebkpikbaaGreat
