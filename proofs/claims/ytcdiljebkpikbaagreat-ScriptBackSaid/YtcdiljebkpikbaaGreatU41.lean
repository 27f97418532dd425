/- Parts of the proof: Ecw Sew Sev Sex Sfa. -/
import Derived.Test.YtcdiljebkpikbaaGreatU31
import Derived.Test.YtcdiljebkpikbaaGreatU33
import Derived.Test.YtcdiljebkpikbaaGreatU34
import Derived.Test.YtcdiljebkpikbaaGreatU37
import Derived.Test.YtcdiljebkpikbaaGreatU40
set_option linter.all false
set_option maxRecDepth 100000
set_option maxHeartbeats 64000000
namespace Go.Proofs.YtcdiljebkpikbaaGreat
section
open Go.ChangeShapes Go.WideShapes Go.ChangeAt Go.RowKit Go.Deep
theorem aT8:Tryz.prog.cellsOf 84=4:=by kernel_rfl
theorem aUB:Tryz.prog.cellsOf 85=1:=by kernel_rfl
theorem aUA:Tryz.prog.cellsOf 88=2:=by kernel_rfl
theorem aUh:Tryz.prog.cellsOf 86=1:=by kernel_rfl
theorem aTI:Tryz.prog.cellsOf 90=3:=by kernel_rfl
theorem aTS:Tryz.prog.cellsOf 24=1:=by kernel_rfl
theorem aUi:Tryz.prog.cellsOf 25=1:=by kernel_rfl
theorem aVe:Tryz.prog.cellsOf 26=1:=by kernel_rfl
theorem aUg:Tryz.prog.cellsOf 27=1:=by kernel_rfl
theorem aTq:Tryz.prog.cellsOf 29=6:=by kernel_rfl
section
variable {H:Type} {enc:TypeId×Value→H} {w:World} {spare:Nat→Bool} {held:Bool} {fuel:Nat} {cs:List Value} {x:DataW H×List MemPlace}
theorem ql {α:Type} (d0:α) {k:Nat} {encA:α→List Value} {R:α→Prop} {t e:TypeId} (ht:Tryz.prog.underlying t=some (.slice e)) (hc:Tryz.prog.cellsOf e=k) (hk0:0<k) (hk: ∀x,(encA x).length=k)
  (ho: ∀(fuel:Nat) (cs:List Value) (x:DataW H×List MemPlace),DataW.trod enc Tryz.prog w 0 spare held fuel e cs=some x→ ∃y,cs=encA y∧R y) (h:DataW.trod enc Tryz.prog w 0 spare held fuel t cs=some x):
  ∃(p:Option Addr) (n c:Nat) (l:List α),cs=[.slice p n c]∧n=l.length∧Vw k encA w (.slice p n c) l∧ ∀y∈l,R y:=by
 have h1: ∃v,cs=[v]:=by
  rcases open_slice ht h with⟨hcs,_⟩ | ⟨a,len,cap,m,n,D,Pl,hcs,_⟩
  ·exact⟨_,hcs⟩
  ·exact⟨_,hcs⟩
 obtain⟨v,rfl⟩:=h1
 obtain⟨p,n,c,l,rfl,h2,h3,h4⟩:=aUY d0 ht hc hk0 hk ho h
 exact⟨p,n,c,l,rfl,h2,h3,h4⟩
theorem aVq (h:DataW.trod enc Tryz.prog w 0 spare held fuel 84 cs=some x): ∃y:In,cs=inC y∧y.ok:=by
 cases fuel with
 |zero=>cases h
 | succ n=>
  obtain⟨hl,hf⟩:=aSM Tryz.underlying84 h
  rw[aT8]at hl
  match cs,hl with
  | [c0,c1,c2,c3],_=>
   simp[aSR]at hf
   obtain⟨⟨_,_,h0⟩,⟨_,_,h1⟩,⟨_,_,h2⟩,⟨_,_,h3⟩⟩:=hf
   obtain⟨z0,rfl,w0⟩:=qp Tryz.underlying3 h0
   obtain⟨z1,rfl,w1⟩:=qp Tryz.underlying3 h1
   obtain⟨z2,rfl,w2⟩:=qp Tryz.underlying3 h2
   obtain⟨z3,rfl,w3⟩:=qp Tryz.underlying3 h3
   exact⟨⟨z0,z1,z2,z3⟩,rfl,aSS w0,aSS w1,aSS w2,aSS w3⟩
theorem aVr (h:DataW.trod enc Tryz.prog w 0 spare held fuel 85 cs=some x): ∃q:Prg,cs=prC q∧q.n=q.l.length∧Vw 4 inC w (.slice q.p q.n q.c) q.l∧ ∀y∈q.l,y.ok:=by
 obtain⟨p,n,c,l,h1,h2,h3,h4⟩:=ql (R:=fun y:In=>y.ok) ⟨0,0,0,0⟩ Tryz.underlying85 aT8 (by decide) Ye (fun _ _ _ h=>aVq h) h
 exact⟨⟨p,n,c,l⟩,h1,h2,h3,h4⟩
theorem len1 {t:TypeId} (hu:Tryz.prog.underlying t=some (.int .i64)) (h:DataW.trod enc Tryz.prog w 0 spare held fuel t cs=some x): ∃c,cs=[c]:=by
 cases fuel with
 |zero=>cases h
 |succ n=>
  rcases cs with _| ⟨c,_| ⟨c2,t⟩⟩
  ·simp[DataW.trod,hu]at h
  ·exact⟨c,rfl⟩
  ·cases c<;>simp[DataW.trod,hu]at h
theorem lenF {t:TypeId} (hu:Tryz.prog.underlying t=some (.float .f64)) (h:DataW.trod enc Tryz.prog w 0 spare held fuel t cs=some x): ∃c,cs=[c]:=by
 cases fuel with
 |zero=>cases h
 |succ n=>
  rcases cs with _| ⟨c,_| ⟨c2,t⟩⟩
  ·simp[DataW.trod,hu]at h
  ·exact⟨c,rfl⟩
  ·cases c<;>simp[DataW.trod,hu]at h
theorem aUX (h:DataW.trod enc Tryz.prog w 0 spare held fuel 3 cs=some x): ∃z:Int,cs=wdC z∧okZ z:=by
 obtain⟨c,rfl⟩:=len1 Tryz.underlying3 h
 obtain⟨z0,rfl,w0⟩:=qp Tryz.underlying3 h
 exact⟨z0,rfl,aSS w0⟩
theorem aUW (h:DataW.trod enc Tryz.prog w 0 spare held fuel 23 cs=some x): ∃z:Nat,cs=flC z∧z<18446744073709551616:=by
 obtain⟨c,rfl⟩:=lenF Tryz.underlying23 h
 obtain⟨z0,rfl,w0⟩:=aS8 Tryz.underlying23 h
 exact⟨z0,rfl,aTD w0⟩
theorem aVQ (h:DataW.trod enc Tryz.prog w 0 spare held fuel 88 cs=some x): ∃q:LpR,cs=lpC q∧okZ q.k∧q.n=q.l.length∧Vw 1 wdC w (.slice q.p q.n q.c) q.l∧ ∀y∈q.l,okZ y:=by
 cases fuel with
 |zero=>cases h
 | succ n=>
  obtain⟨hl,hf⟩:=aSM Tryz.underlying88 h
  rw[aUA]at hl
  match cs,hl with
  | [c0,c1],_=>
   simp[aSR,aUh]at hf
   obtain⟨⟨_,_,h0⟩,⟨_,_,h1⟩⟩:=hf
   obtain⟨z0,rfl,w0⟩:=qp Tryz.underlying3 h0
   obtain⟨p,n,c,l,e,h2,h3,h4⟩:=ql (R:=okZ) 0 Tryz.underlying86 aSR (by decide) YG (fun _ _ _ h=>aUX h) h1
   injection e with e _
   subst e
   exact⟨⟨z0,p,n,c,l⟩,rfl,aSS w0,h2,h3,h4⟩
theorem aVp (h:DataW.trod enc Tryz.prog w 0 spare held fuel 90 cs=some x): ∃y:Ini,cs=aay y∧y.ok:=by
 cases fuel with
 |zero=>cases h
 | succ n=>
  obtain⟨hl,hf⟩:=aSM Tryz.underlying90 h
  rw[aTI]at hl
  match cs,hl with
  | [c0,c1,c2],_=>
   simp[aSR,aS7]at hf
   obtain⟨⟨_,_,h0⟩,⟨_,_,h1⟩,⟨_,_,h2⟩⟩:=hf
   obtain⟨z0,rfl,w0⟩:=aS8 Tryz.underlying23 h0
   obtain⟨z1,rfl,w1⟩:=qp Tryz.underlying3 h1
   obtain⟨z2,rfl,w2⟩:=qp Tryz.underlying3 h2
   exact⟨⟨z0,z1,z2⟩,rfl,aTD w0,aSS w1,aSS w2⟩
structure MdV.ok (x:MdV):Prop where
 seed:okZ x.seed
 en:x.en<18446744073709551616
 dl: ∀d∈x.dl,d<18446744073709551616
 ps: ∀q∈x.ps,∀y∈q.l,y.ok
 ls: ∀q∈x.ls,okZ q.k∧ ∀y∈q.l,okZ y
 is: ∀y∈x.is,y.ok
theorem aUq (h:DataW.trod enc Tryz.prog w 0 spare held fuel 29 cs=some x): ∃m:MdV,cs=mdC m∧qZ w m∧m.ok:=by
 cases fuel with
 |zero=>cases h
 | succ n=>
  obtain⟨hl,hf⟩:=aSM Tryz.underlying29 h
  rw[aTq]at hl
  match cs,hl with
  | [c0,c1,c2,c3,c4,c5],_=>
   simp[aSR,aS7,aTS,aUi,aVe,aUg]at hf
   obtain⟨⟨_,_,h0⟩,⟨_,_,h1⟩,⟨_,_,h2⟩,⟨_,_,h3⟩,⟨_,_,h4⟩,⟨_,_,h5⟩⟩:=hf
   obtain⟨z0,rfl,w0⟩:=qp Tryz.underlying3 h0
   obtain⟨z1,rfl,w1⟩:=aS8 Tryz.underlying23 h1
   obtain⟨p2,n2,k2,l2,e2,a2,b2,d2⟩:=ql (R:=fun z=>z<18446744073709551616) 0 Tryz.underlying24 aS7 (by decide) Ya (fun _ _ _ h=>aUW h) h2
   obtain⟨p3,n3,k3,l3,e3,a3,b3,d3⟩:=ql (R:=fun q:Prg=>q.n=q.l.length∧Vw 4 inC w (.slice q.p q.n q.c) q.l∧ ∀y∈q.l,y.ok) ⟨none,0,0,[]⟩ Tryz.underlying25 aUB (by decide) Yu (fun _ _ _ h=>aVr h) h3
   obtain⟨p4,n4,k4,l4,e4,a4,b4,d4⟩:=ql (R:=fun q:LpR=>okZ q.k∧q.n=q.l.length∧Vw 1 wdC w (.slice q.p q.n q.c) q.l∧ ∀y∈q.l,okZ y) ⟨0,none,0,0,[]⟩ Tryz.underlying26 aUA (by decide) Yg (fun _ _ _ h=>aVQ h) h4
   obtain⟨p5,n5,k5,l5,e5,a5,b5,d5⟩:=ql (R:=Ini.ok) ⟨0,0,0⟩ Tryz.underlying27 aTI (by decide) vL (fun _ _ _ h=>aVp h) h5
   injection e2 with e2 _
   injection e3 with e3 _
   injection e4 with e4 _
   injection e5 with e5 _
   subst e2 e3 e4 e5
   exact⟨⟨z0,z1,p2,n2,k2,l2,p3,n3,k3,l3,p4,n4,k4,l4,p5,n5,k5,l5⟩,rfl,⟨b2,a2,b3,a3,fun q hq=>⟨(d3 q hq).1,(d3 q hq).2.1⟩,b4,a4,fun q hq=>⟨(d4 q hq).2.1,(d4 q hq).2.2.1⟩,b5,a5⟩,⟨aSS w0,aTD w1,d2,fun q hq=>(d3 q hq).2.2,fun q hq=>⟨(d4 q hq).1,(d4 q hq).2.2.2⟩,d5⟩⟩
end
end
section
open Go.RowKit Go.Lib
structure Lw (B:Nat) (w w':World):Prop where
 b:Below B w w'
 t: ∀g T cs,T≠5→T≠75→Blk w g T cs→Blk w' g T cs
theorem Lw.refl (B:Nat) (w:World):Lw B w w:=⟨Below.refl _ _,fun _ _ _ _ _ h=>h⟩
theorem Lw.trans {B:Nat} {w w1 w2:World} (h:Lw B w w1) (k:Lw B w1 w2):Lw B w w2:=⟨h.b.trans k.b,fun g T cs ht hu hg=>k.t g T cs ht hu (h.t g T cs ht hu hg)⟩
theorem Lw.of {B:Nat} {w w1:World} (h:Below w.heap.size w w1) (hB:B≤w.heap.size):Lw B w w1:=⟨h.mono hB,fun g T cs _ _ hg=>hg.below h hg.lt⟩
theorem Lw.step {B:Nat} {w w1 w2:World} (h:Lw B w w1) (k:Below w1.heap.size w1 w2) (hB:B≤w.heap.size):Lw B w w2:=h.trans (.of k (Nat.le_trans hB h.b.size))
structure WtI (B wb:Nat) (w:World) (p:Option Addr) (n c:Nat) (b:Bs) (k:Int):Prop where
 bk:Blk w wb 75 #[.slice p n c,.int .i64 k]
 nl:n=b.length
 o:OB B w (.slice p n c) b
 lo:B≤wb
theorem aU8 {B wb:Nat} {w w2:World} {p:Option Addr} {n c:Nat} {b b':Bs} {k:Int} {v':Value} (h:WtI B wb w p n c b k) (hB:B≤w.heap.size) (hO:OB B w2 v' b') (hk:Kp (Value.slice p n c).ownBlock.toList w w2):
  ∃p' n' c',v'= .slice p' n' c'∧WtI B wb (w2.setCell ⟨wb,0,none⟩ (.slice p' n' c')) p' n' c' b' k∧Lw B w (w2.setCell ⟨wb,0,none⟩ (.slice p' n' c'))∧Blk w2 wb 75 #[.slice p n c,.int .i64 k]:=by
 have hO1:OB B w (.slice p n c) b:=h.o
 have hb2:Blk w2 wb 75 #[.slice p n c,.int .i64 k]:=h.bk.kp hk (fun hm=>yo hO1 h.bk (by decide) (Option.mem_toList.1 hm))
 obtain⟨p',c',rfl⟩:=zm hO
 have hne: ∀g,(Value.slice p' b'.length c').ownBlock=some g→g≠wb:=fun g hg e=>yo hO hb2 (by decide) (e▸hg)
 refine⟨p',_,c',rfl,⟨by simpa using hb2.set_ 0 _,rfl,xN hO (fun g hg=>Below.heap_setCell _ _ _ _ (hne g hg)),h.lo⟩,⟨?_,?_⟩,hb2⟩
 ·have hkb:Below B w w2:=hk.to_below hB (fun x hx=>(hO1.lt x (Option.mem_toList.1 hx)).1)
  have h3:Kp [wb] w2 (w2.setCell ⟨wb,0,none⟩ (.slice p' b'.length c')):=(Kp.refl _ _).setCell (.inl (by simp)) _
  exact hkb.trans (h3.to_below (Nat.le_trans hB hkb.size) (by simp;exact h.lo))
 ·intro g T cs h1 h2 hg
  exact(hg.kp hk (fun hm=>yo hO1 hg (Ne.symm h1) (Option.mem_toList.1 hm))).far (p:=⟨wb,0,none⟩) (fun e=>Blk.ne_ hg h.bk h2 e) _
theorem aUm (l:List Bs) (x:Bs) (h:l≠[]):abI (l++[x])=abI l++32::x:=by
 induction l with
 |nil=>exact absurd rfl h
 | cons a l ih=>
  cases l with
  |nil=>rfl
  |cons c l=>
   show a++32::abI (c::l++[x])=a++32::abI (c::l)++32::x
   rw[ih (by simp),List.append_assoc,List.cons_append]
theorem aUb: ∀(l:List Bs) (j:Nat),(abI (l.take j)).length≤(abI l).length
 | [],j=>by simp[abI]
 | [p],j=>by cases j<;>simp[abI]
 | p::q::r,j=>by
  cases j with
  |zero=>simp[abI]
  | succ j=>
   cases j with
   |zero=>simp[abI]
   |succ j=>
    have:=aUb (q::r) (j+1)
    simp only[List.take_succ_cons,abI,List.length_append,List.length_cons]at this⊢
    omega
theorem aT5 {ops:Array Oper} {rest:List Oper} {o:Oper} {a:Act} {Q:Exit→Act→World→Prop} (hgd:o.guard=none) (s x:Operand)
  (ho:o.op= .call { callee:= .builtin .append,args:= #[s,x],argTypes:= #[73,73] }) {B:Nat} {W:World} {v:Value} {b:Bs} (x0:UInt8) {z:Int} (hz:z=(x0.toNat:Int)) (hown:OB B W v b) (hn:b.length≤1000000) (hB:B≤W.heap.size)
  (hs:a.eval s=v) (hx:a.eval x= .slice (some ⟨W.heap.size,0,none⟩) 1 1)
  (h: ∀v' w',OB B w' v' (b++[x0])→Kp v.ownBlock.toList W w'→wpList Tryz.prog ops Q rest (a.put o.dst v') w'):wpList Tryz.prog ops Q (o::rest) a (W.alloc (.cells #[.int .u8 z] 5)):=by
 subst hz
 obtain⟨i0,hi0,hz0,hz1,hz2⟩:=info_parts aV0
 refine wpList_plain hgd fun K hK=>?_
 obtain⟨v',w',hr,h2,h3,h4⟩:=Qy (P:=Tryz.prog) (W.alloc (.cells (cB [x0]).toArray 5)) B 73 o.type 5 i0 (.int .u8 0) 1 1 Tryz.underlying73 hi0 hz0 hz1 hz2 rfl (by decide) v b.length _ (hown.alloc _) ⟨W.heap.size,0,none⟩ 1 (cB [x0]) rfl (aBw (Blk.new W 5 (cB [x0]).toArray)) (by intro u hu;simp[cB]at hu;subst hu;rfl) (by unfold maxLen;omega) (by omega) (by simp;omega)
 unfold Oper.wp execOp
 simp only[ho,resolve,invoke,builtin,Sem.run_bind,Sem.run_pure,Result.andThen_ok,List.map_toArray,List.map_cons,List.map_nil,hs,hx]
 erw [hr]
 refine hK _ _ (h v' w' (aTN h2 (by simp) (aL2 _ _).symm) (((Kp.refl _ W).alloc _).grown h3 (fun g hg=> .inl (Option.mem_toList.2 hg))))
theorem aWc {B wb:Nat} {w:World} {p:Option Addr} {n c:Nat} {b:Bs} {k:Int} (h:WtI B wb w p n c b k) (hB:B≤w.heap.size) (k':Int):WtI B wb (w.setCell ⟨wb,1,none⟩ (.int .i64 k')) p n c b k'∧Lw B w (w.setCell ⟨wb,1,none⟩ (.int .i64 k')):=by
 have hO1:OB B w (.slice p n c) b:=h.o
 have hne: ∀g,(Value.slice p n c).ownBlock=some g→g≠wb:=fun g hg e=>yo hO1 h.bk (by decide) (e▸hg)
 refine⟨⟨by simpa using h.bk.set_ 1 _,h.nl,xN hO1 (fun g hg=>Below.heap_setCell _ _ _ _ (hne g hg)),h.lo⟩,⟨?_,?_⟩⟩
 ·have h3:Kp [wb] w (w.setCell ⟨wb,1,none⟩ (.int .i64 k')):=(Kp.refl _ _).setCell (.inl (by simp)) _
  exact h3.to_below hB (by simp;exact h.lo)
 ·intro g T cs h1 h2 hg
  exact hg.far (p:=⟨wb,1,none⟩) (fun e=>Blk.ne_ hg h.bk h2 e) _
theorem aVw (l:List Bs):yv jQ l=l.map fun x=>Value.string (S x):=by
 induction l with
 |nil=>rfl
 |cons a l ih=>rw[jw,ih];rfl
theorem aUl {l:List Bs} {j:Nat} {z:Bs} (h:l[j]? =some z):abI (l.take (j+1))=if 0<j then abI (l.take j)++[32]++z else z:=by
 rw[List.take_add_one,h]
 split
 ·next hj=>
  have:l.take j≠[]:=by
   cases l with
   |nil=>cases h
   |cons a l=>cases j with
    |zero=>omega
    |succ j=>simp
  rw[Option.toList_some,aUm _ _ this,List.append_assoc]
  rfl
 ·next hj=>
  have:j=0:=by omega
  subst this
  rfl
theorem aUd {B wb g n c:Nat} {p:Option Addr} {w:World} {ws:List Bs} {b:Bs} {k:Int} (hw:WtI B wb w p n c b k) (hB:B≤w.heap.size) (hg:Blk w g 9 (yv jQ ws).toArray) (hl:ws.length≤1000) (hb:b.length+(abI ws).length≤900000) (hk:0≤k∧k≤100000):
  Calls Tryz.prog 31 #[.pointer (some ⟨wb,0,none⟩),.slice (some ⟨g,0,none⟩) ws.length ws.length] w fun r w'=>r= .returned (.tuple #[])∧(∃p' n' c',WtI B wb w' p' n' c' (b++abI ws++[10]) (k+1))∧Lw B w w':=by
 obtain⟨i0,hi,hz0,hz1,hz2⟩:=info_parts aV0
 obtain⟨m,hm⟩: ∃m,m=ws.length:=⟨_,rfl⟩
 rw[←hm]at hl⊢
 have HH:=hid (⟨hm,hb,hk⟩:_∧_∧_)
 have HI0:Hid (WtI B wb w p n c (b++abI (ws.take 0)) k∧Blk w g 9 (yv jQ ws).toArray∧Lw B w w):=hid ⟨by simpa[abI]using hw,hg,Lw.refl _ _⟩
 have hBB:=hB
 clear hw hg hb hk hm
 go_enter Tryz.func31,Tryz.ntmps31
 go_wp2
 go_loopg [8] m (fun gg s8 wr=> ∃(j:Nat) (p:Option Addr) (n c:Nat),j≤m∧m-j≤gg∧s8= .int .i64 j∧Hid (WtI B wb wr p n c (b++abI (ws.take j)) k∧Blk wr g 9 (yv jQ ws).toArray∧Lw B w wr))
 case atStart=>exact⟨0,p,n,c,by omega,by omega,rfl,HI0⟩
 case round=>
  obtain⟨j,p,n,c,hj,hgg,rfl,HI⟩:=hrel
  have hsz:=Nat.le_trans hBB HI.out.2.2.b.size
  by_cases hjn:j<m
  ·obtain⟨z,hz⟩: ∃z,ws[j]? =some z:=⟨_,List.getElem?_eq_getElem (by rw[←HH.out.1];exact hjn)⟩
   have hji:(j:Int)<(m:Int):=by omega
   have c1:wr.cell? ⟨g,j,none⟩=some (.string (S z)):=by rw[HI.out.2.1.cell,List.getElem?_toArray,aVw,List.getElem?_map,hz];rfl
   have c0:wr.cell? ⟨wb,0,none⟩=some (.slice p n c):=HI.out.1.bk.cell 0
   have HN:=hid (aUl hz)
   have HLe:=hid (aUb ws (j+1))
   have HJN:=hid hjn
   clear hz
   by_cases h0:0<j
   case' pos=>
    have hj0:(0:Int)<(j:Int):=by omega
    have HN:=hid (HN.out.trans (if_pos h0))
    have HLn:Hid ((b++abI (ws.take j)).length+1+z.length≤900000):=hid (by
     have:=HH.out.2.1;have:=HLe.out;have:=congrArg List.length HN.out
     simp only[List.length_append,List.length_cons,List.length_nil]at this⊢;omega)
    go_wp2_with (with_reducible refine yd .append rfl ?_)
    with_reducible refine ki ?_
    refine aT5 rfl _ _ rfl 32 rfl HI.out.1.o (by have:=HLn.out;omega) hsz rfl rfl ?_
    intro v' w2 hO2 hk2
    obtain⟨p2,n2,c2,rfl,hI2,hL2,hb2⟩:=aU8 HI.out.1 hsz hO2 hk2
    have f2:=hb2.frozen 0
    have l2:=hb2.lt
    have e2:w2.cell? ⟨wb,0,none⟩=some (.slice p n c):=hb2.cell 0
    have HO1:Hid (WtI B wb (w2.setCell ⟨wb,0,none⟩ (.slice p2 n2 c2)) p2 n2 c2 (b++abI (ws.take j)++[32]) k∧Blk (w2.setCell ⟨wb,0,none⟩ (.slice p2 n2 c2)) g 9 (yv jQ ws).toArray∧Lw B w (w2.setCell ⟨wb,0,none⟩ (.slice p2 n2 c2))∧b++abI (ws.take j)++[32]++z=b++abI (ws.take (j+1))):=hid ⟨hI2,hL2.t _ _ _ (by decide) (by decide) HI.out.2.1,HI.out.2.2.trans hL2,by rw[HN.out];simp only[List.append_assoc]⟩
    obtain⟨b1,hb1⟩: ∃x,x=b++abI (ws.take j)++[32]:=⟨_,rfl⟩
    have HLn:Hid (b1.length+z.length≤900000):=hid (by have:=HLn.out;rw[hb1];simp only[List.length_append,List.length_cons,List.length_nil]at this⊢;omega)
    rw[←hb1]at HO1
    clear hI2 hL2 hb2 hO2 hk2 hb1 c0 c1 HN
    obtain⟨w3,hw3⟩: ∃x,x=w2.setCell ⟨wb,0,none⟩ (.slice p2 n2 c2):=⟨_,rfl⟩
    rw[←hw3]at HO1
    have c0:w3.cell? ⟨wb,0,none⟩=some (.slice p2 n2 c2):=HO1.out.1.bk.cell 0
    go_upto_region 5 with fail
    rw[←hw3]
    clear e2 f2 l2 hw3
    go_wp2_with (with_reducible refine yd .append rfl ?_)
   case' neg=>
    have hj0: ¬(0:Int)<(j:Int):=by omega
    have HN:=hid (HN.out.trans (if_neg h0))
    have HO1:Hid (WtI B wb wr p n c (b++abI (ws.take j)) k∧Blk wr g 9 (yv jQ ws).toArray∧Lw B w wr∧b++abI (ws.take j)++z=b++abI (ws.take (j+1))):=hid ⟨HI.out.1,HI.out.2.1,HI.out.2.2,by
     have:j=0:=by omega
     subst this
     rw[HN.out];simp[abI]⟩
    obtain⟨b1,hb1⟩: ∃x,x=b++abI (ws.take j):=⟨_,rfl⟩
    have HLn:Hid (b1.length+z.length≤900000):=hid (by
     have:=HH.out.2.1;have:=HLe.out;have:=congrArg List.length HO1.out.2.2.2
     rw[←hb1]at this
     simp only[List.length_append,List.length_cons,List.length_nil]at this⊢;omega)
    rw[←hb1]at HO1
    clear hb1 HN
    go_wp2_with (with_reducible refine yd .append rfl ?_)
   all_goals
    with_reducible refine ki ?_
    refine wpList_append_own_string _ rfl _ _ 73 9 rfl B 5 i0 Tryz.underlying73 Tryz.underlying9 hi hz0 hz1 hz2 _ _ _ rfl HO1.out.1.o (S z) rfl (by rw[ja];have:=HLn.out;unfold maxLen;omega) (by rw[ja];have:=HLn.out;omega) (Nat.le_trans hBB HO1.out.2.2.1.b.size) ?_
    intro v' w4 hO4 hgr _
    rw[ja,aS4]at hO4
    obtain⟨p4,n4,c4,rfl,hI4,hL4,hb4⟩:=aU8 HO1.out.1 (Nat.le_trans hBB HO1.out.2.2.1.b.size) (aTN hO4 List.length_append.symm (aL2 _ _).symm) ((Kp.refl _ _).grown hgr (fun g hg=> .inl (Option.mem_toList.2 hg)))
    have f4:=hb4.frozen 0
    have l4:=hb4.lt
    have e4:=hb4.cell 0
    rw[HO1.out.2.2.2]at hI4
    have HF:=hid (⟨hI4,hL4.t _ _ _ (by decide) (by decide) HO1.out.2.1,HO1.out.2.2.1.trans hL4⟩:_∧_∧_)
    clear hI4 hL4 hb4 hO4 hgr c0
    go_wp2
    go_roundg (m- (j+1))
    case measure=>omega
    case rel=>exact⟨j+1,p4,n4,c4,by have:=HJN.out;omega,by omega,by go_num,HF⟩
  ·have hje:j=m:=by omega
   have hji: ¬(j:Int)<(m:Int):=by omega
   have HF:Hid (WtI B wb wr p n c (b++abI ws) k∧Lw B w wr):=hid (by
    have:=HI.out
    rw[hje,HH.out.1,List.take_length]at this
    exact⟨this.1,this.2.2⟩)
   have c0:wr.cell? ⟨wb,0,none⟩=some (.slice p n c):=HI.out.1.bk.cell 0
   go_wp2_with (with_reducible refine yd .append rfl ?_)
   with_reducible refine ki ?_
   refine aT5 rfl _ _ rfl 10 rfl HF.out.1.o (by have:=HH.out.2.1;rw[List.length_append];omega) hsz rfl rfl ?_
   intro v' w2 hO2 hk2
   obtain⟨p2,n2,c2,rfl,hI2,hL2,hb2⟩:=aU8 HF.out.1 hsz hO2 hk2
   have f2:=hb2.frozen 0
   have l2:=hb2.lt
   have e2:w2.cell? ⟨wb,0,none⟩=some (.slice p n c):=hb2.cell 0
   obtain⟨w3,hw3⟩: ∃x,x=w2.setCell ⟨wb,0,none⟩ (.slice p2 n2 c2):=⟨_,rfl⟩
   rw[←hw3]at hI2 hL2
   have f3:=hI2.bk.frozen 1
   have l3:=hI2.bk.lt
   have e3:w3.cell? ⟨wb,1,none⟩=some (.int .i64 k):=hI2.bk.cell 1
   have HG:=hid (⟨hI2,HF.out.2.trans hL2⟩:_∧_)
   have HW3:=hid hw3
   clear hI2 hL2 hb2 hO2 hk2 c0 hw3
   go_upto_region 8 with fail
   rw[←HW3.out]
   have hk0:=HH.out.2.2.1
   have hk1:=HH.out.2.2.2
   have HC:=hid (aWc HG.out.1 (Nat.le_trans hBB HG.out.2.b.size) (k+1))
   go_wp2
   go_end0
   exact⟨rfl,⟨_,_,_,HC.out.1⟩,HG.out.2.trans HC.out.2⟩
end
section
open Go.RowKit Go.Lib
theorem aTX {α:Type} {k:Nat} {enc:α→List Value} (hk: ∀x,(enc x).length=k) {w:World} {g B:Nat} {T:TypeId} {l:List α} (h:Blk w g T (yv enc l).toArray) (hB:B≤g) (hl:l.length≤1000):w.ownsRow B T k (.slice (some ⟨g,0,none⟩) l.length l.length) l.length (yv enc l):=by
 have hlen:=Kz hk l
 refine⟨hlen,.inr ⟨g,l.length,_,rfl,hB,h,Nat.le_refl _,by unfold maxLen;omega,by simpa using hlen,?_⟩⟩
 rw[List.take_of_length_le (by simp[hlen])]
theorem aSN {w:World} {g:Nat} {T:TypeId} {a b c d e:Value} (h:Blk w g T #[a,b,c,d,e]):w.cell? ⟨g,0,none⟩=some a∧w.cell? ⟨g,1,none⟩=some b∧w.cell? ⟨g,2,none⟩=some c∧w.cell? ⟨g,3,none⟩=some d∧w.cell? ⟨g,4,none⟩=some e:=(yq h).1
def WrP (W:World) (a:Ac) (r:Ending) (w':World):Prop:= ∃(p:Option Addr) (n c:Nat),r= .returned (.tuple #[.slice p n c,.bool (okA a)])∧(okA a=true→ ∃g,p=some ⟨g,0,none⟩∧n=(aos a).length∧c=n∧Blk w' g 9 (yv jQ (aos a)).toArray)∧Below W.heap.size W w'
theorem aVP {a:Ac} (h: ¬(1≤a.kind∧a.kind≤9)):okA a=false:=by
 unfold okA
 rw[decide_eq_false h,Bool.false_and]
theorem aVN {a:Ac} (hk:a.kind=7):okA a=(YH a.torn&&(YH a.bytes&&decide (a.keep.length≤64))):=by
 unfold okA
 rw[hk]
 rfl
theorem aVO {a:Ac} (h1:1≤a.kind∧a.kind≤9) (h3:a.kind≠3) (h7:a.kind≠7):okA a=YH a.n:=by
 unfold okA
 rw[decide_eq_true h1,if_neg h3,if_neg h7,Bool.true_and]
theorem aTP {W:World} {a:AcV} (ha:acd W a) (hl:a.keep.length≤1000) (on:okZ a.n) (ot:okZ a.torn) (ob:okZ a.bytes):Calls Tryz.prog 34 #[.agg #[.int .i64 a.kind,.int .i64 a.n,.slice a.kp a.kn a.kc,.int .i64 a.torn,.int .i64 a.bytes]] W (WrP W a.ac):=by
 obtain⟨kd,n,kp,kn,kc,kl,tt,bb⟩:=a
 dsimp only at hl on ot ob
 have hn:=ha.n
 have hv:=ha.k
 dsimp only at hn hv
 have HN:=hid hn
 have HV:=hid hv
 have HO:=hid (⟨hl,on,ot,ob⟩:_∧_∧_∧_)
 obtain⟨xb,hxb⟩: ∃k,k=W.heap.size:=⟨_,rfl⟩
 obtain⟨w1,hw1⟩: ∃w,w=W.alloc (.cells #[.int .i64 kd,.int .i64 n,.slice kp kn kc,.int .i64 tt,.int .i64 bb] 53):=⟨_,rfl⟩
 have hB:Blk w1 xb 53 #[.int .i64 kd,.int .i64 n,.slice kp kn kc,.int .i64 tt,.int .i64 bb]:=by rw[hw1,hxb];exact Blk.new _ _ _
 have HB:=hid (⟨hB,(by rw[hw1];exact(Below.refl _ W).alloc (Nat.le_refl _) _:Below W.heap.size W w1),hxb,hw1⟩:_∧_∧_∧_)
 obtain⟨⟨c0,c1,c2,c3,c4⟩,_,_⟩:=yq hB
 clear hB hxb hw1 ha hn hv hl on ot ob
 by_cases hk:1≤kd∧kd≤9
 ·by_cases h3:kd=3
  ·subst h3
   have HOK:Hid (okA (AcV.ac ⟨3,n,kp,kn,kc,kl,tt,bb⟩)=true):=hid rfl
   have HWO:Hid (aos (AcV.ac ⟨3,n,kp,kn,kc,kl,tt,bb⟩)=[kw 3]):=hid rfl
   have HNM:Hid (∀w,Calls Tryz.prog 49 #[.int .i64 3] w fun e w'=>e= .returned (.string (S (kw 3)))∧Below w.heap.size w w'):=hid (fun w=>ajP 3 (by omega) w)
   obtain⟨s1,hs1⟩: ∃s,s=kw 3:=⟨_,rfl⟩
   rw[←hs1]at HNM HWO
   clear hs1 hk
   go_enter Tryz.func34,Tryz.ntmps34
   go_upto_region 1 with fail
   rw[←HB.out.2.2.1,←HB.out.2.2.2]
   have HF:=hid (HNM.out w1)
   go_wp2_with fail
   (with_reducible refine HF.out.mono ?_)
   rintro r w2 ⟨rfl,hb⟩
   obtain⟨g6,hg6⟩: ∃k,k=w2.heap.size:=⟨_,rfl⟩
   obtain⟨w3,hw3⟩: ∃w,w=w2.alloc (.cells #[.string (S s1)] 9):=⟨_,rfl⟩
   have H6:Hid (Blk w3 g6 9 #[.string (S s1)]∧W.heap.size≤g6∧Below W.heap.size W w3):=hid ⟨by rw[hw3,hg6];exact Blk.new _ _ _,by rw[hg6];exact Nat.le_trans HB.out.2.1.size hb.size,by rw[hw3];exact(HB.out.2.1.trans (hb.mono HB.out.2.1.size)).alloc (Nat.le_trans HB.out.2.1.size hb.size) _⟩
   have HW3:=hid (⟨hg6,hw3⟩:_∧_)
   clear hg6 hw3 hb HF c0 c1 c2 c3 c4
   go_wp2
   rw[←HW3.out.1,←HW3.out.2]
   go_ret2
   refine⟨_,1,1,by rw[HOK.out];rfl,fun _=>⟨_,rfl,by rw[HWO.out];rfl,rfl,?_⟩,H6.out.2.2⟩
   rw[HWO.out]
   exact H6.out.1
  ·by_cases h7:kd=7
   ·subst h7
    have HOK:Hid (okA (AcV.ac ⟨7,n,kp,kn,kc,kl,tt,bb⟩)=(YH tt&&(YH bb&&decide (kl.length≤64)))):=hid (aVN rfl)
    have HWO:Hid (aos (AcV.ac ⟨7,n,kp,kn,kc,kl,tt,bb⟩)=[kw 7,XV kl,Xb tt,Xb bb]):=hid rfl
    have HNM:Hid (∀w,Calls Tryz.prog 49 #[.int .i64 7] w fun e w'=>e= .returned (.string (S (kw 7)))∧Below w.heap.size w w'):=hid (fun w=>ajP 7 (by omega) w)
    have HBI:Hid (∀w,Below W.heap.size W w→Calls Tryz.prog 74 #[.slice kp kn kc] w fun e w'=>e= .returned (.string (S (XV kl)))∧Below w.heap.size w w'):=hid (fun w hb=>aVc kl kp kn kc HN.out (by have:=HO.out.1;omega) w (HV.out.below hb))
    have HD1:=hid (fun w=>aST HO.out.2.2.1 w)
    have HD2:=hid (fun w=>aST HO.out.2.2.2 w)
    have HWI:Hid (∀w g,Blk w g 3 #[.int .i64 tt,.int .i64 bb]→Calls Tryz.prog 30 #[.slice (some ⟨g,0,none⟩) 2 2] w fun e w'=>e= .returned (.bool (YH tt&&YH bb))∧w=w'):=hid fun w g hb=>by
     have:=aTb [tt,bb] (some ⟨g,0,none⟩) 2 2 rfl (by simp) (by simp) w (Vw.of_own YG (aTX (B:=0) (l:=[tt,bb]) YG hb (Nat.zero_le _) (by simp)) rfl)
     simpa using this
    obtain⟨s1,hs1⟩: ∃s,s=kw 7:=⟨_,rfl⟩
    obtain⟨s2,hs2⟩: ∃s,s=XV kl:=⟨_,rfl⟩
    obtain⟨s3,hs3⟩: ∃s,s=Xb tt:=⟨_,rfl⟩
    obtain⟨s4,hs4⟩: ∃s,s=Xb bb:=⟨_,rfl⟩
    obtain⟨mb,hmb⟩: ∃b,b=(YH tt&&YH bb):=⟨_,rfl⟩
    obtain⟨lb,hlb⟩: ∃b,b=decide ((kn:Int)≤64):=⟨_,rfl⟩
    have HLB:Hid (decide ((kn:Int)≤64)=lb):=hid hlb.symm
    have HOK:Hid (okA (AcV.ac ⟨7,n,kp,kn,kc,kl,tt,bb⟩)=(mb&&lb)):=hid (by
     rw[HOK.out,hmb,hlb,HN.out,Bool.and_assoc]
     congr 2
     exact decide_eq_decide.2 (by omega))
    rw[←hs1]at HNM HWO
    rw[←hs2]at HBI HWO
    rw[←hs3]at HD1 HWO
    rw[←hs4]at HD2 HWO
    rw[←hmb]at HWI
    clear hs1 hs2 hs3 hs4 hmb hlb hk h3
    go_enter Tryz.func34,Tryz.ntmps34
    go_upto_region 6 with fail
    rw[←HB.out.2.2.1,←HB.out.2.2.2]
    obtain⟨gi,hgi⟩: ∃k,k=w1.heap.size:=⟨_,rfl⟩
    obtain⟨w2,hw2⟩: ∃w,w=w1.alloc (.cells #[.int .i64 tt,.int .i64 bb] 3):=⟨_,rfl⟩
    have HG:=hid (HWI.out w2 gi (by rw[hw2,hgi];exact Blk.new _ _ _))
    have HX:Hid (Below w1.heap.size w1 w2):=hid (by rw[hw2];exact(Below.refl _ _).alloc (Nat.le_refl _) _)
    have HW2:=hid (⟨hgi,hw2⟩:_∧_)
    clear hgi hw2
    go_wp2_with fail
    rw[←HW2.out.1,←HW2.out.2]
    (with_reducible refine HG.out.mono ?_)
    rintro r w3 ⟨rfl,rfl⟩
    clear HG HW2
    obtain⟨c0,c1,c2,c3,c4⟩:=aSN (HB.out.1.below HX.out HB.out.1.lt)
    have hlb:=HLB.out
    cases mb
    all_goals
     go_upto_region 7 with fail
     clear hlb
     refine zB (fun W'=>W'.cell? ⟨xb,0,none⟩=some (.int .i64 7)∧W'.cell? ⟨xb,1,none⟩=some (.int .i64 n)∧W'.cell? ⟨xb,2,none⟩=some (.slice kp kn kc)∧W'.cell? ⟨xb,3,none⟩=some (.int .i64 tt)∧W'.cell? ⟨xb,4,none⟩=some (.int .i64 bb)) 18 (by kernel_rfl) ⟨c0,c1,c2,c3,c4⟩ (fun hHeld=>?_)
     have HX:=hid (HX.out.drew)
     refine eT 0 hHeld ?_;(try simp only[Act.put,sEa,sEb,sEc]);refine eT 1 hHeld ?_;(try simp only[Act.put,sEa,sEb,sEc]);refine eT 3 hHeld ?_;(try simp only[Act.put,sEa,sEb,sEc]);refine eT 4 hHeld ?_;(try simp only[Act.put,sEa,sEb,sEc]);refine eT 5 hHeld ?_;(try simp only[Act.put,sEa,sEb,sEc]);refine eT 7 hHeld ?_;(try simp only[Act.put,sEa,sEb,sEc]);refine eT 8 hHeld ?_;(try simp only[Act.put,sEa,sEb,sEc]);refine eT 9 hHeld ?_;(try simp only[Act.put,sEa,sEb,sEc]);refine eT 11 hHeld ?_;(try simp only[Act.put,sEa,sEb,sEc]);refine eT 12 hHeld ?_;(try simp only[Act.put,sEa,sEb,sEc]);refine eT 13 hHeld ?_;(try simp only[Act.put,sEa,sEb,sEc]);refine eT 16 hHeld ?_;(try simp only[Act.put,sEa,sEb,sEc])
     refine eR 2 (fun K hK=>?_)
     go_simp
     (with_reducible refine(HNM.out _).mono ?_)
     rintro r v2 ⟨rfl,hb⟩
     have HX:=hid (HX.out.trans (hb.mono HX.out.size))
     clear hb
     refine hK.out _ _ (aSN (HB.out.1.below HX.out HB.out.1.lt)) (fun hHeld=>?_)
     clear hK K
     (try simp only[Act.put,sEa,sEb,sEc])
     refine eR 6 (fun K hK=>?_)
     go_simp
     (with_reducible refine(HBI.out _ (HB.out.2.1.trans (HX.out.mono HB.out.2.1.size))).mono ?_)
     rintro r v6 ⟨rfl,hb⟩
     have HX:=hid (HX.out.trans (hb.mono HX.out.size))
     clear hb
     refine hK.out _ _ (aSN (HB.out.1.below HX.out HB.out.1.lt)) (fun hHeld=>?_)
     clear hK K
     (try simp only[Act.put,sEa,sEb,sEc])
     refine eR 10 (fun K hK=>?_)
     go_simp
     (with_reducible refine(HD1.out _).mono ?_)
     rintro r v10 ⟨rfl,hb⟩
     have HX:=hid (HX.out.trans (hb.mono HX.out.size))
     clear hb
     refine hK.out _ _ (aSN (HB.out.1.below HX.out HB.out.1.lt)) (fun hHeld=>?_)
     clear hK K
     (try simp only[Act.put,sEa,sEb,sEc])
     refine eR 14 (fun K hK=>?_)
     go_simp
     (with_reducible refine(HD2.out _).mono ?_)
     rintro r v14 ⟨rfl,hb⟩
     have HX:=hid (HX.out.trans (hb.mono HX.out.size))
     clear hb
     refine hK.out _ _ (aSN (HB.out.1.below HX.out HB.out.1.lt)) (fun hHeld=>?_)
     clear hK K
     (try simp only[Act.put,sEa,sEb,sEc])
     refine eR 15 (fun K hK=>?_)
     go_simp
     obtain⟨v5,hw⟩: ∃w,w=World.alloc v14 (.cells #[.string (S s1),.string (S s2),.string (S s3),.string (S s4)] 9):=⟨_,rfl⟩
     have H6:Hid (Blk v5 (World.heap v14).size 9 #[.string (S s1),.string (S s2),.string (S s3),.string (S s4)]):=hid (by rw[hw];exact Blk.new _ _ _)
     have HG6:Hid (W.heap.size≤(World.heap v14).size):=hid (Nat.le_trans HB.out.2.1.size HX.out.size)
     have hb:Below (World.heap v14).size v14 v5:=by rw[hw];exact(Below.refl _ _).alloc (Nat.le_refl _) _
     rw[←hw]
     have HX:=hid (HX.out.trans (hb.mono HX.out.size))
     clear hb hw
     refine hK.out _ _ (aSN (HB.out.1.below HX.out HB.out.1.lt)) (fun hHeld=>?_)
     clear hK K
     (try simp only[Act.put,sEa,sEb,sEc])
     refine eT 17 hHeld ?_;(try simp only[Act.put,sEa,sEb,sEc]);refine eL (fun K hK=>?_);go_simp;refine hK.out _ _ ?_;clear hK K;(try simp only[Act.put,sEa,sEb,sEc])
     go_wp2
     go_ret2
     refine⟨_,4,4,by rw[HOK.out];rfl,fun _=>⟨_,rfl,by rw[HWO.out];rfl,rfl,?_⟩,HB.out.2.1.trans (HX.out.mono HB.out.2.1.size)⟩
     rw[HWO.out]
     exact H6.out
   ·obtain⟨k,hkk⟩: ∃k:Nat,(k:Int)=kd:=⟨kd.toNat,by omega⟩
    subst hkk
    have k1: ¬(k:Int)<1:=by omega
    have k2: ¬9<(k:Int):=by omega
    have k3:((k:Int)==3)=false:=by rw[beq_eq_false_iff_ne];exact h3
    have k7:((k:Int)==7)=false:=by rw[beq_eq_false_iff_ne];exact h7
    have HOK:Hid (okA (AcV.ac ⟨k,n,kp,kn,kc,kl,tt,bb⟩)=YH n):=hid (aVO hk h3 h7)
    have HWO:Hid (aos (AcV.ac ⟨k,n,kp,kn,kc,kl,tt,bb⟩)=[kw k,Xb n]):=hid (by
     unfold aos AcV.ac
     rw[if_neg h3,if_neg h7]
     rfl)
    have HNM:=hid (fun w=>ajP k (by omega) w)
    have HDG:=hid (fun w=>aST HO.out.2.1 w)
    have HWI:Hid (∀w g,Blk w g 3 #[.int .i64 n]→Calls Tryz.prog 30 #[.slice (some ⟨g,0,none⟩) 1 1] w fun e w'=>e= .returned (.bool (YH n))∧w=w'):=hid fun w g hb=>by
     have:=aTb [n] (some ⟨g,0,none⟩) 1 1 rfl (by simp) (by simp) w (Vw.of_own YG (aTX (B:=0) (l:=[n]) YG hb (Nat.zero_le _) (by simp)) rfl)
     simpa using this
    obtain⟨s1,hs1⟩: ∃s,s=kw k:=⟨_,rfl⟩
    obtain⟨s2,hs2⟩: ∃s,s=Xb n:=⟨_,rfl⟩
    obtain⟨mb,hmb⟩: ∃b,b=YH n:=⟨_,rfl⟩
    rw[←hs1]at HNM HWO
    rw[←hs2]at HDG HWO
    rw[←hmb]at HWI HOK
    clear hs1 hs2 hmb hk h3 h7
    go_enter Tryz.func34,Tryz.ntmps34
    go_upto_region 8 with fail
    rw[←HB.out.2.2.1,←HB.out.2.2.2]
    refine zB (fun W'=>W'.cell? ⟨xb,0,none⟩=some (.int .i64 k)∧W'.cell? ⟨xb,1,none⟩=some (.int .i64 n)∧W'.cell? ⟨xb,2,none⟩=some (.slice kp kn kc)∧W'.cell? ⟨xb,3,none⟩=some (.int .i64 tt)∧W'.cell? ⟨xb,4,none⟩=some (.int .i64 bb)) 12 (by kernel_rfl) ⟨c0,c1,c2,c3,c4⟩ (fun hHeld=>?_)
    have HX:Hid (Below w1.heap.size w1 w1.drew):=hid (Below.refl w1.heap.size w1).drew
    obtain⟨v1,hv1⟩: ∃w,w=w1.drew:=⟨_,rfl⟩
    rw[←hv1]at HX hHeld⊢
    clear hv1
    refine eT 0 hHeld ?_;(try simp only[Act.put,sEa,sEb,sEc]);refine eT 1 hHeld ?_;(try simp only[Act.put,sEa,sEb,sEc]);refine eT 3 hHeld ?_;(try simp only[Act.put,sEa,sEb,sEc]);refine eT 4 hHeld ?_;(try simp only[Act.put,sEa,sEb,sEc]);refine eT 7 hHeld ?_;(try simp only[Act.put,sEa,sEb,sEc]);refine eT 8 hHeld ?_;(try simp only[Act.put,sEa,sEb,sEc])
    refine eR2 (i:=2) (j:=9) (by(simp only[gEa,gEb,gEc];try rfl)) (by(simp only[gEa,gEb,gEc];try rfl)) (by kernel_rfl) (by rfl) (fun K hK=>?_) (fun K hK=>?_)
    ·go_simp
     (with_reducible refine(HNM.out _).mono ?_)
     rintro r v2 ⟨rfl,hb⟩
     have HX:=hid (HX.out.trans (hb.mono HX.out.size))
     clear hb
     refine hK.out _ _ (aSN (HB.out.1.below HX.out HB.out.1.lt)) (fun hHeld=>?_)
     clear hK K
     (try simp only[Act.put,sEa,sEb,sEc])
     refine eR2 (i:=5) (j:=9) (by(simp only[gEa,gEb,gEc];try rfl)) (by(simp only[gEa,gEb,gEc];try rfl)) (by kernel_rfl) (by rfl) (fun K hK=>?_) (fun K hK=>?_)
     ·go_simp
      (with_reducible refine(HDG.out _).mono ?_)
      rintro r v3 ⟨rfl,hb⟩
      have HX:=hid (HX.out.trans (hb.mono HX.out.size))
      clear hb
      refine hK.out _ _ (aSN (HB.out.1.below HX.out HB.out.1.lt)) (fun hHeld=>?_)
      clear hK K
      (try simp only[Act.put,sEa,sEb,sEc])
      refine eR2 (i:=6) (j:=9) (by(simp only[gEa,gEb,gEc];try rfl)) (by(simp only[gEa,gEb,gEc];try rfl)) (by kernel_rfl) (by rfl) (fun K hK=>?_) (fun K hK=>?_)
      ·go_simp
       obtain⟨v4,hw⟩: ∃w,w=World.alloc v3 (.cells #[.string (S s1),.string (S s2)] 9):=⟨_,rfl⟩
       have H6:Hid (Blk v4 (World.heap v3).size 9 #[.string (S s1),.string (S s2)]):=hid (by rw[hw];exact Blk.new _ _ _)
       have HG6:Hid (W.heap.size≤(World.heap v3).size):=hid (Nat.le_trans HB.out.2.1.size HX.out.size)
       have hb:Below (World.heap v3).size v3 v4:=by rw[hw];exact(Below.refl _ _).alloc (Nat.le_refl _) _
       rw[←hw]
       have HX:=hid (HX.out.trans (hb.mono HX.out.size))
       clear hb hw
       refine hK.out _ _ (aSN (HB.out.1.below HX.out HB.out.1.lt)) (fun hHeld=>?_)
       clear hK K
       (try simp only[Act.put,sEa,sEb,sEc])
       refine eR 9 (fun K hK=>?_)
       go_simp
       obtain⟨v5,hw⟩: ∃w,w=World.alloc v4 (.cells #[.int .i64 n] 3):=⟨_,rfl⟩
       have H9:Hid (Blk v5 (World.heap v4).size 3 #[.int .i64 n]):=hid (by rw[hw];exact Blk.new _ _ _)
       have hb:Below (World.heap v4).size v4 v5:=by rw[hw];exact(Below.refl _ _).alloc (Nat.le_refl _) _
       rw[←hw]
       have HX:=hid (HX.out.trans (hb.mono HX.out.size))
       have H6:=hid (H6.out.below hb H6.out.lt)
       clear hb hw
       refine hK.out _ _ (aSN (HB.out.1.below HX.out HB.out.1.lt)) (fun hHeld=>?_)
       clear hK K
       (try simp only[Act.put,sEa,sEb,sEc])
       refine eR 10 (fun K hK=>?_)
       go_simp
       (with_reducible refine(HWI.out _ _ H9.out).mono ?_)
       rintro r v9 ⟨rfl,rfl⟩
       refine hK.out _ _ (aSN (HB.out.1.below HX.out HB.out.1.lt)) (fun hHeld=>?_)
       clear hK K
       (try simp only[Act.put,sEa,sEb,sEc])
       refine eT 11 hHeld ?_;(try simp only[Act.put,sEa,sEb,sEc]);refine eL (fun K hK=>?_);go_simp;refine hK.out _ _ ?_;clear hK K;(try simp only[Act.put,sEa,sEb,sEc])
       go_wp2
       go_ret2
       refine⟨_,2,2,by rw[HOK.out];rfl,fun _=>⟨_,rfl,by rw[HWO.out];rfl,rfl,?_⟩,HB.out.2.1.trans (HX.out.mono HB.out.2.1.size)⟩
       rw[HWO.out]
       exact H6.out
      ·go_simp
       obtain⟨v4,hw⟩: ∃w,w=World.alloc v3 (.cells #[.int .i64 n] 3):=⟨_,rfl⟩
       have H9:Hid (Blk v4 (World.heap v3).size 3 #[.int .i64 n]):=hid (by rw[hw];exact Blk.new _ _ _)
       have hb:Below (World.heap v3).size v3 v4:=by rw[hw];exact(Below.refl _ _).alloc (Nat.le_refl _) _
       rw[←hw]
       have HX:=hid (HX.out.trans (hb.mono HX.out.size))
       clear hb hw
       refine hK.out _ _ (aSN (HB.out.1.below HX.out HB.out.1.lt)) (fun hHeld=>?_)
       clear hK K
       (try simp only[Act.put,sEa,sEb,sEc])
       refine eR2 (i:=6) (j:=10) (by(simp only[gEa,gEb,gEc];try rfl)) (by(simp only[gEa,gEb,gEc];try rfl)) (by kernel_rfl) (by rfl) (fun K hK=>?_) (fun K hK=>?_)
       ·go_simp
        obtain⟨v5,hw⟩: ∃w,w=World.alloc v4 (.cells #[.string (S s1),.string (S s2)] 9):=⟨_,rfl⟩
        have H6:Hid (Blk v5 (World.heap v4).size 9 #[.string (S s1),.string (S s2)]):=hid (by rw[hw];exact Blk.new _ _ _)
        have HG6:Hid (W.heap.size≤(World.heap v4).size):=hid (Nat.le_trans HB.out.2.1.size HX.out.size)
        have hb:Below (World.heap v4).size v4 v5:=by rw[hw];exact(Below.refl _ _).alloc (Nat.le_refl _) _
        rw[←hw]
        have HX:=hid (HX.out.trans (hb.mono HX.out.size))
        have H9:=hid (H9.out.below hb H9.out.lt)
        clear hb hw
        refine hK.out _ _ (aSN (HB.out.1.below HX.out HB.out.1.lt)) (fun hHeld=>?_)
        clear hK K
        (try simp only[Act.put,sEa,sEb,sEc])
        refine eR 10 (fun K hK=>?_)
        go_simp
        (with_reducible refine(HWI.out _ _ H9.out).mono ?_)
        rintro r v9 ⟨rfl,rfl⟩
        refine hK.out _ _ (aSN (HB.out.1.below HX.out HB.out.1.lt)) (fun hHeld=>?_)
        clear hK K
        (try simp only[Act.put,sEa,sEb,sEc])
        refine eT 11 hHeld ?_;(try simp only[Act.put,sEa,sEb,sEc]);refine eL (fun K hK=>?_);go_simp;refine hK.out _ _ ?_;clear hK K;(try simp only[Act.put,sEa,sEb,sEc])
        go_wp2
        go_ret2
        refine⟨_,2,2,by rw[HOK.out];rfl,fun _=>⟨_,rfl,by rw[HWO.out];rfl,rfl,?_⟩,HB.out.2.1.trans (HX.out.mono HB.out.2.1.size)⟩
        rw[HWO.out]
        exact H6.out
       ·go_simp
        (with_reducible refine(HWI.out _ _ H9.out).mono ?_)
        rintro r v9 ⟨rfl,rfl⟩
        refine hK.out _ _ (aSN (HB.out.1.below HX.out HB.out.1.lt)) (fun hHeld=>?_)
        clear hK K
        (try simp only[Act.put,sEa,sEb,sEc])
        refine eR 6 (fun K hK=>?_)
        go_simp
        obtain⟨v6,hw⟩: ∃w,w=World.alloc v4 (.cells #[.string (S s1),.string (S s2)] 9):=⟨_,rfl⟩
        have H6:Hid (Blk v6 (World.heap v4).size 9 #[.string (S s1),.string (S s2)]):=hid (by rw[hw];exact Blk.new _ _ _)
        have HG6:Hid (W.heap.size≤(World.heap v4).size):=hid (Nat.le_trans HB.out.2.1.size HX.out.size)
        have hb:Below (World.heap v4).size v4 v6:=by rw[hw];exact(Below.refl _ _).alloc (Nat.le_refl _) _
        rw[←hw]
        have HX:=hid (HX.out.trans (hb.mono HX.out.size))
        have H9:=hid (H9.out.below hb H9.out.lt)
        clear hb hw
        refine hK.out _ _ (aSN (HB.out.1.below HX.out HB.out.1.lt)) (fun hHeld=>?_)
        clear hK K
        (try simp only[Act.put,sEa,sEb,sEc])
        refine eT 11 hHeld ?_;(try simp only[Act.put,sEa,sEb,sEc]);refine eL (fun K hK=>?_);go_simp;refine hK.out _ _ ?_;clear hK K;(try simp only[Act.put,sEa,sEb,sEc])
        go_wp2
        go_ret2
        refine⟨_,2,2,by rw[HOK.out];rfl,fun _=>⟨_,rfl,by rw[HWO.out];rfl,rfl,?_⟩,HB.out.2.1.trans (HX.out.mono HB.out.2.1.size)⟩
        rw[HWO.out]
        exact H6.out
     ·go_simp
      obtain⟨v3,hw⟩: ∃w,w=World.alloc v2 (.cells #[.int .i64 n] 3):=⟨_,rfl⟩
      have H9:Hid (Blk v3 (World.heap v2).size 3 #[.int .i64 n]):=hid (by rw[hw];exact Blk.new _ _ _)
      have hb:Below (World.heap v2).size v2 v3:=by rw[hw];exact(Below.refl _ _).alloc (Nat.le_refl _) _
      rw[←hw]
      have HX:=hid (HX.out.trans (hb.mono HX.out.size))
      clear hb hw
      refine hK.out _ _ (aSN (HB.out.1.below HX.out HB.out.1.lt)) (fun hHeld=>?_)
      clear hK K
      (try simp only[Act.put,sEa,sEb,sEc])
      refine eR 5 (fun K hK=>?_)
      go_simp
      (with_reducible refine(HDG.out _).mono ?_)
      rintro r v4 ⟨rfl,hb⟩
      have HX:=hid (HX.out.trans (hb.mono HX.out.size))
      have H9:=hid (H9.out.below hb H9.out.lt)
      clear hb
      refine hK.out _ _ (aSN (HB.out.1.below HX.out HB.out.1.lt)) (fun hHeld=>?_)
      clear hK K
      (try simp only[Act.put,sEa,sEb,sEc])
      refine eR2 (i:=6) (j:=10) (by(simp only[gEa,gEb,gEc];try rfl)) (by(simp only[gEa,gEb,gEc];try rfl)) (by kernel_rfl) (by rfl) (fun K hK=>?_) (fun K hK=>?_)
      ·go_simp
       obtain⟨v5,hw⟩: ∃w,w=World.alloc v4 (.cells #[.string (S s1),.string (S s2)] 9):=⟨_,rfl⟩
       have H6:Hid (Blk v5 (World.heap v4).size 9 #[.string (S s1),.string (S s2)]):=hid (by rw[hw];exact Blk.new _ _ _)
       have HG6:Hid (W.heap.size≤(World.heap v4).size):=hid (Nat.le_trans HB.out.2.1.size HX.out.size)
       have hb:Below (World.heap v4).size v4 v5:=by rw[hw];exact(Below.refl _ _).alloc (Nat.le_refl _) _
       rw[←hw]
       have HX:=hid (HX.out.trans (hb.mono HX.out.size))
       have H9:=hid (H9.out.below hb H9.out.lt)
       clear hb hw
       refine hK.out _ _ (aSN (HB.out.1.below HX.out HB.out.1.lt)) (fun hHeld=>?_)
       clear hK K
       (try simp only[Act.put,sEa,sEb,sEc])
       refine eR 10 (fun K hK=>?_)
       go_simp
       (with_reducible refine(HWI.out _ _ H9.out).mono ?_)
       rintro r v9 ⟨rfl,rfl⟩
       refine hK.out _ _ (aSN (HB.out.1.below HX.out HB.out.1.lt)) (fun hHeld=>?_)
       clear hK K
       (try simp only[Act.put,sEa,sEb,sEc])
       refine eT 11 hHeld ?_;(try simp only[Act.put,sEa,sEb,sEc]);refine eL (fun K hK=>?_);go_simp;refine hK.out _ _ ?_;clear hK K;(try simp only[Act.put,sEa,sEb,sEc])
       go_wp2
       go_ret2
       refine⟨_,2,2,by rw[HOK.out];rfl,fun _=>⟨_,rfl,by rw[HWO.out];rfl,rfl,?_⟩,HB.out.2.1.trans (HX.out.mono HB.out.2.1.size)⟩
       rw[HWO.out]
       exact H6.out
      ·go_simp
       (with_reducible refine(HWI.out _ _ H9.out).mono ?_)
       rintro r v9 ⟨rfl,rfl⟩
       refine hK.out _ _ (aSN (HB.out.1.below HX.out HB.out.1.lt)) (fun hHeld=>?_)
       clear hK K
       (try simp only[Act.put,sEa,sEb,sEc])
       refine eR 6 (fun K hK=>?_)
       go_simp
       obtain⟨v6,hw⟩: ∃w,w=World.alloc v4 (.cells #[.string (S s1),.string (S s2)] 9):=⟨_,rfl⟩
       have H6:Hid (Blk v6 (World.heap v4).size 9 #[.string (S s1),.string (S s2)]):=hid (by rw[hw];exact Blk.new _ _ _)
       have HG6:Hid (W.heap.size≤(World.heap v4).size):=hid (Nat.le_trans HB.out.2.1.size HX.out.size)
       have hb:Below (World.heap v4).size v4 v6:=by rw[hw];exact(Below.refl _ _).alloc (Nat.le_refl _) _
       rw[←hw]
       have HX:=hid (HX.out.trans (hb.mono HX.out.size))
       have H9:=hid (H9.out.below hb H9.out.lt)
       clear hb hw
       refine hK.out _ _ (aSN (HB.out.1.below HX.out HB.out.1.lt)) (fun hHeld=>?_)
       clear hK K
       (try simp only[Act.put,sEa,sEb,sEc])
       refine eT 11 hHeld ?_;(try simp only[Act.put,sEa,sEb,sEc]);refine eL (fun K hK=>?_);go_simp;refine hK.out _ _ ?_;clear hK K;(try simp only[Act.put,sEa,sEb,sEc])
       go_wp2
       go_ret2
       refine⟨_,2,2,by rw[HOK.out];rfl,fun _=>⟨_,rfl,by rw[HWO.out];rfl,rfl,?_⟩,HB.out.2.1.trans (HX.out.mono HB.out.2.1.size)⟩
       rw[HWO.out]
       exact H6.out
    ·go_simp
     obtain⟨v2,hw⟩: ∃w,w=World.alloc v1 (.cells #[.int .i64 n] 3):=⟨_,rfl⟩
     have H9:Hid (Blk v2 (World.heap v1).size 3 #[.int .i64 n]):=hid (by rw[hw];exact Blk.new _ _ _)
     have hb:Below (World.heap v1).size v1 v2:=by rw[hw];exact(Below.refl _ _).alloc (Nat.le_refl _) _
     rw[←hw]
     have HX:=hid (HX.out.trans (hb.mono HX.out.size))
     clear hb hw
     refine hK.out _ _ (aSN (HB.out.1.below HX.out HB.out.1.lt)) (fun hHeld=>?_)
     clear hK K
     (try simp only[Act.put,sEa,sEb,sEc])
     refine eR 2 (fun K hK=>?_)
     go_simp
     (with_reducible refine(HNM.out _).mono ?_)
     rintro r v3 ⟨rfl,hb⟩
     have HX:=hid (HX.out.trans (hb.mono HX.out.size))
     have H9:=hid (H9.out.below hb H9.out.lt)
     clear hb
     refine hK.out _ _ (aSN (HB.out.1.below HX.out HB.out.1.lt)) (fun hHeld=>?_)
     clear hK K
     (try simp only[Act.put,sEa,sEb,sEc])
     refine eR 5 (fun K hK=>?_)
     go_simp
     (with_reducible refine(HDG.out _).mono ?_)
     rintro r v4 ⟨rfl,hb⟩
     have HX:=hid (HX.out.trans (hb.mono HX.out.size))
     have H9:=hid (H9.out.below hb H9.out.lt)
     clear hb
     refine hK.out _ _ (aSN (HB.out.1.below HX.out HB.out.1.lt)) (fun hHeld=>?_)
     clear hK K
     (try simp only[Act.put,sEa,sEb,sEc])
     refine eR2 (i:=6) (j:=10) (by(simp only[gEa,gEb,gEc];try rfl)) (by(simp only[gEa,gEb,gEc];try rfl)) (by kernel_rfl) (by rfl) (fun K hK=>?_) (fun K hK=>?_)
     ·go_simp
      obtain⟨v5,hw⟩: ∃w,w=World.alloc v4 (.cells #[.string (S s1),.string (S s2)] 9):=⟨_,rfl⟩
      have H6:Hid (Blk v5 (World.heap v4).size 9 #[.string (S s1),.string (S s2)]):=hid (by rw[hw];exact Blk.new _ _ _)
      have HG6:Hid (W.heap.size≤(World.heap v4).size):=hid (Nat.le_trans HB.out.2.1.size HX.out.size)
      have hb:Below (World.heap v4).size v4 v5:=by rw[hw];exact(Below.refl _ _).alloc (Nat.le_refl _) _
      rw[←hw]
      have HX:=hid (HX.out.trans (hb.mono HX.out.size))
      have H9:=hid (H9.out.below hb H9.out.lt)
      clear hb hw
      refine hK.out _ _ (aSN (HB.out.1.below HX.out HB.out.1.lt)) (fun hHeld=>?_)
      clear hK K
      (try simp only[Act.put,sEa,sEb,sEc])
      refine eR 10 (fun K hK=>?_)
      go_simp
      (with_reducible refine(HWI.out _ _ H9.out).mono ?_)
      rintro r v9 ⟨rfl,rfl⟩
      refine hK.out _ _ (aSN (HB.out.1.below HX.out HB.out.1.lt)) (fun hHeld=>?_)
      clear hK K
      (try simp only[Act.put,sEa,sEb,sEc])
      refine eT 11 hHeld ?_;(try simp only[Act.put,sEa,sEb,sEc]);refine eL (fun K hK=>?_);go_simp;refine hK.out _ _ ?_;clear hK K;(try simp only[Act.put,sEa,sEb,sEc])
      go_wp2
      go_ret2
      refine⟨_,2,2,by rw[HOK.out];rfl,fun _=>⟨_,rfl,by rw[HWO.out];rfl,rfl,?_⟩,HB.out.2.1.trans (HX.out.mono HB.out.2.1.size)⟩
      rw[HWO.out]
      exact H6.out
     ·go_simp
      (with_reducible refine(HWI.out _ _ H9.out).mono ?_)
      rintro r v9 ⟨rfl,rfl⟩
      refine hK.out _ _ (aSN (HB.out.1.below HX.out HB.out.1.lt)) (fun hHeld=>?_)
      clear hK K
      (try simp only[Act.put,sEa,sEb,sEc])
      refine eR 6 (fun K hK=>?_)
      go_simp
      obtain⟨v6,hw⟩: ∃w,w=World.alloc v4 (.cells #[.string (S s1),.string (S s2)] 9):=⟨_,rfl⟩
      have H6:Hid (Blk v6 (World.heap v4).size 9 #[.string (S s1),.string (S s2)]):=hid (by rw[hw];exact Blk.new _ _ _)
      have HG6:Hid (W.heap.size≤(World.heap v4).size):=hid (Nat.le_trans HB.out.2.1.size HX.out.size)
      have hb:Below (World.heap v4).size v4 v6:=by rw[hw];exact(Below.refl _ _).alloc (Nat.le_refl _) _
      rw[←hw]
      have HX:=hid (HX.out.trans (hb.mono HX.out.size))
      have H9:=hid (H9.out.below hb H9.out.lt)
      clear hb hw
      refine hK.out _ _ (aSN (HB.out.1.below HX.out HB.out.1.lt)) (fun hHeld=>?_)
      clear hK K
      (try simp only[Act.put,sEa,sEb,sEc])
      refine eT 11 hHeld ?_;(try simp only[Act.put,sEa,sEb,sEc]);refine eL (fun K hK=>?_);go_simp;refine hK.out _ _ ?_;clear hK K;(try simp only[Act.put,sEa,sEb,sEc])
      go_wp2
      go_ret2
      refine⟨_,2,2,by rw[HOK.out];rfl,fun _=>⟨_,rfl,by rw[HWO.out];rfl,rfl,?_⟩,HB.out.2.1.trans (HX.out.mono HB.out.2.1.size)⟩
      rw[HWO.out]
      exact H6.out
 ·have HOK:=hid (aVP (a:=AcV.ac ⟨kd,n,kp,kn,kc,kl,tt,bb⟩) hk)
  by_cases k1:kd<1
  ·clear hk
   go_enter Tryz.func34,Tryz.ntmps34
   go_upto_region 1 with fail
   rw[←HB.out.2.2.1,←HB.out.2.2.2]
   go_wp2
   go_ret2
   exact⟨none,0,0,by rw[HOK.out];rfl,(fun h=>by rw[HOK.out]at h;cases h),HB.out.2.1⟩
  ·have k2:9<kd:=by omega
   clear hk
   go_enter Tryz.func34,Tryz.ntmps34
   go_upto_region 1 with fail
   rw[←HB.out.2.2.1,←HB.out.2.2.2]
   go_wp2
   go_ret2
   exact⟨none,0,0,by rw[HOK.out];rfl,(fun h=>by rw[HOK.out]at h;cases h),HB.out.2.1⟩
end
section
open Go.RowKit Go.Lib
theorem aVx (a:Ac):(aos a).length≤4:=by
 unfold aos
 split
 ·simp
 ·split<;>simp
theorem aTf {a:Ac} (h:okA a=true):kH a=abI (aos a):=if_pos (aR3 h)
theorem aUI (k:Int):(kwI k).length≤10:=aMD _
theorem aTw {a:Ac} (h:okA a=true):(abI (aos a)).length≤300:=by
 have k1:=aUI a.kind
 by_cases h3:a.kind=3
 ·rw[aos,if_pos h3]
  simp only[abI]
  omega
 ·by_cases h7:a.kind=7
  ·obtain⟨h1,h2,h4⟩:=aR2 h7 h
   rw[aos,if_neg h3,if_pos h7]
   have q1:=af2 a.keep
   have q2:=X3 h1
   have q3:=X3 h2
   simp only[abI,List.length_append,List.length_cons]
   omega
  ·rw[aos,if_neg h3,if_neg h7]
   have q1:=X3 (aR4 h3 h7 h)
   simp only[abI,List.length_append,List.length_cons]
   omega
theorem aUa (l:Bs):(aTG l).length≤2*l.length+1:=by
 unfold aTG
 split
 ·simp
 ·rw[aT9];omega
def aU9 (s:Scr):List Bs:=[[119,111,114,108,100],Xb s.sec,Xb s.fr,aTG (aTe s.m)]
theorem aVi {s:Scr} (hm:s.m.lgt) (h1:YH s.sec=true) (h2:YH s.fr=true):(abI (aU9 s)).length≤91000:=by
 have q1:=X3 h1
 have q2:=X3 h2
 have q3:=aUa (aTe s.m)
 have q4:=aTz hm
 unfold aU9
 simp only[abI,List.length_append,List.length_cons,List.length_nil]
 omega
def aSU (l:List Ac):Bs:=l.flatMap fun a=>kH a++[10]
theorem aTV {l:List Ac} {j:Nat} {a:Ac} (h:l[j]? =some a):aSU (l.take (j+1))=aSU (l.take j)++(kH a++[10]):=by
 unfold aSU
 rw[List.take_add_one,h,List.flatMap_append]
 simp
theorem aUo {l:List Ac} (h: ∀a∈l,okA a=true):(aSU l).length≤301*l.length:=by
 unfold aSU
 induction l with
 |nil=>simp
 |cons a l ih=>
  have q:=ih fun x hx=>h x (List.mem_cons_of_mem _ hx)
  have q1:=aTw (h a (List.mem_cons_self ..))
  rw[←aTf (h a (List.mem_cons_self ..))]at q1
  rw[List.flatMap_cons,List.length_append,List.length_append,List.length_cons,List.length_cons]
  simp only[List.length_nil]
  omega
theorem aTR {s:Scr} (h:yM s.m=false):qc s=15∧qk s=[]:=by
 have h1:qc s=15:=if_pos h
 exact⟨h1,by unfold qk;rw[h1];rfl⟩
theorem aUe {s:Scr} (h:yM s.m=true) (h2:(YH s.sec&&YH s.fr)=false∨s.acts.all okA=false):qc s=2∧qk s=[]:=by
 have h1:qc s=2:=by
  unfold qc
  rw[if_neg (by rw[h];decide)]
  rcases h2 with h2|h2
  ·rw[if_pos h2]
  ·split
   ·rfl
   ·first |rfl|rw[if_pos h2]
 exact⟨h1,by unfold qk;rw[h1];rfl⟩
theorem aU7 {s:Scr} (h:yM s.m=true) (h2:(YH s.sec&&YH s.fr)=true) (h3:s.acts.all okA=true) (h4:1024<s.acts.length+2):qc s=11∧qk s=[]:=by
 have h1:qc s=11:=by
  unfold qc
  rw[if_neg (by rw[h];decide),if_neg (by rw[h2];decide),if_neg (by rw[h3];decide),if_pos h4]
 exact⟨h1,by unfold qk;rw[h1];rfl⟩
theorem aVA {s:Scr} (h:yM s.m=true) (h2:(YH s.sec&&YH s.fr)=true) (h3:s.acts.all okA=true) (h4: ¬1024<s.acts.length+2):qc s=0∧qk s=aTB s:=by
 have h1:qc s=0:=by
  unfold qc
  rw[if_neg (by rw[h];decide),if_neg (by rw[h2];decide),if_neg (by rw[h3];decide),if_neg h4]
 exact⟨h1,by unfold qk;rw[h1];rfl⟩
end
section
open Go.RowKit Go.Lib
def AcV.fine (a:AcV):Prop:=a.keep.length≤1000∧okZ a.n∧okZ a.torn∧okZ a.bytes
end
end Go.Proofs.YtcdiljebkpikbaaGreat
