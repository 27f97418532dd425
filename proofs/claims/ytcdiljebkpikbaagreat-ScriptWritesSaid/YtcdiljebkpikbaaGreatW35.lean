/- Parts of the proof: Oqw Orw Ecw Sez Sew. -/
import Derived.Test.YtcdiljebkpikbaaGreatRows
import Derived.Deep.Slices
import Derived.ProofKit
import Derived.SizedLaws
import Derived.Laws.Cover2
import Derived.Carry
import Derived.Test.YtcdiljebkpikbaaGreatS11
import Derived.Test.YtcdiljebkpikbaaGreatW31
import Derived.Test.YtcdiljebkpikbaaGreatW32
import Derived.Test.YtcdiljebkpikbaaGreatW34
set_option linter.all false
set_option maxRecDepth 100000
set_option maxHeartbeats 64000000
namespace Go.Proofs.YtcdiljebkpikbaaGreat
section
open Go.ChangeShapes Go.WideShapes Go.ChangeAt Go.RowKit Go.Deep
section
variable {H:Type} {enc:TypeId×Value→H} {P:Program} {w:World} {base:Nat} {spare:Nat→Bool} {held:Bool}
theorem aT9 {α β:Type} (f:α→Option β): ∀(l:List α) (ys:List β),l.mapM f=some ys→ ∀a∈l,∃b,f a=some b:=by
 intro l
 induction l with
 |nil=>intro ys _ a ha;cases ha
 | cons x l ih=>
  intro ys h a ha
  rw[List.mapM_cons]at h
  cases hx:f x with
  |none=>rw[hx]at h;cases h
  | some b=>
   cases hl:l.mapM f with
   |none=>rw[hx,hl]at h;cases h
   |some bs=>
    cases ha with
    |head=>exact⟨b,hx⟩
    |tail _ ha=>exact ih bs hl a ha
theorem xi {t:TypeId} {fs:Array Field} {n:Nat} {cs:List Value} {x:DataW H×List MemPlace} (hu:P.underlying t=some (.struct fs)) (h:DataW.trod enc P w base spare held (n+1) t cs=some x):
  cs.length=P.cellsOf t∧ ∀f∈fs.toList,∃y,DataW.trod enc P w base spare held n f.type ((cs.drop f.offset).take (P.cellsOf f.type))=some y:=by
 simp only[DataW.trod,hu]at h
 split at h
 ·rename_i hl
  refine⟨hl,?_⟩
  cases hm:fs.toList.mapM fun f=>DataW.trod enc P w base spare held n f.type ((cs.drop f.offset).take (P.cellsOf f.type))with
  |none=>rw[hm]at h;cases h
  |some ys=>exact aT9 _ _ ys hm
 ·cases h
theorem yy {t:TypeId} {k:IntKind} {n:Nat} {c:Value} {x:DataW H×List MemPlace} (hu:P.underlying t=some (.int k)) (h:DataW.trod enc P w base spare held n t [c]=some x): ∃z,c= .int k z∧(Lit.int k z).wf=true:=by
 cases n with
 |zero=>cases h
 |succ n=>
  cases c<;>simp[DataW.trod,hu]at h
  rename_i k' z
  obtain⟨⟨rfl,hw⟩,_⟩:=h
  exact⟨z,rfl,hw⟩
theorem aST {t:TypeId} {k:FloatKind} {n:Nat} {c:Value} {x:DataW H×List MemPlace} (hu:P.underlying t=some (.float k)) (h:DataW.trod enc P w base spare held n t [c]=some x): ∃z,c= .float k z∧(Lit.float k z).wf=true:=by
 cases n with
 |zero=>cases h
 |succ n=>
  cases c<;>simp[DataW.trod,hu]at h
  rename_i k' z
  obtain⟨⟨rfl,hw⟩,_⟩:=h
  exact⟨z,rfl,hw⟩
theorem aTg {b:Nat} (h:(Lit.float .f64 b).wf=true):b<18446744073709551616:=by
 simpa[Lit.wf,FloatKind.has]using h
theorem q8 {z:Int} (h:(Lit.int .i64 z).wf=true): -9223372036854775808≤z∧z<9223372036854775808:=by
 have:=h
 simp[Lit.wf,IntKind.has,IntKind.min,IntKind.max,IntKind.signed,IntKind.bits]at this
 omega
theorem aT0 {t:TypeId} {n:Nat} {c:Value} {x:DataW H×List MemPlace} (hu:P.underlying t=some .bool) (h:DataW.trod enc P w base spare held n t [c]=some x): ∃z,c= .bool z:=by
 cases n with
 |zero=>cases h
 |succ n=>
  cases c<;>simp[DataW.trod,hu]at h
  exact⟨_,rfl⟩
end
theorem ql:Tryz.prog.cellsOf 3=1:=by kernel_rfl
theorem aSS:Tryz.prog.cellsOf 23=1:=by kernel_rfl
end
section
open Go.ChangeShapes Go.WideShapes Go.ChangeAt Go.RowKit Go.Deep
section
variable {H:Type} {enc:TypeId×Value→H} {w:World} {spare:Nat→Bool} {held:Bool}
theorem aUd {α:Type} (d0:α) {k:Nat} {encA:α→List Value} {R:α→Prop} {t e:TypeId} (ht:Tryz.prog.underlying t=some (.slice e)) (hc:Tryz.prog.cellsOf e=k) (hk0:0<k) (hk: ∀x,(encA x).length=k)
  (ho: ∀(fuel:Nat) (cs:List Value) (x:DataW H×List MemPlace),DataW.trod enc Tryz.prog w 0 spare held fuel e cs=some x→ ∃y,cs=encA y∧R y) {fuel:Nat} {v:Value} {x:DataW H×List MemPlace} (h:DataW.trod enc Tryz.prog w 0 spare held fuel t [v]=some x):
  ∃(p:Option Addr) (n c:Nat) (l:List α),v= .slice p n c∧n=l.length∧Vw k encA w (.slice p n c) l∧ ∀y∈l,R y:=by
 rcases open_slice ht h with⟨hcs,_⟩ | ⟨a,len,cap,m,n,D,Pl,hcs,_,hl,hm,hmm,_,hel⟩
 ·simp at hcs
  subst hcs
  exact⟨none,0,0,[],rfl,rfl,Vw.nil _ _ _ _ _,by simp⟩
 ·simp at hcs
  subst hcs
  have hlm:len≤m:=by rw[hmm];split<;>omega
  have h1: ∀i,∃y:α,i<len→(R y∧ ∃cs',w.cells? 0 (a.add (i*k)) k=some cs'∧cs'=encA y):=by
   intro i
   by_cases hi:i<len
   ·obtain⟨cs',h1,h2⟩:=hel i (by omega)
    rw[hc]at h1
    obtain⟨y,hy,hr⟩:=ho _ _ _ h2
    exact⟨y,fun _=>⟨hr,cs',h1,hy⟩⟩
   ·exact⟨d0,fun h=>absurd h hi⟩
  obtain⟨F,hF⟩:=Classical.axiomOfChoice h1
  have hg: ∀i y,((List.range len).map F)[i]? =some y→i<len∧y=F i:=fun i y hy=>by
   have hi:i<len:=by
    have:=(List.getElem?_eq_some_iff.1 hy).1
    simpa using this
   refine⟨hi,?_⟩
   simp[hi]at hy
   exact hy.symm
  refine⟨some a,len,cap,(List.range len).map F,rfl,by simp,⟨some a,cap,by simp,by simpa using hl,?_⟩,?_⟩
  ·by_cases h0:len=0
   ·left;simp[h0]
   ·right
    obtain⟨b,off,spot⟩:=a
    have hcell: ∀i j,i<len→j<k→w.cell? ((⟨b,off,spot⟩:Addr).add (i*k+j))=(encA (F i))[j]? :=by
     intro i j hi hj
     obtain⟨_,cs',h1,h2⟩:=hF i hi
     rw[h2]at h1
     have h3:=World.cells?_some h1
     rw[←add_add]
     exact h3.2.2 j hj
    have hsome: ∀j,j<k→ ∃u,(encA (F 0))[j]? =some u:=fun j hj=>⟨_,List.getElem?_eq_getElem (by rw[hk];exact hj)⟩
    have hspot:spot=none:=by
     obtain⟨u,hu⟩:=hsome 0 hk0
     have:=(hcell 0 0 (by omega) hk0).trans hu
     simpa[Addr.add]using World.cell?_spot this
    subst hspot
    have hcell': ∀i j,i<len→j<k→w.cell? ⟨b,off+i*k+j,none⟩=(encA (F i))[j]? :=by
     intro i j hi hj
     have:=hcell i j hi hj
     rw[add_plain]at this
     rw[←this]
     congr 2
     omega
    refine⟨b,off,rfl,?_,fun i y hy q u hu=>?_⟩
    ·obtain⟨u,hu⟩:=hsome 0 hk0
     exact World.block_lt_of_cell? w _ ((hcell' 0 0 (by omega) hk0).trans hu)
    ·obtain⟨hi,rfl⟩:=hg i y hy
     have hq:q<k:=by
      have:=(List.getElem?_eq_some_iff.1 hu).1
      rwa[hk]at this
     exact(hcell' i q hi hq).trans hu
  ·intro y hy
   rw[List.mem_map]at hy
   obtain⟨i,hi,rfl⟩:=hy
   exact(hF i (by simpa using hi)).1
end
end
section
open Go.ChangeShapes Go.WideShapes Go.ChangeAt Go.RowKit Go.Deep
theorem aTz:Tryz.prog.cellsOf 84=4:=by kernel_rfl
theorem aTU:Tryz.prog.cellsOf 85=1:=by kernel_rfl
theorem aTT:Tryz.prog.cellsOf 88=2:=by kernel_rfl
theorem aTH:Tryz.prog.cellsOf 86=1:=by kernel_rfl
theorem aTi:Tryz.prog.cellsOf 90=3:=by kernel_rfl
theorem aTs:Tryz.prog.cellsOf 24=1:=by kernel_rfl
theorem aTI:Tryz.prog.cellsOf 25=1:=by kernel_rfl
theorem aUq:Tryz.prog.cellsOf 26=1:=by kernel_rfl
theorem aTG:Tryz.prog.cellsOf 27=1:=by kernel_rfl
theorem aS4:Tryz.prog.cellsOf 29=6:=by kernel_rfl
section
variable {H:Type} {enc:TypeId×Value→H} {w:World} {spare:Nat→Bool} {held:Bool} {fuel:Nat} {cs:List Value} {x:DataW H×List MemPlace}
theorem yb {α:Type} (d0:α) {k:Nat} {encA:α→List Value} {R:α→Prop} {t e:TypeId} (ht:Tryz.prog.underlying t=some (.slice e)) (hc:Tryz.prog.cellsOf e=k) (hk0:0<k) (hk: ∀x,(encA x).length=k)
  (ho: ∀(fuel:Nat) (cs:List Value) (x:DataW H×List MemPlace),DataW.trod enc Tryz.prog w 0 spare held fuel e cs=some x→ ∃y,cs=encA y∧R y) (h:DataW.trod enc Tryz.prog w 0 spare held fuel t cs=some x):
  ∃(p:Option Addr) (n c:Nat) (l:List α),cs=[.slice p n c]∧n=l.length∧Vw k encA w (.slice p n c) l∧ ∀y∈l,R y:=by
 have h1: ∃v,cs=[v]:=by
  rcases open_slice ht h with⟨hcs,_⟩ | ⟨a,len,cap,m,n,D,Pl,hcs,_⟩
  ·exact⟨_,hcs⟩
  ·exact⟨_,hcs⟩
 obtain⟨v,rfl⟩:=h1
 obtain⟨p,n,c,l,rfl,h2,h3,h4⟩:=aUd d0 ht hc hk0 hk ho h
 exact⟨p,n,c,l,rfl,h2,h3,h4⟩
theorem aUz (h:DataW.trod enc Tryz.prog w 0 spare held fuel 84 cs=some x): ∃y:In,cs=inC y∧y.ok:=by
 cases fuel with
 |zero=>cases h
 | succ n=>
  obtain⟨hl,hf⟩:=xi Tryz.underlying84 h
  rw[aTz]at hl
  match cs,hl with
  | [c0,c1,c2,c3],_=>
   simp[ql]at hf
   obtain⟨⟨_,_,h0⟩,⟨_,_,h1⟩,⟨_,_,h2⟩,⟨_,_,h3⟩⟩:=hf
   obtain⟨z0,rfl,w0⟩:=yy Tryz.underlying3 h0
   obtain⟨z1,rfl,w1⟩:=yy Tryz.underlying3 h1
   obtain⟨z2,rfl,w2⟩:=yy Tryz.underlying3 h2
   obtain⟨z3,rfl,w3⟩:=yy Tryz.underlying3 h3
   exact⟨⟨z0,z1,z2,z3⟩,rfl,q8 w0,q8 w1,q8 w2,q8 w3⟩
theorem aUA (h:DataW.trod enc Tryz.prog w 0 spare held fuel 85 cs=some x): ∃q:Prg,cs=prC q∧q.n=q.l.length∧Vw 4 inC w (.slice q.p q.n q.c) q.l∧ ∀y∈q.l,y.ok:=by
 obtain⟨p,n,c,l,h1,h2,h3,h4⟩:=yb (R:=fun y:In=>y.ok) ⟨0,0,0,0⟩ Tryz.underlying85 aTz (by decide) Ye (fun _ _ _ h=>aUz h) h
 exact⟨⟨p,n,c,l⟩,h1,h2,h3,h4⟩
theorem len1 {t:TypeId} (hu:Tryz.prog.underlying t=some (.int .i64)) (h:DataW.trod enc Tryz.prog w 0 spare held fuel t cs=some x): ∃c,cs=[c]:=by
 cases fuel with
 |zero=>cases h
 |succ n=>
  rcases cs with _| ⟨c,_| ⟨c2,t⟩⟩
  ·simp[DataW.trod,hu]at h
  ·exact⟨c,rfl⟩
  ·cases c<;>simp[DataW.trod,hu]at h
theorem lenF {t:TypeId} (hu:Tryz.prog.underlying t=some (.float .f64)) (h:DataW.trod enc Tryz.prog w 0 spare held fuel t cs=some x): ∃c,cs=[c]:=by
 cases fuel with
 |zero=>cases h
 |succ n=>
  rcases cs with _| ⟨c,_| ⟨c2,t⟩⟩
  ·simp[DataW.trod,hu]at h
  ·exact⟨c,rfl⟩
  ·cases c<;>simp[DataW.trod,hu]at h
theorem aUc (h:DataW.trod enc Tryz.prog w 0 spare held fuel 3 cs=some x): ∃z:Int,cs=wdC z∧okZ z:=by
 obtain⟨c,rfl⟩:=len1 Tryz.underlying3 h
 obtain⟨z0,rfl,w0⟩:=yy Tryz.underlying3 h
 exact⟨z0,rfl,q8 w0⟩
theorem aUb (h:DataW.trod enc Tryz.prog w 0 spare held fuel 23 cs=some x): ∃z:Nat,cs=flC z∧z<18446744073709551616:=by
 obtain⟨c,rfl⟩:=lenF Tryz.underlying23 h
 obtain⟨z0,rfl,w0⟩:=aST Tryz.underlying23 h
 exact⟨z0,rfl,aTg w0⟩
theorem aU4 (h:DataW.trod enc Tryz.prog w 0 spare held fuel 88 cs=some x): ∃q:LpR,cs=lpC q∧okZ q.k∧q.n=q.l.length∧Vw 1 wdC w (.slice q.p q.n q.c) q.l∧ ∀y∈q.l,okZ y:=by
 cases fuel with
 |zero=>cases h
 | succ n=>
  obtain⟨hl,hf⟩:=xi Tryz.underlying88 h
  rw[aTT]at hl
  match cs,hl with
  | [c0,c1],_=>
   simp[ql,aTH]at hf
   obtain⟨⟨_,_,h0⟩,⟨_,_,h1⟩⟩:=hf
   obtain⟨z0,rfl,w0⟩:=yy Tryz.underlying3 h0
   obtain⟨p,n,c,l,e,h2,h3,h4⟩:=yb (R:=okZ) 0 Tryz.underlying86 ql (by decide) YG (fun _ _ _ h=>aUc h) h1
   injection e with e _
   subst e
   exact⟨⟨z0,p,n,c,l⟩,rfl,q8 w0,h2,h3,h4⟩
theorem aUy (h:DataW.trod enc Tryz.prog w 0 spare held fuel 90 cs=some x): ∃y:Ini,cs=aay y∧y.ok:=by
 cases fuel with
 |zero=>cases h
 | succ n=>
  obtain⟨hl,hf⟩:=xi Tryz.underlying90 h
  rw[aTi]at hl
  match cs,hl with
  | [c0,c1,c2],_=>
   simp[ql,aSS]at hf
   obtain⟨⟨_,_,h0⟩,⟨_,_,h1⟩,⟨_,_,h2⟩⟩:=hf
   obtain⟨z0,rfl,w0⟩:=aST Tryz.underlying23 h0
   obtain⟨z1,rfl,w1⟩:=yy Tryz.underlying3 h1
   obtain⟨z2,rfl,w2⟩:=yy Tryz.underlying3 h2
   exact⟨⟨z0,z1,z2⟩,rfl,aTg w0,q8 w1,q8 w2⟩
structure MdV.ok (x:MdV):Prop where
 seed:okZ x.seed
 en:x.en<18446744073709551616
 dl: ∀d∈x.dl,d<18446744073709551616
 ps: ∀q∈x.ps,∀y∈q.l,y.ok
 ls: ∀q∈x.ls,okZ q.k∧ ∀y∈q.l,okZ y
 is: ∀y∈x.is,y.ok
theorem aTM (h:DataW.trod enc Tryz.prog w 0 spare held fuel 29 cs=some x): ∃m:MdV,cs=mdC m∧qZ w m∧m.ok:=by
 cases fuel with
 |zero=>cases h
 | succ n=>
  obtain⟨hl,hf⟩:=xi Tryz.underlying29 h
  rw[aS4]at hl
  match cs,hl with
  | [c0,c1,c2,c3,c4,c5],_=>
   simp[ql,aSS,aTs,aTI,aUq,aTG]at hf
   obtain⟨⟨_,_,h0⟩,⟨_,_,h1⟩,⟨_,_,h2⟩,⟨_,_,h3⟩,⟨_,_,h4⟩,⟨_,_,h5⟩⟩:=hf
   obtain⟨z0,rfl,w0⟩:=yy Tryz.underlying3 h0
   obtain⟨z1,rfl,w1⟩:=aST Tryz.underlying23 h1
   obtain⟨p2,n2,k2,l2,e2,a2,b2,d2⟩:=yb (R:=fun z=>z<18446744073709551616) 0 Tryz.underlying24 aSS (by decide) Ya (fun _ _ _ h=>aUb h) h2
   obtain⟨p3,n3,k3,l3,e3,a3,b3,d3⟩:=yb (R:=fun q:Prg=>q.n=q.l.length∧Vw 4 inC w (.slice q.p q.n q.c) q.l∧ ∀y∈q.l,y.ok) ⟨none,0,0,[]⟩ Tryz.underlying25 aTU (by decide) Yu (fun _ _ _ h=>aUA h) h3
   obtain⟨p4,n4,k4,l4,e4,a4,b4,d4⟩:=yb (R:=fun q:LpR=>okZ q.k∧q.n=q.l.length∧Vw 1 wdC w (.slice q.p q.n q.c) q.l∧ ∀y∈q.l,okZ y) ⟨0,none,0,0,[]⟩ Tryz.underlying26 aTT (by decide) Yg (fun _ _ _ h=>aU4 h) h4
   obtain⟨p5,n5,k5,l5,e5,a5,b5,d5⟩:=yb (R:=Ini.ok) ⟨0,0,0⟩ Tryz.underlying27 aTi (by decide) vL (fun _ _ _ h=>aUy h) h5
   injection e2 with e2 _
   injection e3 with e3 _
   injection e4 with e4 _
   injection e5 with e5 _
   subst e2 e3 e4 e5
   exact⟨⟨z0,z1,p2,n2,k2,l2,p3,n3,k3,l3,p4,n4,k4,l4,p5,n5,k5,l5⟩,rfl,⟨b2,a2,b3,a3,fun q hq=>⟨(d3 q hq).1,(d3 q hq).2.1⟩,b4,a4,fun q hq=>⟨(d4 q hq).2.1,(d4 q hq).2.2.1⟩,b5,a5⟩,⟨q8 w0,aTg w1,d2,fun q hq=>(d3 q hq).2.2,fun q hq=>⟨(d4 q hq).1,(d4 q hq).2.2.2⟩,d5⟩⟩
end
end
section
open Go.RowKit Go.Lib
def byU (b:UInt8):List Value:=[.int .u8 (b.toNat:Int)]
theorem aTR (b:UInt8):(byU b).length=1:=rfl
theorem aUR (b:UInt8): ∀u∈byU b,u.oneCell'=true:=by
 intro u hu
 simp[byU]at hu
 rw[hu];rfl
theorem aUF (l:Bs):yv byU l=cB l:=by
 unfold yv byU cB
 induction l with
 |nil=>rfl
 |cons b l ih=>rw[List.flatMap_cons,ih];rfl
theorem aUe (w:World) {B:Nat} (hB:B≤w.heap.size) (b:UInt8):(w.alloc (.cells #[.int .u8 (b.toNat:Int)] 5)).ownsRow B 5 1 (.slice (some ⟨w.heap.size,0,none⟩) 1 1) 1 (yv byU [b]):=
 ⟨by simp[yv,byU],.inr ⟨w.heap.size,1,#[.int .u8 (b.toNat:Int)],rfl,hB,heap_alloc_new w _,Nat.le_refl _,by unfold maxLen;omega,by simp,by simp[yv,byU]⟩⟩
theorem aUk (n:Nat) (hn:n<18446744073709551616) (w:World):
  Calls Tryz.prog 85 #[.int .u64 n] w fun r w'=>r= .returned (.string (S (be 8 n)))∧Below w.heap.size w w':=by
 have HN:=hid hn
 clear hn
 go_enter Tryz.func85,Tryz.ntmps85
 go_wp2
 go_loopg [0,3,4] 8 (fun gg s0 s3 s4 wr=> ∃(j k d:Nat) (q:Option Addr),j≤8∧8-j≤gg∧k<18446744073709551616∧s0= .int .u64 (k:Int)∧s3= .slice q j d∧s4= .int .i64 j∧Hid (k=n / 256^j∧wr.ownsRow w.heap.size 5 1 (.slice q j d) j (yv byU (be j n))∧Below w.heap.size w wr))
 case atStart=>exact⟨0,n,_,_,by omega,by omega,HN.out,rfl,rfl,rfl,hid ⟨by simp,World.ownsRow_nil _ _ _ _,Below.refl _ _⟩⟩
 case round=>
  obtain⟨j,k,d,q,hj,hgg,hk,rfl,rfl,rfl,HI⟩:=hrel
  by_cases hje:j<8
  ·have hji:(j:Int)<8:=by omega
   obtain⟨b,hb⟩: ∃b,b=UInt8.ofNat k:=⟨_,rfl⟩
   have hbi:Int.tmod (k:Int) 256=(b.toNat:Int):=by rw[hb,show((256:Int))=((256:Nat):Int)from rfl,←Int.ofNat_tmod];simp
   have hbl:(b.toNat:Int)<256:=by have:=b.toNat_lt;omega
   have hb0:(0:Int)≤(b.toNat:Int):=by omega
   have hw1:IntKind.u64.wrap (b.toNat:Int)=(b.toNat:Int):=by rw[IntKind.wrap_u64];omega
   have hw2:IntKind.u8.wrap (b.toNat:Int)=(b.toNat:Int):=by rw[IntKind.wrap_u8];omega
   have hq:Int.tdiv (k:Int) 256=((k / 256:Nat):Int):=by rw[show((256:Int))=((256:Nat):Int)from rfl,←Int.ofNat_tdiv]
   have hw3:IntKind.u64.wrap ((k / 256:Nat):Int)=((k / 256:Nat):Int):=by rw[IntKind.wrap_u64];omega
   have HB:=hid hb
   have hkk:k / 256<18446744073709551616:=by omega
   clear hb
   go_wp2_with (with_reducible refine yd .append rfl ?_)
   with_reducible refine ki ?_
   refine aUQ rfl _ _ 73 rfl byU aMt Tryz.underlying73 rfl (by decide) (by decide) aTR aUR (l:=[b]) (l2:=be j n) (aUe wr HI.out.2.2.size b) ((Vw.of_own aTR HI.out.2.1 (by simp)).below ((Below.refl _ wr).alloc (Nat.le_refl _) _)) (by rw[aL0];omega) (Nat.le_trans HI.out.2.2.size (by simp)) rfl rfl ?_
   intro v' W6 hO6 hk6
   rw[aL0,show 1+j=j+1 by omega]at hO6
   obtain⟨q6,d6,rfl⟩:=zm hO6
   have HI6:Hid (k / 256=n / 256^(j+1)∧W6.ownsRow w.heap.size 5 1 (.slice q6 (j+1) d6) (j+1) (yv byU (be (j+1) n))∧Below w.heap.size w W6):=hid (by
    refine⟨?_,?_,?_⟩
    ·rw[HI.out.1,Nat.div_div_eq_div_mul,Nat.pow_succ]
    ·rw[show be (j+1) n=[b]++be j n by rw[HB.out,HI.out.1];rfl]
     exact hO6
    ·exact(HI.out.2.2.alloc HI.out.2.2.size _).trans (hk6.to_below (HI.out.2.2.alloc HI.out.2.2.size _).size (fun g hm=>((aUe wr HI.out.2.2.size b).lt g (Option.mem_toList.1 hm)).1)))
   clear hO6 hk6 hbi hbl hb0 hw1 hw2
   go_wp2
   go_roundg (8- (j+1))
   case measure=>omega
   case rel=>exact⟨j+1,k / 256,_,_,by omega,by omega,hkk,rfl,rfl,by go_num,HI6⟩
  ·have hji: ¬((j:Int)<8):=by omega
   have hj8:j=8:=by omega
   subst hj8
   have HC:=Xj (b:=be 8 n) (by have h1:=HI.out.2.1;rw[aUF]at h1;rw[aL0];exact h1)
   go_wp2
   go_ret
   exact⟨rfl,HI.out.2.2⟩
theorem aUX (x:Int) (w:World):
  Calls Tryz.prog 76 #[.int .i64 x] w fun r w'=>r= .returned (.string (S (be 8 ((x+9223372036854775808)%18446744073709551616).toNat)))∧Below w.heap.size w w':=by
 have h1:=aTa x
 have HU:=hid (aUk ((x+9223372036854775808)%18446744073709551616).toNat (by omega))
 obtain⟨m,hm⟩: ∃m,m=((x+9223372036854775808)%18446744073709551616).toNat:=⟨_,rfl⟩
 rw[←hm]at h1 HU⊢
 clear hm
 go_enter Tryz.func76,Tryz.ntmps76
 go_wp2_with (go_at_call 85;refine(HU.out _).mono ?_;rintro r W1 ⟨rfl,hb1⟩)
 go_ret
 exact⟨rfl,hb1⟩
theorem aUL (x:Int) (h0: -9223372036854775808≤x) (h1:x<9223372036854775808) (w:World):
  Calls Tryz.prog 76 #[.int .i64 x] w fun r w'=>r= .returned (.string (S (X6 x)))∧Below w.heap.size w w':=by
 have h:=aUX x w
 rw[show((x+9223372036854775808)%18446744073709551616).toNat=(x+9223372036854775808).toNat by omega]at h
 exact h
theorem aTv (x:Nat) (hx:x<18446744073709551616) (w:World):
  Calls Tryz.prog 77 #[.float .f64 x] w fun r w'=>r= .returned (.string (S (agP x)))∧Below w.heap.size w w':=by
 have HU:=hid (aUk x hx)
 go_enter Tryz.func77,Tryz.ntmps77
 go_wp2_with fail
 (with_reducible refine(HU.out _).mono ?_)
 rintro r w1 ⟨rfl,hb⟩
 go_wp2
 go_ret
 exact⟨rfl,hb⟩
theorem aS2 {p:Option Addr} {m c:Nat} {l:List Int} {w:World} (hv:Vw 1 wdC w (.slice p m c) l) (hm:m=l.length) (hl:l.length≤1000) (hok: ∀z∈l,okZ z):
  Calls Tryz.prog 78 #[.slice p m c] w fun r w'=>r= .returned (.string (S (l.flatMap X6)))∧Below w.heap.size w w':=by
 obtain⟨i0,hi,hz0,hz1,hz2⟩:=info_parts aMt
 have HE:Hid (∀j z,l[j]? =some z→ ∃b o,p=some ⟨b,o,none⟩∧ ∀W',Below w.heap.size w W'→W'.cell? ⟨b,o+j,none⟩=some (.int .i64 z)):=hid fun j z hz=>by
  obtain⟨b,o,e,k⟩:=hv.elt hz
  exact⟨b,o,e,fun W' hb=>by have:=k W' hb 0 _ rfl;rw[Nat.mul_one]at this;exact this⟩
 have HH:=hid (⟨hm,hl,hok⟩:_∧_∧_)
 have HI0:Hid (OB w.heap.size w (.slice none 0 0) ((l.take 0).flatMap X6)∧Below w.heap.size w w):=hid ⟨OB.nil _ _,Below.refl _ _⟩
 have hml:(m:Int)≤1000:=by omega
 clear hv hok hm hl
 go_enter Tryz.func78,Tryz.ntmps78
 go_wp2_with fail
 go_loopg [3,4] m (fun gg s3 s4 wr=> ∃(j k d:Nat) (q:Option Addr),j≤m∧m-j≤gg∧s3= .slice q k d∧s4= .int .i64 j∧Hid (OB w.heap.size wr (.slice q k d) ((l.take j).flatMap X6)∧Below w.heap.size w wr))
 case atStart=>exact⟨0,0,0,none,by omega,by omega,rfl,rfl,HI0⟩
 case round=>
  obtain⟨j,k,d,q,hj,hgg,rfl,rfl,HI⟩:=hrel
  by_cases hjn:j<m
  ·obtain⟨z,hz⟩: ∃z,l[j]? =some z:=⟨_,List.getElem?_eq_getElem (by rw[←HH.out.1];exact hjn)⟩
   obtain⟨b,o,rfl,hc⟩:=HE.out j z hz
   have hji:(j:Int)<(m:Int):=by omega
   have c0:=hc wr HI.out.2
   have HZ:=hid (⟨hz,hjn⟩:_∧_)
   have hzz:=HH.out.2.2 z (List.mem_of_getElem? hz)
   have HF:=hid (aUL z hzz.1 hzz.2)
   clear hz hc hzz
   go_wp2_with fail
   (with_reducible refine(HF.out _).mono ?_)
   rintro r w1 ⟨rfl,hb1⟩
   have HO1:Hid (OB w.heap.size w1 (.slice q k d) ((l.take j).flatMap X6)∧Below w.heap.size w w1):=hid ⟨HI.out.1.below hb1,HI.out.2.trans (hb1.mono HI.out.2.size)⟩
   clear hb1 c0 HF
   go_wp2_with (with_reducible refine yd .append rfl ?_)
   with_reducible refine ki ?_
   have hll:((l.take j).flatMap X6).length≤8000:=by rw[aTl,List.length_take];have:=HH.out.1;omega
   refine wpList_append_own_string _ rfl _ _ 73 9 rfl w.heap.size 5 i0 Tryz.underlying73 Tryz.underlying9 hi hz0 hz1 hz2 _ _ _ rfl HO1.out.1 (S (X6 z)) rfl (by rw[ja,aAY];unfold maxLen;omega) (by rw[ja,aAY];omega) HO1.out.2.size ?_
   intro v' w2 hown2 hgr _
   rw[ja,ks]at hown2
   obtain⟨p2,c2,rfl⟩:=zm hown2
   obtain⟨k2,hk2⟩: ∃k,k=((l.take j).flatMap X6).length+(X6 z).length:=⟨_,rfl⟩
   rw[←hk2]at hown2⊢
   have HF:Hid (OB w.heap.size w2 (.slice p2 k2 c2) ((l.take (j+1)).flatMap X6)∧Below w.heap.size w w2):=hid ⟨by
     rw[aS6 HZ.out.1]
     exact aS9 hown2 (hk2.trans List.length_append.symm) (aL2 _ _).symm,HO1.out.2.trans (((Kp.refl (Value.slice q k d).ownBlock.toList _).grown hgr (fun g hg=> .inl (Option.mem_toList.2 hg))).to_below HO1.out.2.size (fun x hx=>(HO1.out.1.lt x (Option.mem_toList.1 hx)).1))⟩
   clear hown2 hgr hll hk2
   go_wp2
   go_roundg (m- (j+1))
   case measure=>have:=HZ.out.2;omega
   case rel=>exact⟨j+1,_,_,_,by have:=HZ.out.2;omega,by omega,rfl,by go_num,HF⟩
  ·have hje:j=m:=by omega
   have hji: ¬(j:Int)<(m:Int):=by omega
   have HF:Hid (OB w.heap.size wr (.slice q k d) (l.flatMap X6)∧Below w.heap.size w wr):=hid (by
    have:=HI.out
    rw[hje,HH.out.1,List.take_length]at this
    exact this)
   have hconv:=Xj HF.out.1
   go_wp2
   go_ret
   exact⟨rfl,HF.out.2⟩
end
section
open Go.RowKit Go.Lib
structure Lw (B:Nat) (w w':World):Prop where
 b:Below B w w'
 t: ∀g T cs,T≠5→T≠75→Blk w g T cs→Blk w' g T cs
theorem Lw.refl (B:Nat) (w:World):Lw B w w:=⟨Below.refl _ _,fun _ _ _ _ _ h=>h⟩
theorem Lw.trans {B:Nat} {w w1 w2:World} (h:Lw B w w1) (k:Lw B w1 w2):Lw B w w2:=⟨h.b.trans k.b,fun g T cs ht hu hg=>k.t g T cs ht hu (h.t g T cs ht hu hg)⟩
theorem Lw.of {B:Nat} {w w1:World} (h:Below w.heap.size w w1) (hB:B≤w.heap.size):Lw B w w1:=⟨h.mono hB,fun g T cs _ _ hg=>hg.below h hg.lt⟩
theorem Lw.step {B:Nat} {w w1 w2:World} (h:Lw B w w1) (k:Below w1.heap.size w1 w2) (hB:B≤w.heap.size):Lw B w w2:=h.trans (.of k (Nat.le_trans hB h.b.size))
structure WtI (B wb:Nat) (w:World) (p:Option Addr) (n c:Nat) (b:Bs) (k:Int):Prop where
 bk:Blk w wb 75 #[.slice p n c,.int .i64 k]
 nl:n=b.length
 o:OB B w (.slice p n c) b
 lo:B≤wb
theorem aUm {B wb:Nat} {w w2:World} {p:Option Addr} {n c:Nat} {b b':Bs} {k:Int} {v':Value} (h:WtI B wb w p n c b k) (hB:B≤w.heap.size) (hO:OB B w2 v' b') (hk:Kp (Value.slice p n c).ownBlock.toList w w2):
  ∃p' n' c',v'= .slice p' n' c'∧WtI B wb (w2.setCell ⟨wb,0,none⟩ (.slice p' n' c')) p' n' c' b' k∧Lw B w (w2.setCell ⟨wb,0,none⟩ (.slice p' n' c'))∧Blk w2 wb 75 #[.slice p n c,.int .i64 k]:=by
 have hO1:OB B w (.slice p n c) b:=h.o
 have hb2:Blk w2 wb 75 #[.slice p n c,.int .i64 k]:=h.bk.kp hk (fun hm=>yo hO1 h.bk (by decide) (Option.mem_toList.1 hm))
 obtain⟨p',c',rfl⟩:=zm hO
 have hne: ∀g,(Value.slice p' b'.length c').ownBlock=some g→g≠wb:=fun g hg e=>yo hO hb2 (by decide) (e▸hg)
 refine⟨p',_,c',rfl,⟨by simpa using hb2.set_ 0 _,rfl,xN hO (fun g hg=>Below.heap_setCell _ _ _ _ (hne g hg)),h.lo⟩,⟨?_,?_⟩,hb2⟩
 ·have hkb:Below B w w2:=hk.to_below hB (fun x hx=>(hO1.lt x (Option.mem_toList.1 hx)).1)
  have h3:Kp [wb] w2 (w2.setCell ⟨wb,0,none⟩ (.slice p' b'.length c')):=(Kp.refl _ _).setCell (.inl (by simp)) _
  exact hkb.trans (h3.to_below (Nat.le_trans hB hkb.size) (by simp;exact h.lo))
 ·intro g T cs h1 h2 hg
  exact(hg.kp hk (fun hm=>yo hO1 hg (Ne.symm h1) (Option.mem_toList.1 hm))).far (p:=⟨wb,0,none⟩) (fun e=>Blk.ne_ hg h.bk h2 e) _
theorem aTL (l:List Bs) (x:Bs) (h:l≠[]):abI (l++[x])=abI l++32::x:=by
 induction l with
 |nil=>exact absurd rfl h
 | cons a l ih=>
  cases l with
  |nil=>rfl
  |cons c l=>
   show a++32::abI (c::l++[x])=a++32::abI (c::l)++32::x
   rw[ih (by simp),List.append_assoc,List.cons_append]
theorem aTC: ∀(l:List Bs) (j:Nat),(abI (l.take j)).length≤(abI l).length
 | [],j=>by simp[abI]
 | [p],j=>by cases j<;>simp[abI]
 | p::q::r,j=>by
  cases j with
  |zero=>simp[abI]
  | succ j=>
   cases j with
   |zero=>simp[abI]
   |succ j=>
    have:=aTC (q::r) (j+1)
    simp only[List.take_succ_cons,abI,List.length_append,List.length_cons]at this⊢
    omega
theorem aTx {ops:Array Oper} {rest:List Oper} {o:Oper} {a:Act} {Q:Exit→Act→World→Prop} (hgd:o.guard=none) (s x:Operand)
  (ho:o.op= .call { callee:= .builtin .append,args:= #[s,x],argTypes:= #[73,73] }) {B:Nat} {W:World} {v:Value} {b:Bs} (x0:UInt8) {z:Int} (hz:z=(x0.toNat:Int)) (hown:OB B W v b) (hn:b.length≤1000000) (hB:B≤W.heap.size)
  (hs:a.eval s=v) (hx:a.eval x= .slice (some ⟨W.heap.size,0,none⟩) 1 1)
  (h: ∀v' w',OB B w' v' (b++[x0])→Kp v.ownBlock.toList W w'→wpList Tryz.prog ops Q rest (a.put o.dst v') w'):wpList Tryz.prog ops Q (o::rest) a (W.alloc (.cells #[.int .u8 z] 5)):=by
 subst hz
 obtain⟨i0,hi0,hz0,hz1,hz2⟩:=info_parts aVa
 refine wpList_plain hgd fun K hK=>?_
 obtain⟨v',w',hr,h2,h3,h4⟩:=Qy (P:=Tryz.prog) (W.alloc (.cells (cB [x0]).toArray 5)) B 73 o.type 5 i0 (.int .u8 0) 1 1 Tryz.underlying73 hi0 hz0 hz1 hz2 rfl (by decide) v b.length _ (hown.alloc _) ⟨W.heap.size,0,none⟩ 1 (cB [x0]) rfl (aBw (Blk.new W 5 (cB [x0]).toArray)) (by intro u hu;simp[cB]at hu;subst hu;rfl) (by unfold maxLen;omega) (by omega) (by simp;omega)
 unfold Oper.wp execOp
 simp only[ho,resolve,invoke,builtin,Sem.run_bind,Sem.run_pure,Result.andThen_ok,List.map_toArray,List.map_cons,List.map_nil,hs,hx]
 erw [hr]
 refine hK _ _ (h v' w' (aS9 h2 (by simp) (aL2 _ _).symm) (((Kp.refl _ W).alloc _).grown h3 (fun g hg=> .inl (Option.mem_toList.2 hg))))
theorem aVo {B wb:Nat} {w:World} {p:Option Addr} {n c:Nat} {b:Bs} {k:Int} (h:WtI B wb w p n c b k) (hB:B≤w.heap.size) (k':Int):WtI B wb (w.setCell ⟨wb,1,none⟩ (.int .i64 k')) p n c b k'∧Lw B w (w.setCell ⟨wb,1,none⟩ (.int .i64 k')):=by
 have hO1:OB B w (.slice p n c) b:=h.o
 have hne: ∀g,(Value.slice p n c).ownBlock=some g→g≠wb:=fun g hg e=>yo hO1 h.bk (by decide) (e▸hg)
 refine⟨⟨by simpa using h.bk.set_ 1 _,h.nl,xN hO1 (fun g hg=>Below.heap_setCell _ _ _ _ (hne g hg)),h.lo⟩,⟨?_,?_⟩⟩
 ·have h3:Kp [wb] w (w.setCell ⟨wb,1,none⟩ (.int .i64 k')):=(Kp.refl _ _).setCell (.inl (by simp)) _
  exact h3.to_below hB (by simp;exact h.lo)
 ·intro g T cs h1 h2 hg
  exact hg.far (p:=⟨wb,1,none⟩) (fun e=>Blk.ne_ hg h.bk h2 e) _
theorem aUH (l:List Bs):yv jQ l=l.map fun x=>Value.string (S x):=by
 induction l with
 |nil=>rfl
 |cons a l ih=>rw[jw,ih];rfl
theorem aTK {l:List Bs} {j:Nat} {z:Bs} (h:l[j]? =some z):abI (l.take (j+1))=if 0<j then abI (l.take j)++[32]++z else z:=by
 rw[List.take_add_one,h]
 split
 ·next hj=>
  have:l.take j≠[]:=by
   cases l with
   |nil=>cases h
   |cons a l=>cases j with
    |zero=>omega
    |succ j=>simp
  rw[Option.toList_some,aTL _ _ this,List.append_assoc]
  rfl
 ·next hj=>
  have:j=0:=by omega
  subst this
  rfl
theorem aTD {B wb g n c:Nat} {p:Option Addr} {w:World} {ws:List Bs} {b:Bs} {k:Int} (hw:WtI B wb w p n c b k) (hB:B≤w.heap.size) (hg:Blk w g 9 (yv jQ ws).toArray) (hl:ws.length≤1000) (hb:b.length+(abI ws).length≤900000) (hk:0≤k∧k≤100000):
  Calls Tryz.prog 31 #[.pointer (some ⟨wb,0,none⟩),.slice (some ⟨g,0,none⟩) ws.length ws.length] w fun r w'=>r= .returned (.tuple #[])∧(∃p' n' c',WtI B wb w' p' n' c' (b++abI ws++[10]) (k+1))∧Lw B w w':=by
 obtain⟨i0,hi,hz0,hz1,hz2⟩:=info_parts aVa
 obtain⟨m,hm⟩: ∃m,m=ws.length:=⟨_,rfl⟩
 rw[←hm]at hl⊢
 have HH:=hid (⟨hm,hb,hk⟩:_∧_∧_)
 have HI0:Hid (WtI B wb w p n c (b++abI (ws.take 0)) k∧Blk w g 9 (yv jQ ws).toArray∧Lw B w w):=hid ⟨by simpa[abI]using hw,hg,Lw.refl _ _⟩
 have hBB:=hB
 clear hw hg hb hk hm
 go_enter Tryz.func31,Tryz.ntmps31
 go_wp2
 go_loopg [8] m (fun gg s8 wr=> ∃(j:Nat) (p:Option Addr) (n c:Nat),j≤m∧m-j≤gg∧s8= .int .i64 j∧Hid (WtI B wb wr p n c (b++abI (ws.take j)) k∧Blk wr g 9 (yv jQ ws).toArray∧Lw B w wr))
 case atStart=>exact⟨0,p,n,c,by omega,by omega,rfl,HI0⟩
 case round=>
  obtain⟨j,p,n,c,hj,hgg,rfl,HI⟩:=hrel
  have hsz:=Nat.le_trans hBB HI.out.2.2.b.size
  by_cases hjn:j<m
  ·obtain⟨z,hz⟩: ∃z,ws[j]? =some z:=⟨_,List.getElem?_eq_getElem (by rw[←HH.out.1];exact hjn)⟩
   have hji:(j:Int)<(m:Int):=by omega
   have c1:wr.cell? ⟨g,j,none⟩=some (.string (S z)):=by rw[HI.out.2.1.cell,List.getElem?_toArray,aUH,List.getElem?_map,hz];rfl
   have c0:wr.cell? ⟨wb,0,none⟩=some (.slice p n c):=HI.out.1.bk.cell 0
   have HN:=hid (aTK hz)
   have HLe:=hid (aTC ws (j+1))
   have HJN:=hid hjn
   clear hz
   by_cases h0:0<j
   case' pos=>
    have hj0:(0:Int)<(j:Int):=by omega
    have HN:=hid (HN.out.trans (if_pos h0))
    have HLn:Hid ((b++abI (ws.take j)).length+1+z.length≤900000):=hid (by
     have:=HH.out.2.1;have:=HLe.out;have:=congrArg List.length HN.out
     simp only[List.length_append,List.length_cons,List.length_nil]at this⊢;omega)
    go_wp2_with (with_reducible refine yd .append rfl ?_)
    with_reducible refine ki ?_
    refine aTx rfl _ _ rfl 32 rfl HI.out.1.o (by have:=HLn.out;omega) hsz rfl rfl ?_
    intro v' w2 hO2 hk2
    obtain⟨p2,n2,c2,rfl,hI2,hL2,hb2⟩:=aUm HI.out.1 hsz hO2 hk2
    have f2:=hb2.frozen 0
    have l2:=hb2.lt
    have e2:w2.cell? ⟨wb,0,none⟩=some (.slice p n c):=hb2.cell 0
    have HO1:Hid (WtI B wb (w2.setCell ⟨wb,0,none⟩ (.slice p2 n2 c2)) p2 n2 c2 (b++abI (ws.take j)++[32]) k∧Blk (w2.setCell ⟨wb,0,none⟩ (.slice p2 n2 c2)) g 9 (yv jQ ws).toArray∧Lw B w (w2.setCell ⟨wb,0,none⟩ (.slice p2 n2 c2))∧b++abI (ws.take j)++[32]++z=b++abI (ws.take (j+1))):=hid ⟨hI2,hL2.t _ _ _ (by decide) (by decide) HI.out.2.1,HI.out.2.2.trans hL2,by rw[HN.out];simp only[List.append_assoc]⟩
    obtain⟨b1,hb1⟩: ∃x,x=b++abI (ws.take j)++[32]:=⟨_,rfl⟩
    have HLn:Hid (b1.length+z.length≤900000):=hid (by have:=HLn.out;rw[hb1];simp only[List.length_append,List.length_cons,List.length_nil]at this⊢;omega)
    rw[←hb1]at HO1
    clear hI2 hL2 hb2 hO2 hk2 hb1 c0 c1 HN
    obtain⟨w3,hw3⟩: ∃x,x=w2.setCell ⟨wb,0,none⟩ (.slice p2 n2 c2):=⟨_,rfl⟩
    rw[←hw3]at HO1
    have c0:w3.cell? ⟨wb,0,none⟩=some (.slice p2 n2 c2):=HO1.out.1.bk.cell 0
    go_upto_region 5 with fail
    rw[←hw3]
    clear e2 f2 l2 hw3
    go_wp2_with (with_reducible refine yd .append rfl ?_)
   case' neg=>
    have hj0: ¬(0:Int)<(j:Int):=by omega
    have HN:=hid (HN.out.trans (if_neg h0))
    have HO1:Hid (WtI B wb wr p n c (b++abI (ws.take j)) k∧Blk wr g 9 (yv jQ ws).toArray∧Lw B w wr∧b++abI (ws.take j)++z=b++abI (ws.take (j+1))):=hid ⟨HI.out.1,HI.out.2.1,HI.out.2.2,by
     have:j=0:=by omega
     subst this
     rw[HN.out];simp[abI]⟩
    obtain⟨b1,hb1⟩: ∃x,x=b++abI (ws.take j):=⟨_,rfl⟩
    have HLn:Hid (b1.length+z.length≤900000):=hid (by
     have:=HH.out.2.1;have:=HLe.out;have:=congrArg List.length HO1.out.2.2.2
     rw[←hb1]at this
     simp only[List.length_append,List.length_cons,List.length_nil]at this⊢;omega)
    rw[←hb1]at HO1
    clear hb1 HN
    go_wp2_with (with_reducible refine yd .append rfl ?_)
   all_goals
    with_reducible refine ki ?_
    refine wpList_append_own_string _ rfl _ _ 73 9 rfl B 5 i0 Tryz.underlying73 Tryz.underlying9 hi hz0 hz1 hz2 _ _ _ rfl HO1.out.1.o (S z) rfl (by rw[ja];have:=HLn.out;unfold maxLen;omega) (by rw[ja];have:=HLn.out;omega) (Nat.le_trans hBB HO1.out.2.2.1.b.size) ?_
    intro v' w4 hO4 hgr _
    rw[ja,ks]at hO4
    obtain⟨p4,n4,c4,rfl,hI4,hL4,hb4⟩:=aUm HO1.out.1 (Nat.le_trans hBB HO1.out.2.2.1.b.size) (aS9 hO4 List.length_append.symm (aL2 _ _).symm) ((Kp.refl _ _).grown hgr (fun g hg=> .inl (Option.mem_toList.2 hg)))
    have f4:=hb4.frozen 0
    have l4:=hb4.lt
    have e4:=hb4.cell 0
    rw[HO1.out.2.2.2]at hI4
    have HF:=hid (⟨hI4,hL4.t _ _ _ (by decide) (by decide) HO1.out.2.1,HO1.out.2.2.1.trans hL4⟩:_∧_∧_)
    clear hI4 hL4 hb4 hO4 hgr c0
    go_wp2
    go_roundg (m- (j+1))
    case measure=>omega
    case rel=>exact⟨j+1,p4,n4,c4,by have:=HJN.out;omega,by omega,by go_num,HF⟩
  ·have hje:j=m:=by omega
   have hji: ¬(j:Int)<(m:Int):=by omega
   have HF:Hid (WtI B wb wr p n c (b++abI ws) k∧Lw B w wr):=hid (by
    have:=HI.out
    rw[hje,HH.out.1,List.take_length]at this
    exact⟨this.1,this.2.2⟩)
   have c0:wr.cell? ⟨wb,0,none⟩=some (.slice p n c):=HI.out.1.bk.cell 0
   go_wp2_with (with_reducible refine yd .append rfl ?_)
   with_reducible refine ki ?_
   refine aTx rfl _ _ rfl 10 rfl HF.out.1.o (by have:=HH.out.2.1;rw[List.length_append];omega) hsz rfl rfl ?_
   intro v' w2 hO2 hk2
   obtain⟨p2,n2,c2,rfl,hI2,hL2,hb2⟩:=aUm HF.out.1 hsz hO2 hk2
   have f2:=hb2.frozen 0
   have l2:=hb2.lt
   have e2:w2.cell? ⟨wb,0,none⟩=some (.slice p n c):=hb2.cell 0
   obtain⟨w3,hw3⟩: ∃x,x=w2.setCell ⟨wb,0,none⟩ (.slice p2 n2 c2):=⟨_,rfl⟩
   rw[←hw3]at hI2 hL2
   have f3:=hI2.bk.frozen 1
   have l3:=hI2.bk.lt
   have e3:w3.cell? ⟨wb,1,none⟩=some (.int .i64 k):=hI2.bk.cell 1
   have HG:=hid (⟨hI2,HF.out.2.trans hL2⟩:_∧_)
   have HW3:=hid hw3
   clear hI2 hL2 hb2 hO2 hk2 c0 hw3
   go_upto_region 8 with fail
   rw[←HW3.out]
   have hk0:=HH.out.2.2.1
   have hk1:=HH.out.2.2.2
   have HC:=hid (aVo HG.out.1 (Nat.le_trans hBB HG.out.2.b.size) (k+1))
   go_wp2
   go_end0
   exact⟨rfl,⟨_,_,_,HC.out.1⟩,HG.out.2.trans HC.out.2⟩
end
end Go.Proofs.YtcdiljebkpikbaaGreat
