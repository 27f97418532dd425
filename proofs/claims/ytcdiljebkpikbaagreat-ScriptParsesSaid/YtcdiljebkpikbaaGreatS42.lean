/- Parts of the proof: Sdj Seq Scg Sch See Ser. -/
import Derived.Laws.EntriesVeiled
import Derived.Test.YtcdiljebkpikbaaGreatS31
import Derived.Test.YtcdiljebkpikbaaGreatS33
import Derived.Test.YtcdiljebkpikbaaGreatS35
import Derived.Test.YtcdiljebkpikbaaGreatS37
import Derived.Test.YtcdiljebkpikbaaGreatS39
import Derived.Test.YtcdiljebkpikbaaGreatS40
import Derived.Test.YtcdiljebkpikbaaGreatS41
set_option linter.all false
set_option maxRecDepth 100000
set_option maxHeartbeats 64000000
namespace Go.Proofs.YtcdiljebkpikbaaGreat
section
open Go.RowKit Go.Lib
def HdP (W:World) (ws:List Bs) (e:Ending) (w':World):Prop:= ∃(sec fr:Int) (y:MdV),e= .returned (.tuple #[.agg (scC ⟨sec,fr,y,none,0,0,[]⟩).toArray,.bool (yg ws).isSome])∧(∀z,yg ws=some z→(ScV.mk sec fr y none 0 0 []).s=z)∧MdF W.heap.size w' y∧Below W.heap.size W w'
theorem Xe {w w':World} {b:Nat} (e:w'.heap[b]? =w.heap[b]?) (h:b<w.heap.size):b<w'.heap.size:=by
 rw[Array.getElem?_eq_getElem h]at e
 exact(Array.getElem?_eq_some_iff.1 e).1
theorem zZ {w:World} {g:Nat} {T:TypeId} {a b c d e f i j k:Value} (h:Blk w g T #[a,b,c,d,e,f,i,j,k]):w.cell? ⟨g,0,none⟩=some a∧w.cell? ⟨g,1,none⟩=some b∧w.cell? ⟨g,2,none⟩=some c∧w.cell? ⟨g,3,none⟩=some d∧w.cell? ⟨g,4,none⟩=some e∧w.cell? ⟨g,5,none⟩=some f∧w.cell? ⟨g,6,none⟩=some i∧w.cell? ⟨g,7,none⟩=some j∧w.cell? ⟨g,8,none⟩=some k:=
 ⟨h.cell 0,h.cell 1,h.cell 2,h.cell 3,h.cell 4,h.cell 5,h.cell 6,h.cell 7,h.cell 8⟩
theorem yA {w:World} {g:Nat} {T:TypeId} {a b c d e f i j k:Value} (h:Blk w g T #[a,b,c,d,e,f,i,j,k]):w.frozen? ⟨g,0,none⟩=false∧w.frozen? ⟨g,1,none⟩=false∧w.frozen? ⟨g,2,none⟩=false∧w.frozen? ⟨g,3,none⟩=false∧w.frozen? ⟨g,4,none⟩=false∧w.frozen? ⟨g,5,none⟩=false∧w.frozen? ⟨g,6,none⟩=false∧w.frozen? ⟨g,7,none⟩=false∧w.frozen? ⟨g,8,none⟩=false∧g<w.heap.size:=
 ⟨h.frozen 0,h.frozen 1,h.frozen 2,h.frozen 3,h.frozen 4,h.frozen 5,h.frozen 6,h.frozen 7,h.frozen 8,h.lt⟩
theorem zS {W w:World} {r:Nat} {T:TypeId} {a b c d e f i j k:Value} (h:Below W.heap.size W w) (hb:Blk w r T #[a,b,c,d,e,f,i,j,k]) (hr:W.heap.size≤r) (l:List Value) (hl:l.length=9): ∃wz,wz=za w r 0 l∧Blk wz r T l.toArray∧Below W.heap.size W wz∧ ∀b,b≠r→wz.heap[b]? =w.heap[b]? :=by
 obtain⟨a',b',c',d',e',f',i',j',k',rfl⟩: ∃a b c d e f i j k,l=[a,b,c,d,e,f,i,j,k]:=by
  match l,hl with
  | [a,b,c,d,e,f,i,j,k],_=>exact⟨a,b,c,d,e,f,i,j,k,rfl⟩
 have h1:Blk (w.setCell ⟨r,0,none⟩ a') r T #[a',b,c,d,e,f,i,j,k]:=hb.set_ 0 a'
 have h2:Blk _ r T #[a',b',c,d,e,f,i,j,k]:=h1.set_ 1 b'
 have h3:Blk _ r T #[a',b',c',d,e,f,i,j,k]:=h2.set_ 2 c'
 have h4:Blk _ r T #[a',b',c',d',e,f,i,j,k]:=h3.set_ 3 d'
 have h5:Blk _ r T #[a',b',c',d',e',f,i,j,k]:=h4.set_ 4 e'
 have h6:Blk _ r T #[a',b',c',d',e',f',i,j,k]:=h5.set_ 5 f'
 have h7:Blk _ r T #[a',b',c',d',e',f',i',j,k]:=h6.set_ 6 i'
 have h8:Blk _ r T #[a',b',c',d',e',f',i',j',k]:=h7.set_ 7 j'
 have h9:Blk _ r T #[a',b',c',d',e',f',i',j',k']:=h8.set_ 8 k'
 refine⟨_,rfl,h9,?_,fun b hb=>yB _ _ _ _ _ hb⟩
 exact h.trans ((zU (O:=[r]) (.inl (by simp)) _ w 0 (Kp.refl _ _)).to_below h.size fun x hx=>by
  simp at hx
  omega)
theorem ah3 (ws:List Bs) (p:Option Addr) (n c:Nat) (hn:n=ws.length) (h0:ws≠[]) (hl: ∀x∈ws,x.length≤90000) (W:World) (hv:Vw 1 jQ W (.slice p n c) ws):Calls Tryz.prog 20 #[.slice p n c] W (HdP W ws):=by
 obtain⟨gb,off,cc,e1,e2,e3,e4⟩:=hv.ex h0
 injection e1 with e1 e5 e6
 subst e1 e6
 obtain⟨w0,hw0⟩: ∃w0,w0=ws.getD 0 []:=⟨_,rfl⟩
 have hg0:ws[0]? =some w0:=by
  rw[hw0]
  cases ws with
  |nil=>exact absurd rfl h0
  |cons a l=>rfl
 have HC:Hid (∀W',Below W.heap.size W W'→ ∀i x,ws[i]? =some x→W'.cell? ⟨gb,off+i,none⟩=some (.string (S x))):=hid fun W' hb i x hx=>by
  have:=e4 i x hx 0 (.string (S x)) rfl
  rw[←this]
  simpa using World.cell?_of_block (hb.block gb e3)
 have hlen:1≤n:=by rw[hn];exact List.length_pos_iff.2 h0
 have HW:=hid (⟨hn,h0,hg0,e3,hw0,hl⟩:_∧_∧_∧_∧_∧_)
 clear hv e2 e3 e4 e5 hn h0 hg0 hw0 hl
 obtain⟨r0,hr0⟩: ∃n,n=W.heap.size:=⟨_,rfl⟩
 obtain⟨W2,hW2⟩: ∃W2,W2=W.alloc (.cells #[.int .i64 0,.int .i64 0,.int .i64 0,.float .f64 0,.slice none 0 0,.slice none 0 0,.slice none 0 0,.slice none 0 0,.slice none 0 0] 32):=⟨_,rfl⟩
 have HR:Hid (Below W.heap.size W W2∧Blk W2 r0 32 #[.int .i64 0,.int .i64 0,.int .i64 0,.float .f64 0,.slice none 0 0,.slice none 0 0,.slice none 0 0,.slice none 0 0,.slice none 0 0]):=hid ⟨by rw[hW2];exact(Below.refl _ W).alloc (Nat.le_refl _) _,by rw[hW2,hr0];exact Blk.new W _ _⟩
 have HRW:=hid (⟨hr0,hW2⟩:_∧_)
 clear hr0 hW2
 go_enter Tryz.func20,Tryz.ntmps20
 go_upto_region 1 with fail
 rw[←HRW.out.1,←HRW.out.2]
 have hc0:=HC.out _ HR.out.1 0 w0 HW.out.2.2.1
 rw[Nat.add_zero]at hc0
 by_cases hn4:n=4
 ·subst hn4
  by_cases hw:w0=[119,111,114,108,100]
  ·subst hw
   obtain⟨w1,hw1⟩: ∃x,ws[1]? =some x:=⟨_,List.getElem?_eq_getElem (by rw[←HW.out.1];omega)⟩
   have HW1:Hid (ws.getD 1 []=w1∧w1.length≤90000):=hid ⟨by rw[List.getD_eq_getElem?_getD,hw1];rfl,HW.out.2.2.2.2.2 _ (List.mem_of_getElem? hw1)⟩
   have HC1:=hid (fun W' hb=>HC.out W' hb 1 w1 hw1)
   clear hw1
   obtain⟨w2,hw2⟩: ∃x,ws[2]? =some x:=⟨_,List.getElem?_eq_getElem (by rw[←HW.out.1];omega)⟩
   have HW2:Hid (ws.getD 2 []=w2∧w2.length≤90000):=hid ⟨by rw[List.getD_eq_getElem?_getD,hw2];rfl,HW.out.2.2.2.2.2 _ (List.mem_of_getElem? hw2)⟩
   have HC2:=hid (fun W' hb=>HC.out W' hb 2 w2 hw2)
   clear hw2
   obtain⟨w3,hw3⟩: ∃x,ws[3]? =some x:=⟨_,List.getElem?_eq_getElem (by rw[←HW.out.1];omega)⟩
   have HW3:Hid (ws.getD 3 []=w3∧w3.length≤90000):=hid ⟨by rw[List.getD_eq_getElem?_getD,hw3];rfl,HW.out.2.2.2.2.2 _ (List.mem_of_getElem? hw3)⟩
   have HC3:=hid (fun W' hb=>HC.out W' hb 3 w3 hw3)
   clear hw3
   have HO:Hid (yg ws=match yR w1,yR w2,xr w3 with
    |some n,some f,some s=>(match jE s with
     |some m=>some ⟨n,f,m,[]⟩
     |none=>none)
    |_,_,_=>none):=hid (by
     unfold yg
     rw[if_pos ⟨HW.out.1.symm,HW.out.2.2.2.2.1.symm⟩,HW1.out.1,HW2.out.1,HW3.out.1]
     rfl)
   obtain⟨o1,ho1⟩: ∃o,o=yR w1:=⟨_,rfl⟩
   obtain⟨o2,ho2⟩: ∃o,o=yR w2:=⟨_,rfl⟩
   obtain⟨o3,ho3⟩: ∃o,o=xr w3:=⟨_,rfl⟩
   have HN1:Hid (∀w,Calls Tryz.prog 46 #[.string (S w1)] w fun e w'=> ∃n:Int,e= .returned (.tuple #[.int .i64 n,.bool o1.isSome])∧(∀k,o1=some k→n=k)∧w=w'):=hid (by rw[ho1];exact kJ w1 HW1.out.2)
   have HN2:Hid (∀w,Calls Tryz.prog 46 #[.string (S w2)] w fun e w'=> ∃n:Int,e= .returned (.tuple #[.int .i64 n,.bool o2.isSome])∧(∀k,o2=some k→n=k)∧w=w'):=hid (by rw[ho2];exact kJ w2 HW2.out.2)
   have HN3:Hid (∀w,Calls Tryz.prog 47 #[.string (S w3)] w fun e w'=> ∃v:Bs,e= .returned (.tuple #[.string (S v),.bool o3.isSome])∧(∀z,o3=some z→v=z)∧v.length≤w3.length∧Below w.heap.size w w'):=hid (by rw[ho3];exact aii w3 HW3.out.2)
   rw[←ho1,←ho2,←ho3]at HO
   clear ho1 ho2 ho3
   have c1:=HC1.out _ HR.out.1
   have c2:=HC2.out _ HR.out.1
   have c3:=HC3.out _ HR.out.1
   go_upto_region 3 with fail
   have HF:=hid (HN1.out W2)
   go_wp2_with fail
   (with_reducible refine HF.out.mono ?_)
   rintro r w6 ⟨sec,rfl,hs1,rfl⟩
   have HF:=hid (HN2.out W2)
   go_wp2_with fail
   (with_reducible refine HF.out.mono ?_)
   rintro r w6 ⟨fr,rfl,hs2,rfl⟩
   have HF:=hid (HN3.out W2)
   go_wp2_with fail
   (with_reducible refine HF.out.mono ?_)
   rintro r w5 ⟨raw,rfl,hs3,hrl,hb5⟩
   have HT:=hid (⟨hs1,hs2,hs3⟩:_∧_∧_)
   have HR:=hid (⟨HR.out.1.trans (hb5.mono HR.out.1.size),HR.out.2.below hb5 HR.out.2.lt⟩:Below W.heap.size W w5∧Blk w5 r0 _ _)
   have HF:=hid (ai4 (s:=raw) (Nat.le_trans hrl (Nat.le_trans HW3.out.2 (by decide))) w5)
   have HLT:Hid (r0<w5.heap.size):=hid HR.out.2.lt
   have HB5:Hid (W.heap.size≤w5.heap.size):=hid HR.out.1.size
   clear hs1 hs2 hs3 hb5 hrl c1 c2 c3 hc0
   go_wp2_with fail
   (with_reducible refine HF.out.mono ?_)
   rintro r w6 ⟨y,ee,rfl,hmf,hb6,hgr⟩
   have HY:=hid (⟨hmf,hgr⟩:_∧_)
   have HR:=hid (⟨HR.out.1.trans (hb6.mono HR.out.1.size),HR.out.2.below hb6 HR.out.2.lt⟩:Below W.heap.size W w6∧Blk w6 r0 _ _)
   have HS6:=hid hb6.size
   clear hmf hgr hb6 HF
   obtain⟨yy,hyy⟩: ∃yy,yy=y:=⟨_,rfl⟩
   have HYY:=hid hyy
   rw[←hyy]at HY
   clear hyy
   obtain⟨sd,en,dp,dn,dc,dl,pp,pn,pc,ps,lp,ln,lc,ls,ip,im,ic,is⟩:=y
   unfold mdC
   go_upto_region 7 with fail
   obtain⟨w7,hw7⟩: ∃w7,w7=w6.alloc (.cells #[.int .i64 sd,.float .f64 en,.slice dp dn dc,.slice pp pn pc,.slice lp ln lc,.slice ip im ic] 29):=⟨_,rfl⟩
   obtain⟨m7,hm7⟩: ∃n,n=w6.heap.size:=⟨_,rfl⟩
   rw[←hm7,←hw7]
   have hb7:Blk w7 m7 29 #[.int .i64 sd,.float .f64 en,.slice dp dn dc,.slice pp pn pc,.slice lp ln lc,.slice ip im ic]:=by rw[hw7,hm7];exact Blk.new _ _ _
   have HR:=hid (⟨by rw[hw7];exact HR.out.1.alloc HR.out.1.size _,by rw[hw7];exact HR.out.2.alloc _⟩:Below W.heap.size W w7∧Blk w7 r0 32 #[.int .i64 0,.int .i64 0,.int .i64 0,.float .f64 0,.slice none 0 0,.slice none 0 0,.slice none 0 0,.slice none 0 0,.slice none 0 0])
   have HSA:Hid (∀wz,(∀b,b≠r0→wz.heap[b]? =w7.heap[b]?)→MdF W.heap.size wz yy):=hid fun wz h w2 h2=>HY.out.1 w2 fun b h1 h3=>by
    have e:wz.heap[b]? =w6.heap[b]? :=(h b (by have:=HLT.out;omega)).trans (by rw[hw7];exact Below.heap_alloc _ _ _ h3)
    exact(h2 b (by have:=HR.out.1.size;have:=HB5.out;omega) (Xe e h3)).trans e
   obtain⟨⟨a0,a1,a2,a3,a4,a5⟩,_,_⟩:=six hb7
   clear hw7 hm7 hb7
   cases o1 with
   |none=>
    have HO:Hid (yg ws=none):=hid HO.out
    obtain⟨z0,z1,z2,z3,z4,z5,z6,z7,z8⟩:=zZ HR.out.2
    obtain⟨y0,y1,y2,y3,y4,y5,y6,y7,y8,zlt⟩:=yA HR.out.2
    obtain⟨wz,hwz,hbz,hfz,hoz⟩:=zS HR.out.1 HR.out.2 (by rw[HRW.out.1];omega) [.int .i64 sec,.int .i64 fr,.int .i64 sd,.float .f64 en,.slice dp dn dc,.slice pp pn pc,.slice lp ln lc,.slice ip im ic,.slice none 0 0] rfl
    unfold za za za za za za za za za za at hwz
    have HZ:=hid (⟨hwz,hbz,hfz,hoz⟩:_∧_∧_∧_)
    clear hwz hbz hfz hoz
    go_wp2
    rw[←HZ.out.1]
    obtain⟨v0,v1,v2,v3,v4,v5,v6,v7,v8⟩:=zZ HZ.out.2.1
    refine bodyPost_ret (v:= .tuple #[.agg #[.int .i64 sec,.int .i64 fr,.int .i64 sd,.float .f64 en,.slice dp dn dc,.slice pp pn pc,.slice lp ln lc,.slice ip im ic,.slice none 0 0],.bool false]) (by simp[results,Tryz.results20,go_sem,v0,v1,v2,v3,v4,v5,v6,v7,v8]) rfl ?_
    exact⟨sec,fr,yy,by rw[HO.out,HYY.out];rfl,(fun z hz=>by rw[HO.out]at hz;cases hz),HSA.out _ HZ.out.2.2.2,HZ.out.2.2.1⟩
   | some n1=>
    cases o2 with
    |none=>
     have HO:Hid (yg ws=none):=hid HO.out
     obtain⟨z0,z1,z2,z3,z4,z5,z6,z7,z8⟩:=zZ HR.out.2
     obtain⟨y0,y1,y2,y3,y4,y5,y6,y7,y8,zlt⟩:=yA HR.out.2
     obtain⟨wz,hwz,hbz,hfz,hoz⟩:=zS HR.out.1 HR.out.2 (by rw[HRW.out.1];omega) [.int .i64 sec,.int .i64 fr,.int .i64 sd,.float .f64 en,.slice dp dn dc,.slice pp pn pc,.slice lp ln lc,.slice ip im ic,.slice none 0 0] rfl
     unfold za za za za za za za za za za at hwz
     have HZ:=hid (⟨hwz,hbz,hfz,hoz⟩:_∧_∧_∧_)
     clear hwz hbz hfz hoz
     go_wp2
     rw[←HZ.out.1]
     obtain⟨v0,v1,v2,v3,v4,v5,v6,v7,v8⟩:=zZ HZ.out.2.1
     refine bodyPost_ret (v:= .tuple #[.agg #[.int .i64 sec,.int .i64 fr,.int .i64 sd,.float .f64 en,.slice dp dn dc,.slice pp pn pc,.slice lp ln lc,.slice ip im ic,.slice none 0 0],.bool false]) (by simp[results,Tryz.results20,go_sem,v0,v1,v2,v3,v4,v5,v6,v7,v8]) rfl ?_
     exact⟨sec,fr,yy,by rw[HO.out,HYY.out];rfl,(fun z hz=>by rw[HO.out]at hz;cases hz),HSA.out _ HZ.out.2.2.2,HZ.out.2.2.1⟩
    | some f1=>
     cases o3 with
     |none=>
      have HO:Hid (yg ws=none):=hid HO.out
      obtain⟨z0,z1,z2,z3,z4,z5,z6,z7,z8⟩:=zZ HR.out.2
      obtain⟨y0,y1,y2,y3,y4,y5,y6,y7,y8,zlt⟩:=yA HR.out.2
      obtain⟨wz,hwz,hbz,hfz,hoz⟩:=zS HR.out.1 HR.out.2 (by rw[HRW.out.1];omega) [.int .i64 sec,.int .i64 fr,.int .i64 sd,.float .f64 en,.slice dp dn dc,.slice pp pn pc,.slice lp ln lc,.slice ip im ic,.slice none 0 0] rfl
      unfold za za za za za za za za za za at hwz
      have HZ:=hid (⟨hwz,hbz,hfz,hoz⟩:_∧_∧_∧_)
      clear hwz hbz hfz hoz
      go_wp2
      rw[←HZ.out.1]
      obtain⟨v0,v1,v2,v3,v4,v5,v6,v7,v8⟩:=zZ HZ.out.2.1
      refine bodyPost_ret (v:= .tuple #[.agg #[.int .i64 sec,.int .i64 fr,.int .i64 sd,.float .f64 en,.slice dp dn dc,.slice pp pn pc,.slice lp ln lc,.slice ip im ic,.slice none 0 0],.bool false]) (by simp[results,Tryz.results20,go_sem,v0,v1,v2,v3,v4,v5,v6,v7,v8]) rfl ?_
      exact⟨sec,fr,yy,by rw[HO.out,HYY.out];rfl,(fun z hz=>by rw[HO.out]at hz;cases hz),HSA.out _ HZ.out.2.2.2,HZ.out.2.2.1⟩
     | some s3=>
      have HG:Hid (yg ws=if ee=0 then some ⟨n1,f1,yy.m,[]⟩else none):=hid (by
       rw[HO.out]
       have h:=HY.out.2
       rw[HT.out.2.2 _ rfl]at h
       show(match jE s3 with
        |some m=>(some ⟨n1,f1,m,[]⟩:Option Scr)
        |none=>none)=_
       cases hg:jE s3 with
       |none=>rw[hg]at h;exact(if_neg h).symm
       |some x=>rw[hg]at h;rw[if_pos h.1,h.2])
      by_cases he:ee=0
      ·have HO:Hid (yg ws=some ⟨n1,f1,yy.m,[]⟩):=hid (by rw[HG.out,if_pos he])
       have heb:(ee==0)=true:=by rw[beq_iff_eq];exact he
       clear he
       obtain⟨z0,z1,z2,z3,z4,z5,z6,z7,z8⟩:=zZ HR.out.2
       obtain⟨y0,y1,y2,y3,y4,y5,y6,y7,y8,zlt⟩:=yA HR.out.2
       obtain⟨wz,hwz,hbz,hfz,hoz⟩:=zS HR.out.1 HR.out.2 (by rw[HRW.out.1];omega) [.int .i64 sec,.int .i64 fr,.int .i64 sd,.float .f64 en,.slice dp dn dc,.slice pp pn pc,.slice lp ln lc,.slice ip im ic,.slice none 0 0] rfl
       unfold za za za za za za za za za za at hwz
       have HZ:=hid (⟨hwz,hbz,hfz,hoz⟩:_∧_∧_∧_)
       clear hwz hbz hfz hoz
       go_wp2
       rw[←HZ.out.1]
       obtain⟨v0,v1,v2,v3,v4,v5,v6,v7,v8⟩:=zZ HZ.out.2.1
       refine bodyPost_ret (v:= .tuple #[.agg #[.int .i64 sec,.int .i64 fr,.int .i64 sd,.float .f64 en,.slice dp dn dc,.slice pp pn pc,.slice lp ln lc,.slice ip im ic,.slice none 0 0],.bool true]) (by simp[results,Tryz.results20,go_sem,v0,v1,v2,v3,v4,v5,v6,v7,v8]) rfl ?_
       exact⟨sec,fr,yy,by rw[HO.out,HYY.out];rfl,(fun z hz=>by rw[HO.out]at hz;injection hz with hz;rw[←hz,←HT.out.1 _ rfl,←HT.out.2.1 _ rfl];rfl),HSA.out _ HZ.out.2.2.2,HZ.out.2.2.1⟩
      ·have HO:Hid (yg ws=none):=hid (by rw[HG.out,if_neg he])
       have heb:(ee==0)=false:=by rw[beq_eq_false_iff_ne];exact he
       clear he
       obtain⟨z0,z1,z2,z3,z4,z5,z6,z7,z8⟩:=zZ HR.out.2
       obtain⟨y0,y1,y2,y3,y4,y5,y6,y7,y8,zlt⟩:=yA HR.out.2
       obtain⟨wz,hwz,hbz,hfz,hoz⟩:=zS HR.out.1 HR.out.2 (by rw[HRW.out.1];omega) [.int .i64 sec,.int .i64 fr,.int .i64 sd,.float .f64 en,.slice dp dn dc,.slice pp pn pc,.slice lp ln lc,.slice ip im ic,.slice none 0 0] rfl
       unfold za za za za za za za za za za at hwz
       have HZ:=hid (⟨hwz,hbz,hfz,hoz⟩:_∧_∧_∧_)
       clear hwz hbz hfz hoz
       go_wp2
       rw[←HZ.out.1]
       obtain⟨v0,v1,v2,v3,v4,v5,v6,v7,v8⟩:=zZ HZ.out.2.1
       refine bodyPost_ret (v:= .tuple #[.agg #[.int .i64 sec,.int .i64 fr,.int .i64 sd,.float .f64 en,.slice dp dn dc,.slice pp pn pc,.slice lp ln lc,.slice ip im ic,.slice none 0 0],.bool false]) (by simp[results,Tryz.results20,go_sem,v0,v1,v2,v3,v4,v5,v6,v7,v8]) rfl ?_
       exact⟨sec,fr,yy,by rw[HO.out,HYY.out];rfl,(fun z hz=>by rw[HO.out]at hz;cases hz),HSA.out _ HZ.out.2.2.2,HZ.out.2.2.1⟩
  ·have HO:Hid (yg ws=none):=hid (by
    unfold yg
    rw[if_neg]
    rintro⟨-,h⟩
    exact hw (by rw[HW.out.2.2.2.2.1,h]))
   have hwb:(w0==[119,111,114,108,100])=false:=by simpa using hw
   have hwc:(w0 != [119,111,114,108,100])=true:=by rw[bne,hwb];rfl
   clear hw
   obtain⟨z0,z1,z2,z3,z4,z5,z6,z7,z8⟩:=zZ HR.out.2
   obtain⟨y0,y1,y2,y3,y4,y5,y6,y7,y8,zlt⟩:=yA HR.out.2
   obtain⟨wz,hwz,hbz,hfz,hoz⟩:=zS HR.out.1 HR.out.2 (by rw[HRW.out.1];omega) [.int .i64 0,.int .i64 0,.int .i64 0,.float .f64 0,.slice none 0 0,.slice none 0 0,.slice none 0 0,.slice none 0 0,.slice none 0 0] rfl
   unfold za za za za za za za za za za at hwz
   have HZ:=hid (⟨hwz,hbz,hfz,hoz⟩:_∧_∧_∧_)
   clear hwz hbz hfz hoz
   go_wp2
   rw[←HZ.out.1]
   obtain⟨v0,v1,v2,v3,v4,v5,v6,v7,v8⟩:=zZ HZ.out.2.1
   refine bodyPost_ret (v:= .tuple #[.agg #[.int .i64 0,.int .i64 0,.int .i64 0,.float .f64 0,.slice none 0 0,.slice none 0 0,.slice none 0 0,.slice none 0 0,.slice none 0 0],.bool false]) (by simp[results,Tryz.results20,go_sem,v0,v1,v2,v3,v4,v5,v6,v7,v8]) rfl ?_
   exact⟨0,0,mdZ,by rw[HO.out];rfl,(fun z hz=>by rw[HO.out]at hz;cases hz),fun _ _=>qS _,HZ.out.2.2.1⟩
 ·have HO:Hid (yg ws=none):=hid (by
   unfold yg
   rw[if_neg]
   rintro⟨h,-⟩
   exact hn4 (by rw[HW.out.1,h]))
  have hnz:((n:Int)==4)=false:=by rw[beq_eq_false_iff_ne];omega
  have hnz2:((n:Int) != 4)=true:=by rw[bne_iff_ne];omega
  obtain⟨z0,z1,z2,z3,z4,z5,z6,z7,z8⟩:=zZ HR.out.2
  obtain⟨y0,y1,y2,y3,y4,y5,y6,y7,y8,zlt⟩:=yA HR.out.2
  obtain⟨wz,hwz,hbz,hfz,hoz⟩:=zS HR.out.1 HR.out.2 (by rw[HRW.out.1];omega) [.int .i64 0,.int .i64 0,.int .i64 0,.float .f64 0,.slice none 0 0,.slice none 0 0,.slice none 0 0,.slice none 0 0,.slice none 0 0] rfl
  unfold za za za za za za za za za za at hwz
  have HZ:=hid (⟨hwz,hbz,hfz,hoz⟩:_∧_∧_∧_)
  clear hwz hbz hfz hoz
  go_wp2
  rw[←HZ.out.1]
  obtain⟨v0,v1,v2,v3,v4,v5,v6,v7,v8⟩:=zZ HZ.out.2.1
  refine bodyPost_ret (v:= .tuple #[.agg #[.int .i64 0,.int .i64 0,.int .i64 0,.float .f64 0,.slice none 0 0,.slice none 0 0,.slice none 0 0,.slice none 0 0,.slice none 0 0],.bool false]) (by simp[results,Tryz.results20,go_sem,v0,v1,v2,v3,v4,v5,v6,v7,v8]) rfl ?_
  exact⟨0,0,mdZ,by rw[HO.out];rfl,(fun z hz=>by rw[HO.out]at hz;cases hz),fun _ _=>qS _,HZ.out.2.2.1⟩
end
section
open Go.RowKit Go.Lib
structure ScS (x:ScV):Prop where
 d:x.x.dn≤1000
 p:x.x.pn≤1000
 l:x.x.ln≤1000
 i:x.x.im≤1000
 pi: ∀q∈x.x.ps,q.n≤1000
 li: ∀q∈x.x.ls,q.n≤1000
 a:x.an≤100000
theorem JH {W:World} {x y:ScV} (hx:aci W x) (hy:aci W y) (h:ahW x.s y.s=true) (hs:ScS x) (okx: ∀a∈x.ats,okA a.ac=true) (oky: ∀a∈y.ats,okA a.ac=true):
  Calls Tryz.prog 9 #[.agg (scC x).toArray,.agg (scC y).toArray] W fun r w'=>r= .returned (.bool true)∧Below W.heap.size W w':=by
 unfold ahW at h
 simp only[Bool.and_eq_true,decide_eq_true_eq]at h
 obtain⟨e1,e2,e3,e4⟩:=h
 obtain⟨l1,l2⟩:=qt e4
 obtain⟨sec,fr,⟨sd,en,dp,dn,dc,dl,pp,pn,pc,ps,lp,ln,lc,ls,ip,im,ic,is⟩,ap,an,ac,ats⟩:=x
 obtain⟨sec',fr',⟨sd',en',dp',dn',dc',dl',pp',pn',pc',ps',lp',ln',lc',ls',ip',im',ic',is'⟩,ap',an',ac',ats'⟩:=y
 dsimp only[ScV.s]at e1 e2 e3 e4 l1 l2 okx oky
 rw[List.length_map,List.length_map]at l1
 have han:=hx.an
 have han':=hy.an
 dsimp only at han han'
 obtain rfl:an'=an:=by rw[han,han',l1]
 subst e1 e2
 have HA:Hid (∀j,j<an'→ ∃(a b:AcV) (g1 o1 g2 o2:Nat),ap=some ⟨g1,o1,none⟩∧ap'=some ⟨g2,o2,none⟩∧okA a.ac=true∧okA b.ac=true∧kH a.ac=kH b.ac∧(∀W',Below W.heap.size W W'→(W'.cell? ⟨g1,o1+j*5,none⟩=some (.int .i64 a.kind)∧W'.cell? ⟨g1,o1+j*5+1,none⟩=some (.int .i64 a.n)∧W'.cell? ⟨g1,o1+j*5+2,none⟩=some (.slice a.kp a.kn a.kc)∧W'.cell? ⟨g1,o1+j*5+3,none⟩=some (.int .i64 a.torn)∧W'.cell? ⟨g1,o1+j*5+4,none⟩=some (.int .i64 a.bytes))∧
   (W'.cell? ⟨g2,o2+j*5,none⟩=some (.int .i64 b.kind)∧W'.cell? ⟨g2,o2+j*5+1,none⟩=some (.int .i64 b.n)∧W'.cell? ⟨g2,o2+j*5+2,none⟩=some (.slice b.kp b.kn b.kc)∧W'.cell? ⟨g2,o2+j*5+3,none⟩=some (.int .i64 b.torn)∧W'.cell? ⟨g2,o2+j*5+4,none⟩=some (.int .i64 b.bytes))∧acd W' a∧acd W' b)):=hid fun j hj=>by
  obtain⟨a,ha⟩: ∃a,ats[j]? =some a:=⟨_,List.getElem?_eq_getElem (by rw[←han];exact hj)⟩
  obtain⟨b',hb',hs⟩:=l2 j a.ac (by rw[List.getElem?_map,ha];rfl)
  rw[List.getElem?_map,Option.map_eq_some_iff]at hb'
  obtain⟨b,hb,rfl⟩:=hb'
  unfold aju at hs
  simp only[Bool.and_eq_true,decide_eq_true_eq]at hs
  have hxa:=hx.a
  have hya:=hy.a
  dsimp only at hxa hya
  obtain⟨g1,o1,f1,k1⟩:=hxa.elt ha
  obtain⟨g2,o2,f2,k2⟩:=hya.elt hb
  have ma:=List.mem_of_getElem? ha
  have mb:=List.mem_of_getElem? hb
  exact⟨a,b,g1,o1,g2,o2,f1,f2,okx a ma,oky b mb,hs.1,fun W' hb=>⟨⟨k1 W' hb 0 _ rfl,k1 W' hb 1 _ rfl,k1 W' hb 2 _ rfl,k1 W' hb 3 _ rfl,k1 W' hb 4 _ rfl⟩,⟨k2 W' hb 0 _ rfl,k2 W' hb 1 _ rfl,k2 W' hb 2 _ rfl,k2 W' hb 3 _ rfl,k2 W' hb 4 _ rfl⟩,(hx.ai a ma).below hb,(hy.ai b mb).below hb⟩⟩
 have HSM:Hid (∀W',Below W.heap.size W W'→Calls Tryz.prog 26 #[.agg #[.int .i64 sd,.float .f64 en,.slice dp dn dc,.slice pp pn pc,.slice lp ln lc,.slice ip im ic],.agg #[.int .i64 sd',.float .f64 en',.slice dp' dn' dc',.slice pp' pn' pc',.slice lp' ln' lc',.slice ip' im' ic']] W' fun r w'=>r= .returned (.bool true)∧Below W'.heap.size W' w'):=hid fun W' hb=>by
  have hm1:qZ W ⟨sd,en,dp,dn,dc,dl,pp,pn,pc,ps,lp,ln,lc,ls,ip,im,ic,is⟩:=hx.m
  have hm2:qZ W ⟨sd',en',dp',dn',dc',dl',pp',pn',pc',ps',lp',ln',lc',ls',ip',im',ic',is'⟩:=hy.m
  have q1:dn≤1000:=hs.d
  have q2:pn≤1000:=hs.p
  have q3:ln≤1000:=hs.l
  have q4:im≤1000:=hs.i
  have q5: ∀q∈ps,q.n≤1000:=hs.pi
  have q6: ∀q∈ls,q.n≤1000:=hs.li
  clear HA hx hy l1 l2 okx oky hs
  have h0:=JG (hm1.below hb) (hm2.below hb) e3 q1 q2 q3 q4 q5 q6
  exact h0
 have haz:=hs.a
 dsimp only at haz
 clear hx hy e3 e4 l1 l2 okx oky hs han han'
 obtain⟨bx,hbx⟩: ∃k,k=W.heap.size:=⟨_,rfl⟩
 obtain⟨by',hby⟩: ∃k,k=W.heap.size+1:=⟨_,rfl⟩
 obtain⟨W1,hW1⟩: ∃w,w=(W.alloc (.cells #[.int .i64 sec,.int .i64 fr,.int .i64 sd,.float .f64 en,.slice dp dn dc,.slice pp pn pc,.slice lp ln lc,.slice ip im ic,.slice ap an' ac] 36)).alloc (.cells #[.int .i64 sec,.int .i64 fr,.int .i64 sd',.float .f64 en',.slice dp' dn' dc',.slice pp' pn' pc',.slice lp' ln' lc',.slice ip' im' ic',.slice ap' an' ac'] 36):=⟨_,rfl⟩
 have hb1:Below W.heap.size W W1:=by rw[hW1];exact((Below.refl _ W).alloc (Nat.le_refl _) _).alloc (by simp) _
 have hX:Blk W1 bx 36 #[.int .i64 sec,.int .i64 fr,.int .i64 sd,.float .f64 en,.slice dp dn dc,.slice pp pn pc,.slice lp ln lc,.slice ip im ic,.slice ap an' ac]:=by rw[hW1,hbx];exact(Blk.new W _ _).alloc _
 have hY:Blk W1 by' 36 #[.int .i64 sec,.int .i64 fr,.int .i64 sd',.float .f64 en',.slice dp' dn' dc',.slice pp' pn' pc',.slice lp' ln' lc',.slice ip' im' ic',.slice ap' an' ac']:=by
  have:=Blk.new (W.alloc (.cells #[.int .i64 sec,.int .i64 fr,.int .i64 sd,.float .f64 en,.slice dp dn dc,.slice pp pn pc,.slice lp ln lc,.slice ip im ic,.slice ap an' ac] 36)) 36 #[.int .i64 sec,.int .i64 fr,.int .i64 sd',.float .f64 en',.slice dp' dn' dc',.slice pp' pn' pc',.slice lp' ln' lc',.slice ip' im' ic',.slice ap' an' ac']
  rw[World.size_alloc]at this
  rw[hW1,hby]
  exact this
 have HX:=hid (⟨hX,hY,hb1⟩:_∧_∧_)
 have HW:=hid (⟨hbx,hby,hW1⟩:_∧_∧_)
 obtain⟨x0,x1,x2,x3,x4,x5,x6,x7,x8⟩:=zZ hX
 obtain⟨y0,y1,y2,y3,y4,y5,y6,y7,y8⟩:=zZ hY
 clear hbx hby hW1 hX hY hb1
 show Calls _ _ #[.agg #[.int .i64 sec,.int .i64 fr,.int .i64 sd,.float .f64 en,.slice dp dn dc,.slice pp pn pc,.slice lp ln lc,.slice ip im ic,.slice ap an' ac],.agg #[.int .i64 sec,.int .i64 fr,.int .i64 sd',.float .f64 en',.slice dp' dn' dc',.slice pp' pn' pc',.slice lp' ln' lc',.slice ip' im' ic',.slice ap' an' ac']] _ _
 go_enter Tryz.func9,Tryz.ntmps9
 go_upto_region 1 with fail
 rw[←HW.out.2.1,←HW.out.1,←HW.out.2.2]
 have HF:=hid (HSM.out W1 HX.out.2.2)
 go_wp2_with fail
 (with_reducible refine HF.out.mono ?_)
 rintro r w2 ⟨rfl,hb2⟩
 have HB2:=hid hb2
 clear x0 x1 x2 x3 x4 x5 x6 x7 x8 y0 y1 y2 y3 y4 y5 y6 y7 y8 hb2 HF
 obtain⟨x0,x1,x2,x3,x4,x5,x6,x7,x8⟩:=zZ (HX.out.1.below HB2.out HX.out.1.lt)
 obtain⟨y0,y1,y2,y3,y4,y5,y6,y7,y8⟩:=zZ (HX.out.2.1.below HB2.out HX.out.2.1.lt)
 go_wp2_with fail
 go_loopg [5] an' (fun gg s5 wr=> ∃j:Nat,j≤an'∧an'-j≤gg∧s5= .int .i64 j∧Hid (Below W1.heap.size W1 wr))
 case atStart=>exact⟨0,by omega,by omega,rfl,HB2⟩
 case round=>
  obtain⟨j,hj,hgg,rfl,HB⟩:=hrel
  clear x0 x1 x2 x3 x4 x5 x6 x7 x8 y0 y1 y2 y3 y4 y5 y6 y7 y8
  have hx8:=(zZ (HX.out.1.below HB.out HX.out.1.lt)).2.2.2.2.2.2.2.2
  have haz2:(an':Int)≤100000:=by omega
  by_cases hje:j<an'
  ·obtain⟨a,b,g1,o1,g2,o2,rfl,rfl,oa,ob,hab,hcc⟩:=HA.out j hje
   have HCC:=hid hcc
   have HJ:=hid hje
   have hji:(j:Int)<(an':Int):=by omega
   have hbw:=HX.out.2.2.trans (HB.out.mono HX.out.2.2.size)
   obtain⟨⟨c0,c1,c2,c3,c4⟩,_,haa,_⟩:=hcc wr hbw
   have HF:=hid (aaZ haa oa)
   obtain⟨ll,hll⟩: ∃l,l=kH a.ac:=⟨_,rfl⟩
   have HLL:Hid (kH b.ac=ll):=hid (by rw[hll,hab])
   rw[←hll]at HF
   have HOB:=hid ob
   clear hcc haa oa ob hab hll hbw
   go_wp2_with fail
   (with_reducible refine HF.out.mono ?_)
   rintro r w3 ⟨rfl,hb3⟩
   have HB3:=hid (HB.out.trans (hb3.mono HB.out.size))
   have hy8:=(zZ (HX.out.2.1.below HB3.out HX.out.2.1.lt)).2.2.2.2.2.2.2.2
   obtain⟨_,⟨d0,d1,d2,d3,d4⟩,_,hbb⟩:=HCC.out w3 (HX.out.2.2.trans (HB3.out.mono HX.out.2.2.size))
   have HF:=aaZ hbb HOB.out
   rw[HLL.out]at HF
   have HF:=hid HF
   clear hx8 c0 c1 c2 c3 c4 hb3 hbb
   go_wp2_with fail
   (with_reducible refine HF.out.mono ?_)
   rintro r w4 ⟨rfl,hb4⟩
   have HB4:=hid (HB3.out.trans (hb4.mono HB3.out.size))
   clear hb4 hy8 d0 d1 d2 d3 d4 HF
   go_wp2
   go_roundg (an'- (j+1))
   case measure=>have:=HJ.out;omega
   case rel=>exact⟨j+1,by have:=HJ.out;omega,by omega,by go_num,HB4⟩
  ·have hji: ¬(j:Int)<(an':Int):=by omega
   go_wp2
   go_ret
   exact⟨rfl,HX.out.2.2.trans (HB.out.mono HX.out.2.2.size)⟩
end
section
open Go.RowKit Go.Lib
section
variable {w0:World}
variable {v:Value} {b:Bs} {W:World} {g:Nat}
end
end
section
open Go.RowKit Go.Lib
structure Mdl.lgt (m:Mdl):Prop where
 p:m.pr.length≤10
 l:m.lp.length≤20
 d:m.dl.length≤60
 i:m.ini.length≤60
 pi: ∀p∈m.pr,p.length≤100
 li: ∀x∈m.lp,x.2.length≤60
structure MdV.nice (x:MdV):Prop where
 ok:x.m.ok
 lgt:x.m.lgt
section
variable {x:MdV} {W:World}
theorem MdV.nice.qn (h:x.nice) (hm:qZ W x):x.dn≤1000∧x.pn≤1000∧x.ln≤1000∧x.im≤1000∧(∀q∈x.ps,q.n≤1000)∧ ∀q∈x.ls,q.n≤1000:=by
 have h1:=h.lgt.d
 have h2:=h.lgt.p
 have h3:=h.lgt.l
 have h4:=h.lgt.i
 unfold MdV.m at h1 h2 h3 h4
 simp only[List.length_map]at h1 h2 h3 h4
 refine⟨by rw[hm.dn];omega,by rw[hm.pn];omega,by rw[hm.ln];omega,by rw[hm.im];omega,fun q hq=>?_,fun q hq=>?_⟩
 ·have:=h.lgt.pi q.l (List.mem_map.2 ⟨q,hq,rfl⟩)
  rw[(hm.pi q hq).1];omega
 ·have:=h.lgt.li (q.k,q.l) (List.mem_map.2 ⟨q,hq,rfl⟩)
  rw[(hm.li q hq).1]
  show q.l.length≤1000
  have:q.l.length≤60:=this
  omega
end
end
section
open Go.RowKit Go.Lib
structure Far (B:Nat) (o:Option Nat) (w:World) (p:World→Prop):Prop where
 any: ∀w',w.heap.size≤w'.heap.size→(∀b,B≤b→b<w.heap.size→some b≠o→w'.heap[b]? =w.heap[b]?)→p w'
section
variable {B B':Nat} {o o':Option Nat} {w w':World} {p q:World→Prop}
theorem Far.to (h:Far B o w p) (hs:w.heap.size≤w'.heap.size) (hb: ∀b,B≤b→b<w.heap.size→some b≠o→w'.heap[b]? =w.heap[b]?) (ho:o'=o∨ ∀b,b<w.heap.size→some b≠o'):Far B o' w' p:=
 ⟨fun w2 hs2 hb2=>h.any w2 (Nat.le_trans hs hs2) fun b h1 h2 h3=>(hb2 b h1 (Nat.lt_of_lt_of_le h2 hs) (by
  rcases ho with rfl|ho
  ·exact h3
  ·exact ho b h2)).trans (hb b h1 h2 h3)⟩
theorem Far.below (h:Far B o w p) (hb:Below w.heap.size w w'):Far B o w' p:=h.to hb.size (fun b _ h2 _=>hb.block b h2) (.inl rfl)
theorem Far.and (h:Far B o w p) (k:Far B o w q):Far B o w fun w=>p w∧q w:=⟨fun w' hs hb=>⟨h.any w' hs hb,k.any w' hs hb⟩⟩
theorem Far.imp (h:Far B o w p) (k: ∀w,p w→q w):Far B o w q:=⟨fun w' hs hb=>k _ (h.any w' hs hb)⟩
theorem Far.of (h: ∀w',w.heap.size≤w'.heap.size→(∀b,B'≤b→b<w.heap.size→w'.heap[b]? =w.heap[b]?)→p w') (hB:B≤B') (ho: ∀g,o=some g→g<B'):Far B o w p:=
 ⟨fun w' hs hb=>h w' hs fun b h1 h2=>hb b (Nat.le_trans hB h1) h2 fun e=>by have:=ho b e.symm;omega⟩
theorem Far.app {v v':Value} (h:Far B v.ownBlock w p) (hk:Kp v.ownBlock.toList w w') (hv: ∀g,v'.ownBlock=some g→v.ownBlock=some g∨w.heap.size≤g):Far B v'.ownBlock w' p:=by
 refine h.to hk.size (fun b _ h2 h3=>hk.block b h2 fun hm=>h3 ?_) ?_
 ·exact(Option.mem_toList.1 hm).symm
 ·cases e:v'.ownBlock with
  |none=>exact .inr fun b _=>by simp
  | some g=>
   rcases hv g e with h1|h1
   ·exact .inl h1.symm
   ·refine .inr fun b hb he=>?_
    injection he with he
    omega
end
structure PaI (T:TypeId) (W1:World) (ob:Nat) (s:ScV) (w:World):Prop where
 bw:Below W1.heap.size W1 w
 bo:Blk w ob T (scC s).toArray
 lo:W1.heap.size≤ob
 row:w.ownsRow (ob+1) 53 5 (.slice s.ap s.an s.ac) s.an (yv acC s.ats)
 an:s.an=s.ats.length
 kp:Far (ob+1) (Value.slice s.ap s.an s.ac).ownBlock w fun w=>qZ w s.x∧ ∀a∈s.ats,acd w a
section
variable {T:TypeId} {W1 w w':World} {ob:Nat} {s:ScV}
theorem PaI.below (h:PaI T W1 ob s w) (hb:Below w.heap.size w w'):PaI T W1 ob s w':=
 ⟨h.bw.trans (hb.mono h.bw.size),h.bo.below hb h.bo.lt,h.lo,xN h.row fun b hb'=>hb.block b (h.row.lt b hb').2,h.an,h.kp.below hb⟩
theorem PaI.fin (h:PaI T W1 ob s w) {r:Nat} (hr:r<W1.heap.size) (hs:w.heap.size≤w'.heap.size) (hb: ∀b,b≠r→w'.heap[b]? =w.heap[b]?):aci w' s:=by
 have hl:=h.lo
 have hk:=h.kp.any w' hs fun b h1 _ _=>hb b (by omega)
 exact⟨hk.1,.of_own J0 (xN h.row fun b e=>hb b (by have:=(h.row.lt b e).1;omega)) h.an,h.an,hk.2⟩
theorem PaI.head (h:PaI T W1 ob s w) {w1:World} {sec fr:Int} {y:MdV} (hy:MdF w.heap.size w1 y) (hb:Below w.heap.size w w1): ∃wz,wz=za w1 ob 0 (scC ⟨sec,fr,y,none,0,0,[]⟩)∧PaI T W1 ob ⟨sec,fr,y,none,0,0,[]⟩ wz:=by
 have h1:=h.below hb
 have hob:=h.bo.lt
 obtain⟨wz,hwz,hbz,hfz,hoz⟩:=zS h1.bw h1.bo h.lo (scC ⟨sec,fr,y,none,0,0,[]⟩) rfl
 refine⟨wz,hwz,hfz,hbz,h.lo,qI _ _ _ _,rfl,.of (B':=w.heap.size) (fun w' hs hk=>⟨hy w' fun b e1 e2=>(hk b e1 (by rw[hwz,xO];exact e2)).trans (hoz b (by omega)),fun a ha=>by cases ha⟩) (by omega) (fun g hg=>by cases hg)⟩
theorem PaI.acts (h:PaI T W1 ob s w) {w1 w2:World} {a:AcV} {p:Option Addr} {c:Nat} (ha:AcF w.heap.size w1 a) (hb:Below w.heap.size w w1)
  (ho:w2.ownsRow (ob+1) 53 5 (.slice p (s.an+1) c) (s.an+1) (yv acC (s.ats++[a]))) (hk:Kp (Value.slice s.ap s.an s.ac).ownBlock.toList w1 w2) (hv: ∀g,(Value.slice p (s.an+1) c).ownBlock=some g→(Value.slice s.ap s.an s.ac).ownBlock=some g∨w1.heap.size≤g) (hT:T≠53):
  Blk w2 ob T (scC s).toArray∧PaI T W1 ob { s with ap:=p,an:=s.an+1,ac:=c,ats:=s.ats++[a] } (w2.setCell ⟨ob,8,none⟩ (.slice p (s.an+1) c)):=by
 have h1:=h.below hb
 have hg: ∀g,(Value.slice s.ap s.an s.ac).ownBlock=some g→ob<g∧g<w.heap.size:=fun g hg=>by have:=h.row.lt g hg;omega
 have hbo:Blk w2 ob T (scC s).toArray:=h1.bo.kp hk fun hm=>by have:=(hg ob (Option.mem_toList.1 hm)).1;omega
 have hob2: ∀g,(Value.slice p (s.an+1) c).ownBlock=some g→g≠ob:=fun g e=>by have:=(ho.lt g e).1;omega
 have hkeep:Far (ob+1) (Value.slice s.ap s.an s.ac).ownBlock w1 fun w=>(qZ w s.x∧ ∀a∈s.ats,acd w a)∧acd w a:=
  h1.kp.and (.of (B':=w.heap.size) (fun w' hs hk=>⟨ha.n,(ha.k.any w' hs hk)⟩) (by have:=h.bo.lt;omega) fun g e=>(hg g e).2)
 refine⟨hbo,?_,?_,h.lo,?_,by rw[List.length_append,←h.an];rfl,?_⟩
 ·have hb2:Below W1.heap.size W1 w2:=h1.bw.trans (hk.to_below h1.bw.size fun x hx=>by have:=(hg x (Option.mem_toList.1 hx)).1;have:=h.lo;omega)
  exact⟨hb2.os,hb2.tape,hb2.output,by simpa[World.setCell]using hb2.size,fun k hk=>(Below.heap_setCell _ _ _ _ (by have:=h.lo;simp;omega)).trans (hb2.block k hk)⟩
 ·exact hbo.set_ 8 _
 ·exact xN ho fun b e=>Below.heap_setCell _ _ _ _ (hob2 b e)
 ·refine((hkeep.app (v':= .slice p (s.an+1) c) hk hv).to (by simp[World.setCell]) (fun b e1 _ _=>Below.heap_setCell _ _ _ _ (by simp;omega)) (.inl rfl)).imp fun w' hw=>⟨hw.1.1,fun x hx=>?_⟩
  rcases List.mem_append.1 hx with hx|hx
  ·exact hw.1.2 x hx
  ·rw[List.mem_singleton.1 hx];exact hw.2
end
theorem PaI.new {T:TypeId} (W1:World) {w:World} {ob:Nat} (hb:Below W1.heap.size W1 w) (hB:Blk w ob T (scC scZ).toArray) (lo:W1.heap.size≤ob):PaI T W1 ob scZ w:=
 ⟨hb,hB,lo,qI _ _ _ _,rfl,⟨fun w' _ _=>⟨qS _,fun a ha=>by cases ha⟩⟩⟩
def PaP (W:World) (pr:PR) (e:Ending) (w':World):Prop:= ∃(s:ScV) (i ee:Int),e= .returned (.tuple #[.agg (scC s).toArray,.int .i64 i,.int .i64 ee])∧aCx pr s.s i ee∧aci w' s∧Below W.heap.size W w'
theorem agU {n i:Nat} {st:Option Scr} {ls:List Bs} (h:ls[i]? =none):goL n i st (ls.drop i)=match st with
  |none=> .line n
  |some s=> .ok s:=by
 rw[List.drop_of_length_le (List.getElem?_eq_none_iff.1 h)]
 cases st<;>rfl
def kQ (n i:Nat) (st:Option Scr) (ws r:List Bs):PR:=match st with
 |none=>(match yg ws with
  |none=> .line i
  |some h=>goL n (i+1) (some h) r)
 |some s=>(match xD ws with
  |none=> .line i
  |some a=>goL n (i+1) (some { s with acts:=s.acts++[a] }) r)
theorem aa6 {n i:Nat} {ws r:List Bs} (h:yg ws=none):kQ n i none ws r= .line i:=by
 unfold kQ
 rw[h]
theorem aa7 {n i:Nat} {ws r:List Bs} {x:Scr} (h:yg ws=some x):kQ n i none ws r=goL n (i+1) (some x) r:=by
 unfold kQ
 rw[h]
theorem aa4 {n i:Nat} {s:Scr} {ws r:List Bs} (h:xD ws=none):kQ n i (some s) ws r= .line i:=by
 unfold kQ
 rw[h]
theorem aa5 {n i:Nat} {s:Scr} {ws r:List Bs} {a:Ac} (h:xD ws=some a):kQ n i (some s) ws r=goL n (i+1) (some { s with acts:=s.acts++[a] }) r:=by
 unfold kQ
 rw[h]
theorem anT {n i:Nat} {st:Option Scr} {ls:List Bs} {l:Bs} (h:ls[i]? =some l):goL n i st (ls.drop i)=(if l=[]then goL n (i+1) st (ls.drop (i+1))
  else if []∈zv 32 l then .line i else kQ n i st (zv 32 l) (ls.drop (i+1))):=by
 have e1:ls.drop i=l::ls.drop (i+1):=by
  obtain⟨hlt,e⟩:=List.getElem?_eq_some_iff.1 h
  rw[←e]
  exact List.drop_eq_getElem_cons hlt
 rw[e1,X8]
 cases st<;>rfl
theorem QP (l:List Bs):(l.any List.isEmpty=true)=([]∈l):=by
 rw[List.any_eq_true]
 exact propext ⟨fun ⟨x,h1,h2⟩=>by rw[List.isEmpty_iff.1 h2]at h1;exact h1,fun h=>⟨[],h,rfl⟩⟩
end
section
open Go.RowKit Go.Lib
theorem agd {m:Mdl} (h:yM m=true):m.lgt:=by
 unfold yM X1 at h
 simp only[Bool.and_eq_true,decide_eq_true_eq,List.all_eq_true]at h
 obtain⟨⟨h1,_⟩,_,h2,h3,_⟩:=h
 refine⟨by omega,by omega,by omega,by omega,fun p hp=>?_,fun x hx=>?_⟩
 ·have:=h2 p hp
  unfold xf at this
  simp only[Bool.and_eq_true,decide_eq_true_eq]at this
  omega
 ·have:=h3 x hx
  unfold lpB at this
  simp only[decide_eq_true_eq]at this
  omega
theorem ajw {W:World} {x:ScV} (hx:aci W x) (h:x.s.good) (ha:x.ats.length≤100000):ScS x:=by
 obtain⟨q1,q2,q3,q4,q5,q6⟩:=MdV.nice.qn (⟨h.gm,agd h.gc⟩:x.x.nice) hx.m
 exact⟨q1,q2,q3,q4,q5,q6,by rw[hx.an];exact ha⟩
theorem ajx {W:World} {x:ScV} (hx:aci W x) (h:x.s=scZ.s):ScS x:=by
 have hm:x.x.m=mdZ.m:=congrArg Scr.m h
 have ha:x.ats.map AcV.ac=[]:=congrArg Scr.acts h
 have hd:x.x.dl=[]:=congrArg Mdl.dl hm
 have hp:x.x.ps.map Prg.l=[]:=congrArg Mdl.pr hm
 have hl:(x.x.ls.map fun q=>(q.k,q.l))=[]:=congrArg Mdl.lp hm
 have hi:x.x.is=[]:=congrArg Mdl.ini hm
 have ha:=List.map_eq_nil_iff.1 ha
 have hp:=List.map_eq_nil_iff.1 hp
 have hl:=List.map_eq_nil_iff.1 hl
 exact⟨by rw[hx.m.dn,hd];exact Nat.zero_le _,by rw[hx.m.pn,hp];exact Nat.zero_le _,by rw[hx.m.ln,hl];exact Nat.zero_le _,by rw[hx.m.im,hi];exact Nat.zero_le _,(fun q hq=>by rw[hp]at hq;cases hq),(fun q hq=>by rw[hl]at hq;cases hq),by rw[hx.an,ha];exact Nat.zero_le _⟩
theorem aCx.det {p:PR} {s s':Scr} {i i' e e':Int} (h:aCx p s i e) (h':aCx p s' i' e'):s=s'∧i=i'∧e=e':=by
 cases p with
 |full=>obtain⟨h1,h2,h3⟩:=h;obtain⟨k1,k2,k3⟩:=h';exact⟨h3.trans k3.symm,h1.trans k1.symm,h2.trans k2.symm⟩
 |line n=>obtain⟨h1,h2,h3⟩:=h;obtain⟨k1,k2,k3⟩:=h';exact⟨h3.trans k3.symm,h1.trans k1.symm,h2.trans k2.symm⟩
 |ok x=>obtain⟨h1,h2,h3⟩:=h;obtain⟨k1,k2,k3⟩:=h';exact⟨h3.trans k3.symm,h1.trans k1.symm,h2.trans k2.symm⟩
theorem abx {ws:List Bs} {s:Scr} (h:yg ws=some s):s.acts=[]:=by
 unfold yg at h
 split at h
 ·split at h
  ·split at h
   ·injection h with h;subst h;rfl
   ·cases h
  ·cases h
 ·cases h
theorem aA8 {n:Nat} {l:List Bs} : ∀ {i:Nat} {st:Option Scr} {x:Scr} {k:Nat},(∀s,st=some s→s.acts.length≤k)→goL n i st l= .ok x→x.acts.length≤k+l.length:=by
 induction l with
 |nil=>
  intro i st x k hs h
  cases st with
  |none=>simp[goL]at h
  |some s=>unfold goL at h;injection h with h;subst h;exact hs _ rfl
 | cons p r ih=>
  intro i st x k hs h
  rw[X8]at h
  rw[List.length_cons]
  split at h
  ·have:=ih hs h;omega
  ·split at h
   ·cases h
   ·cases st with
    | none=>
     simp only[]at h
     split at h
     ·cases h
     ·next e=>
      have:=ih (k:=k) (fun s e'=>by injection e' with e';subst e';rw[abx e];exact Nat.zero_le _) h
      omega
    | some s=>
     simp only[]at h
     split at h
     ·cases h
     ·next e=>
      have:=ih (k:=k+1) (fun s' e'=>by
       injection e' with e'
       subst e'
       have g:=hs s rfl
       simp
       exact g) h
      omega
theorem ahu {t:Bs} {x:Scr} (h:qW t= .ok x):x.acts.length≤1024:=by
 unfold qW at h
 split at h
 ·cases h
 ·have:=aA8 (k:=0) (fun s e=>by cases e) h
  omega
theorem aaQ {W:World} {t:Bs} {x:ScV} {i e:Int} (hx:aci W x) (h:aCx (qW t) x.s i e):ScS x∧ ∀a∈x.ats,okA a.ac=true:=by
 have zero:x.s=scZ.s→ScS x∧ ∀a∈x.ats,okA a.ac=true:=fun hz=>⟨ajx hx hz,fun a hm=>by
  have h1:x.ats.map AcV.ac=[]:=congrArg Scr.acts hz
  rw[List.map_eq_nil_iff.1 h1]at hm
  cases hm⟩
 cases hp:qW t with
 |full=>rw[hp]at h;exact zero h.2.2
 |line n=>rw[hp]at h;exact zero h.2.2
 |ok y=>
  rw[hp]at h
  have hg:=abS hp
  rw[←h.2.2]at hg
  have hl:=ahu hp
  rw[←h.2.2]at hl
  have hl:(x.ats.map AcV.ac).length≤1024:=hl
  rw[List.length_map]at hl
  exact⟨ajw hx hg (by omega),fun a hm=>List.all_eq_true.1 hg.ga a.ac (List.mem_map.2 ⟨a,hm,rfl⟩)⟩
theorem aBU (sec fr sd:Int) (en:Nat) (dp:Option Addr) (dn dc:Nat) (pp:Option Addr) (pn pc:Nat) (lp:Option Addr) (ln lc:Nat) (ip:Option Addr) (im ic:Nat) (ap:Option Addr) (an ac:Nat) (W:World):
  Calls Tryz.prog 10 #[.agg #[.int .i64 sec,.int .i64 fr,.int .i64 sd,.float .f64 en,.slice dp dn dc,.slice pp pn pc,.slice lp ln lc,.slice ip im ic,.slice ap an ac]] W fun r w'=>r= .returned (.agg #[.int .i64 sec,.int .i64 fr,.int .i64 sd,.float .f64 en,.slice dp dn dc,.slice pp pn pc,.slice lp ln lc,.slice ip im ic,.slice ap an ac])∧Below W.heap.size W w':=by
 obtain⟨xb,hxb⟩: ∃k,k=W.heap.size:=⟨_,rfl⟩
 obtain⟨r0,hr0⟩: ∃k,k=W.heap.size+1:=⟨_,rfl⟩
 obtain⟨w1,hw1⟩: ∃w,w=(W.alloc (.cells #[.int .i64 sec,.int .i64 fr,.int .i64 sd,.float .f64 en,.slice dp dn dc,.slice pp pn pc,.slice lp ln lc,.slice ip im ic,.slice ap an ac] 32)).alloc (.cells #[.int .i64 0,.int .i64 0,.int .i64 0,.float .f64 0,.slice none 0 0,.slice none 0 0,.slice none 0 0,.slice none 0 0,.slice none 0 0] 36):=⟨_,rfl⟩
 have hX:Blk w1 xb 32 #[.int .i64 sec,.int .i64 fr,.int .i64 sd,.float .f64 en,.slice dp dn dc,.slice pp pn pc,.slice lp ln lc,.slice ip im ic,.slice ap an ac]:=by rw[hw1,hxb];exact(Blk.new _ _ _).alloc _
 have hR:Blk w1 r0 36 #[.int .i64 0,.int .i64 0,.int .i64 0,.float .f64 0,.slice none 0 0,.slice none 0 0,.slice none 0 0,.slice none 0 0,.slice none 0 0]:=by
  have:=Blk.new (W.alloc (.cells #[.int .i64 sec,.int .i64 fr,.int .i64 sd,.float .f64 en,.slice dp dn dc,.slice pp pn pc,.slice lp ln lc,.slice ip im ic,.slice ap an ac] 32)) 36 #[.int .i64 0,.int .i64 0,.int .i64 0,.float .f64 0,.slice none 0 0,.slice none 0 0,.slice none 0 0,.slice none 0 0,.slice none 0 0]
  rw[World.size_alloc]at this
  rw[hw1,hr0]
  exact this
 have hb:Below W.heap.size W w1:=by rw[hw1];exact((Below.refl _ W).alloc (Nat.le_refl _) _).alloc (by simp) _
 obtain⟨x0,x1,x2,x3,x4,x5,x6,x7,x8⟩:=zZ hX
 obtain⟨z0,z1,z2,z3,z4,z5,z6,z7,z8⟩:=zZ hR
 obtain⟨y0,y1,y2,y3,y4,y5,y6,y7,y8,zlt⟩:=yA hR
 obtain⟨wz,hwz,hbz,hfz,-⟩:=zS hb hR (by omega) [.int .i64 sec,.int .i64 fr,.int .i64 sd,.float .f64 en,.slice dp dn dc,.slice pp pn pc,.slice lp ln lc,.slice ip im ic,.slice ap an ac] rfl
 have HW:=hid (⟨hxb,hr0,hw1⟩:_∧_∧_)
 unfold za za za za za za za za za za at hwz
 have HZ:=hid (⟨hwz,hbz,hfz⟩:_∧_∧_)
 clear hxb hr0 hw1 hX hR hb hwz hbz hfz
 go_enter Tryz.func10,Tryz.ntmps10
 go_upto_region 1 with fail
 rw[←HW.out.2.1,←HW.out.1,←HW.out.2.2]
 go_wp2
 rw[←HZ.out.1]
 obtain⟨v0,v1,v2,v3,v4,v5,v6,v7,v8⟩:=zZ HZ.out.2.1
 refine bodyPost_ret (v:= .agg #[.int .i64 sec,.int .i64 fr,.int .i64 sd,.float .f64 en,.slice dp dn dc,.slice pp pn pc,.slice lp ln lc,.slice ip im ic,.slice ap an ac]) (by simp[results,Tryz.results10,go_sem,v0,v1,v2,v3,v4,v5,v6,v7,v8]) rfl ⟨rfl,HZ.out.2.2⟩
end
end Go.Proofs.YtcdiljebkpikbaaGreat
