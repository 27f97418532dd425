/- Parts of the proof: Sec. -/
import Derived.Test.YtcdiljebkpikbaaGreatS42
import Derived.Test.YtcdiljebkpikbaaGreatS45
set_option linter.all false
set_option maxRecDepth 100000
set_option maxHeartbeats 64000000
namespace Go.Proofs.YtcdiljebkpikbaaGreat
section
open Go.RowKit Go.Lib
theorem ahL (ws:List Bs) (p:Option Addr) (n c:Nat) (hn:n=ws.length) (h0:ws≠[]) (hl: ∀x∈ws,x.length≤90000) (W:World) (hv:Vw 1 jQ W (.slice p n c) ws):Calls Tryz.prog 24 #[.slice p n c] W (HdP W ws):=by
 obtain⟨gb,off,cc,e1,e2,e3,e4⟩:=hv.ex h0
 injection e1 with e1 e5 e6
 subst e1 e6
 obtain⟨w0,hw0⟩: ∃w0,w0=ws.getD 0 []:=⟨_,rfl⟩
 have hg0:ws[0]? =some w0:=by
  rw[hw0]
  cases ws with
  |nil=>exact absurd rfl h0
  |cons a l=>rfl
 have HC:Hid (∀W',Below W.heap.size W W'→ ∀i x,ws[i]? =some x→W'.cell? ⟨gb,off+i,none⟩=some (.string (S x))):=hid fun W' hb i x hx=>by
  have:=e4 i x hx 0 (.string (S x)) rfl
  rw[←this]
  simpa using World.cell?_of_block (hb.block gb e3)
 have hlen:1≤n:=by rw[hn];exact List.length_pos_iff.2 h0
 have HW:=hid (⟨hn,h0,hg0,e3,hw0,hl⟩:_∧_∧_∧_∧_∧_)
 clear hv e2 e3 e4 e5 hn h0 hg0 hw0 hl
 obtain⟨r0,hr0⟩: ∃n,n=W.heap.size:=⟨_,rfl⟩
 obtain⟨W2,hW2⟩: ∃W2,W2=W.alloc (.cells #[.int .i64 0,.int .i64 0,.int .i64 0,.float .f64 0,.slice none 0 0,.slice none 0 0,.slice none 0 0,.slice none 0 0,.slice none 0 0] 36):=⟨_,rfl⟩
 have HR:Hid (Below W.heap.size W W2∧Blk W2 r0 36 #[.int .i64 0,.int .i64 0,.int .i64 0,.float .f64 0,.slice none 0 0,.slice none 0 0,.slice none 0 0,.slice none 0 0,.slice none 0 0]):=hid ⟨by rw[hW2];exact(Below.refl _ W).alloc (Nat.le_refl _) _,by rw[hW2,hr0];exact Blk.new W _ _⟩
 have HRW:=hid (⟨hr0,hW2⟩:_∧_)
 clear hr0 hW2
 go_enter Tryz.func24,Tryz.ntmps24
 go_upto_region 1 with fail
 rw[←HRW.out.1,←HRW.out.2]
 have hc0:=HC.out _ HR.out.1 0 w0 HW.out.2.2.1
 rw[Nat.add_zero]at hc0
 by_cases hn4:n=4
 ·subst hn4
  by_cases hw:w0=[119,111,114,108,100]
  ·subst hw
   obtain⟨w1,hw1⟩: ∃x,ws[1]? =some x:=⟨_,List.getElem?_eq_getElem (by rw[←HW.out.1];omega)⟩
   have HW1:Hid (ws.getD 1 []=w1∧w1.length≤90000):=hid ⟨by rw[List.getD_eq_getElem?_getD,hw1];rfl,HW.out.2.2.2.2.2 _ (List.mem_of_getElem? hw1)⟩
   have HC1:=hid (fun W' hb=>HC.out W' hb 1 w1 hw1)
   clear hw1
   obtain⟨w2,hw2⟩: ∃x,ws[2]? =some x:=⟨_,List.getElem?_eq_getElem (by rw[←HW.out.1];omega)⟩
   have HW2:Hid (ws.getD 2 []=w2∧w2.length≤90000):=hid ⟨by rw[List.getD_eq_getElem?_getD,hw2];rfl,HW.out.2.2.2.2.2 _ (List.mem_of_getElem? hw2)⟩
   have HC2:=hid (fun W' hb=>HC.out W' hb 2 w2 hw2)
   clear hw2
   obtain⟨w3,hw3⟩: ∃x,ws[3]? =some x:=⟨_,List.getElem?_eq_getElem (by rw[←HW.out.1];omega)⟩
   have HW3:Hid (ws.getD 3 []=w3∧w3.length≤90000):=hid ⟨by rw[List.getD_eq_getElem?_getD,hw3];rfl,HW.out.2.2.2.2.2 _ (List.mem_of_getElem? hw3)⟩
   have HC3:=hid (fun W' hb=>HC.out W' hb 3 w3 hw3)
   clear hw3
   have HO:Hid (yg ws=match yR w1,yR w2,xr w3 with
    |some n,some f,some s=>(match jE s with
     |some m=>some ⟨n,f,m,[]⟩
     |none=>none)
    |_,_,_=>none):=hid (by
     unfold yg
     rw[if_pos ⟨HW.out.1.symm,HW.out.2.2.2.2.1.symm⟩,HW1.out.1,HW2.out.1,HW3.out.1]
     rfl)
   obtain⟨o1,ho1⟩: ∃o,o=yR w1:=⟨_,rfl⟩
   obtain⟨o2,ho2⟩: ∃o,o=yR w2:=⟨_,rfl⟩
   obtain⟨o3,ho3⟩: ∃o,o=xr w3:=⟨_,rfl⟩
   have HN1:Hid (∀w,Calls Tryz.prog 52 #[.string (S w1)] w fun e w'=> ∃n:Int,e= .returned (.tuple #[.int .i64 n,.bool o1.isSome])∧(∀k,o1=some k→n=k)∧w=w'):=hid (by rw[ho1];exact Yn w1 HW1.out.2)
   have HN2:Hid (∀w,Calls Tryz.prog 52 #[.string (S w2)] w fun e w'=> ∃n:Int,e= .returned (.tuple #[.int .i64 n,.bool o2.isSome])∧(∀k,o2=some k→n=k)∧w=w'):=hid (by rw[ho2];exact Yn w2 HW2.out.2)
   have HN3:Hid (∀w,Calls Tryz.prog 53 #[.string (S w3)] w fun e w'=> ∃v:Bs,e= .returned (.tuple #[.string (S v),.bool o3.isSome])∧(∀z,o3=some z→v=z)∧v.length≤w3.length∧Below w.heap.size w w'):=hid (by rw[ho3];exact abZ w3 HW3.out.2)
   rw[←ho1,←ho2,←ho3]at HO
   clear ho1 ho2 ho3
   have c1:=HC1.out _ HR.out.1
   have c2:=HC2.out _ HR.out.1
   have c3:=HC3.out _ HR.out.1
   go_upto_region 3 with fail
   have HF:=hid (HN1.out W2)
   go_wp2_with fail
   (with_reducible refine HF.out.mono ?_)
   rintro r w6 ⟨sec,rfl,hs1,rfl⟩
   have HF:=hid (HN2.out W2)
   go_wp2_with fail
   (with_reducible refine HF.out.mono ?_)
   rintro r w6 ⟨fr,rfl,hs2,rfl⟩
   have HF:=hid (HN3.out W2)
   go_wp2_with fail
   (with_reducible refine HF.out.mono ?_)
   rintro r w5 ⟨raw,rfl,hs3,hrl,hb5⟩
   have HT:=hid (⟨hs1,hs2,hs3⟩:_∧_∧_)
   have HR:=hid (⟨HR.out.1.trans (hb5.mono HR.out.1.size),HR.out.2.below hb5 HR.out.2.lt⟩:Below W.heap.size W w5∧Blk w5 r0 _ _)
   have HF:=hid (ajr (s:=raw) (Nat.le_trans hrl (Nat.le_trans HW3.out.2 (by decide))) w5)
   have HLT:Hid (r0<w5.heap.size):=hid HR.out.2.lt
   have HB5:Hid (W.heap.size≤w5.heap.size):=hid HR.out.1.size
   clear hs1 hs2 hs3 hb5 hrl c1 c2 c3 hc0
   go_wp2_with fail
   (with_reducible refine HF.out.mono ?_)
   rintro r w6 ⟨y,ee,rfl,hmf,hb6,hgr⟩
   have HY:=hid (⟨hmf,hgr⟩:_∧_)
   have HR:=hid (⟨HR.out.1.trans (hb6.mono HR.out.1.size),HR.out.2.below hb6 HR.out.2.lt⟩:Below W.heap.size W w6∧Blk w6 r0 _ _)
   have HS6:=hid hb6.size
   clear hmf hgr hb6 HF
   obtain⟨yy,hyy⟩: ∃yy,yy=y:=⟨_,rfl⟩
   have HYY:=hid hyy
   rw[←hyy]at HY
   clear hyy
   obtain⟨sd,en,dp,dn,dc,dl,pp,pn,pc,ps,lp,ln,lc,ls,ip,im,ic,is⟩:=y
   unfold mdC
   go_upto_region 7 with fail
   obtain⟨w7,hw7⟩: ∃w7,w7=w6.alloc (.cells #[.int .i64 sd,.float .f64 en,.slice dp dn dc,.slice pp pn pc,.slice lp ln lc,.slice ip im ic] 29):=⟨_,rfl⟩
   obtain⟨m7,hm7⟩: ∃n,n=w6.heap.size:=⟨_,rfl⟩
   rw[←hm7,←hw7]
   have hb7:Blk w7 m7 29 #[.int .i64 sd,.float .f64 en,.slice dp dn dc,.slice pp pn pc,.slice lp ln lc,.slice ip im ic]:=by rw[hw7,hm7];exact Blk.new _ _ _
   have HR:=hid (⟨by rw[hw7];exact HR.out.1.alloc HR.out.1.size _,by rw[hw7];exact HR.out.2.alloc _⟩:Below W.heap.size W w7∧Blk w7 r0 36 #[.int .i64 0,.int .i64 0,.int .i64 0,.float .f64 0,.slice none 0 0,.slice none 0 0,.slice none 0 0,.slice none 0 0,.slice none 0 0])
   have HSA:Hid (∀wz,(∀b,b≠r0→wz.heap[b]? =w7.heap[b]?)→MdF W.heap.size wz yy):=hid fun wz h w2 h2=>HY.out.1 w2 fun b h1 h3=>by
    have e:wz.heap[b]? =w6.heap[b]? :=(h b (by have:=HLT.out;omega)).trans (by rw[hw7];exact Below.heap_alloc _ _ _ h3)
    exact(h2 b (by have:=HR.out.1.size;have:=HB5.out;omega) (Xe e h3)).trans e
   obtain⟨⟨a0,a1,a2,a3,a4,a5⟩,_,_⟩:=six hb7
   clear hw7 hm7 hb7
   cases o1 with
   |none=>
    have HO:Hid (yg ws=none):=hid HO.out
    obtain⟨z0,z1,z2,z3,z4,z5,z6,z7,z8⟩:=zZ HR.out.2
    obtain⟨y0,y1,y2,y3,y4,y5,y6,y7,y8,zlt⟩:=yA HR.out.2
    obtain⟨wz,hwz,hbz,hfz,hoz⟩:=zS HR.out.1 HR.out.2 (by rw[HRW.out.1];omega) [.int .i64 sec,.int .i64 fr,.int .i64 sd,.float .f64 en,.slice dp dn dc,.slice pp pn pc,.slice lp ln lc,.slice ip im ic,.slice none 0 0] rfl
    unfold za za za za za za za za za za at hwz
    have HZ:=hid (⟨hwz,hbz,hfz,hoz⟩:_∧_∧_∧_)
    clear hwz hbz hfz hoz
    go_wp2
    rw[←HZ.out.1]
    obtain⟨v0,v1,v2,v3,v4,v5,v6,v7,v8⟩:=zZ HZ.out.2.1
    refine bodyPost_ret (v:= .tuple #[.agg #[.int .i64 sec,.int .i64 fr,.int .i64 sd,.float .f64 en,.slice dp dn dc,.slice pp pn pc,.slice lp ln lc,.slice ip im ic,.slice none 0 0],.bool false]) (by simp[results,Tryz.results24,go_sem,v0,v1,v2,v3,v4,v5,v6,v7,v8]) rfl ?_
    exact⟨sec,fr,yy,by rw[HO.out,HYY.out];rfl,(fun z hz=>by rw[HO.out]at hz;cases hz),HSA.out _ HZ.out.2.2.2,HZ.out.2.2.1⟩
   | some n1=>
    cases o2 with
    |none=>
     have HO:Hid (yg ws=none):=hid HO.out
     obtain⟨z0,z1,z2,z3,z4,z5,z6,z7,z8⟩:=zZ HR.out.2
     obtain⟨y0,y1,y2,y3,y4,y5,y6,y7,y8,zlt⟩:=yA HR.out.2
     obtain⟨wz,hwz,hbz,hfz,hoz⟩:=zS HR.out.1 HR.out.2 (by rw[HRW.out.1];omega) [.int .i64 sec,.int .i64 fr,.int .i64 sd,.float .f64 en,.slice dp dn dc,.slice pp pn pc,.slice lp ln lc,.slice ip im ic,.slice none 0 0] rfl
     unfold za za za za za za za za za za at hwz
     have HZ:=hid (⟨hwz,hbz,hfz,hoz⟩:_∧_∧_∧_)
     clear hwz hbz hfz hoz
     go_wp2
     rw[←HZ.out.1]
     obtain⟨v0,v1,v2,v3,v4,v5,v6,v7,v8⟩:=zZ HZ.out.2.1
     refine bodyPost_ret (v:= .tuple #[.agg #[.int .i64 sec,.int .i64 fr,.int .i64 sd,.float .f64 en,.slice dp dn dc,.slice pp pn pc,.slice lp ln lc,.slice ip im ic,.slice none 0 0],.bool false]) (by simp[results,Tryz.results24,go_sem,v0,v1,v2,v3,v4,v5,v6,v7,v8]) rfl ?_
     exact⟨sec,fr,yy,by rw[HO.out,HYY.out];rfl,(fun z hz=>by rw[HO.out]at hz;cases hz),HSA.out _ HZ.out.2.2.2,HZ.out.2.2.1⟩
    | some f1=>
     cases o3 with
     |none=>
      have HO:Hid (yg ws=none):=hid HO.out
      obtain⟨z0,z1,z2,z3,z4,z5,z6,z7,z8⟩:=zZ HR.out.2
      obtain⟨y0,y1,y2,y3,y4,y5,y6,y7,y8,zlt⟩:=yA HR.out.2
      obtain⟨wz,hwz,hbz,hfz,hoz⟩:=zS HR.out.1 HR.out.2 (by rw[HRW.out.1];omega) [.int .i64 sec,.int .i64 fr,.int .i64 sd,.float .f64 en,.slice dp dn dc,.slice pp pn pc,.slice lp ln lc,.slice ip im ic,.slice none 0 0] rfl
      unfold za za za za za za za za za za at hwz
      have HZ:=hid (⟨hwz,hbz,hfz,hoz⟩:_∧_∧_∧_)
      clear hwz hbz hfz hoz
      go_wp2
      rw[←HZ.out.1]
      obtain⟨v0,v1,v2,v3,v4,v5,v6,v7,v8⟩:=zZ HZ.out.2.1
      refine bodyPost_ret (v:= .tuple #[.agg #[.int .i64 sec,.int .i64 fr,.int .i64 sd,.float .f64 en,.slice dp dn dc,.slice pp pn pc,.slice lp ln lc,.slice ip im ic,.slice none 0 0],.bool false]) (by simp[results,Tryz.results24,go_sem,v0,v1,v2,v3,v4,v5,v6,v7,v8]) rfl ?_
      exact⟨sec,fr,yy,by rw[HO.out,HYY.out];rfl,(fun z hz=>by rw[HO.out]at hz;cases hz),HSA.out _ HZ.out.2.2.2,HZ.out.2.2.1⟩
     | some s3=>
      have HG:Hid (yg ws=if ee=0 then some ⟨n1,f1,yy.m,[]⟩else none):=hid (by
       rw[HO.out]
       have h:=HY.out.2
       rw[HT.out.2.2 _ rfl]at h
       show(match jE s3 with
        |some m=>(some ⟨n1,f1,m,[]⟩:Option Scr)
        |none=>none)=_
       cases hg:jE s3 with
       |none=>rw[hg]at h;exact(if_neg h).symm
       |some x=>rw[hg]at h;rw[if_pos h.1,h.2])
      by_cases he:ee=0
      ·have HO:Hid (yg ws=some ⟨n1,f1,yy.m,[]⟩):=hid (by rw[HG.out,if_pos he])
       have heb:(ee==0)=true:=by rw[beq_iff_eq];exact he
       clear he
       obtain⟨z0,z1,z2,z3,z4,z5,z6,z7,z8⟩:=zZ HR.out.2
       obtain⟨y0,y1,y2,y3,y4,y5,y6,y7,y8,zlt⟩:=yA HR.out.2
       obtain⟨wz,hwz,hbz,hfz,hoz⟩:=zS HR.out.1 HR.out.2 (by rw[HRW.out.1];omega) [.int .i64 sec,.int .i64 fr,.int .i64 sd,.float .f64 en,.slice dp dn dc,.slice pp pn pc,.slice lp ln lc,.slice ip im ic,.slice none 0 0] rfl
       unfold za za za za za za za za za za at hwz
       have HZ:=hid (⟨hwz,hbz,hfz,hoz⟩:_∧_∧_∧_)
       clear hwz hbz hfz hoz
       go_wp2
       rw[←HZ.out.1]
       obtain⟨v0,v1,v2,v3,v4,v5,v6,v7,v8⟩:=zZ HZ.out.2.1
       refine bodyPost_ret (v:= .tuple #[.agg #[.int .i64 sec,.int .i64 fr,.int .i64 sd,.float .f64 en,.slice dp dn dc,.slice pp pn pc,.slice lp ln lc,.slice ip im ic,.slice none 0 0],.bool true]) (by simp[results,Tryz.results24,go_sem,v0,v1,v2,v3,v4,v5,v6,v7,v8]) rfl ?_
       exact⟨sec,fr,yy,by rw[HO.out,HYY.out];rfl,(fun z hz=>by rw[HO.out]at hz;injection hz with hz;rw[←hz,←HT.out.1 _ rfl,←HT.out.2.1 _ rfl];rfl),HSA.out _ HZ.out.2.2.2,HZ.out.2.2.1⟩
      ·have HO:Hid (yg ws=none):=hid (by rw[HG.out,if_neg he])
       have heb:(ee==0)=false:=by rw[beq_eq_false_iff_ne];exact he
       clear he
       obtain⟨z0,z1,z2,z3,z4,z5,z6,z7,z8⟩:=zZ HR.out.2
       obtain⟨y0,y1,y2,y3,y4,y5,y6,y7,y8,zlt⟩:=yA HR.out.2
       obtain⟨wz,hwz,hbz,hfz,hoz⟩:=zS HR.out.1 HR.out.2 (by rw[HRW.out.1];omega) [.int .i64 sec,.int .i64 fr,.int .i64 sd,.float .f64 en,.slice dp dn dc,.slice pp pn pc,.slice lp ln lc,.slice ip im ic,.slice none 0 0] rfl
       unfold za za za za za za za za za za at hwz
       have HZ:=hid (⟨hwz,hbz,hfz,hoz⟩:_∧_∧_∧_)
       clear hwz hbz hfz hoz
       go_wp2
       rw[←HZ.out.1]
       obtain⟨v0,v1,v2,v3,v4,v5,v6,v7,v8⟩:=zZ HZ.out.2.1
       refine bodyPost_ret (v:= .tuple #[.agg #[.int .i64 sec,.int .i64 fr,.int .i64 sd,.float .f64 en,.slice dp dn dc,.slice pp pn pc,.slice lp ln lc,.slice ip im ic,.slice none 0 0],.bool false]) (by simp[results,Tryz.results24,go_sem,v0,v1,v2,v3,v4,v5,v6,v7,v8]) rfl ?_
       exact⟨sec,fr,yy,by rw[HO.out,HYY.out];rfl,(fun z hz=>by rw[HO.out]at hz;cases hz),HSA.out _ HZ.out.2.2.2,HZ.out.2.2.1⟩
  ·have HO:Hid (yg ws=none):=hid (by
    unfold yg
    rw[if_neg]
    rintro⟨-,h⟩
    exact hw (by rw[HW.out.2.2.2.2.1,h]))
   have hwb:(w0==[119,111,114,108,100])=false:=by simpa using hw
   have hwc:(w0 != [119,111,114,108,100])=true:=by rw[bne,hwb];rfl
   clear hw
   obtain⟨z0,z1,z2,z3,z4,z5,z6,z7,z8⟩:=zZ HR.out.2
   obtain⟨y0,y1,y2,y3,y4,y5,y6,y7,y8,zlt⟩:=yA HR.out.2
   obtain⟨wz,hwz,hbz,hfz,hoz⟩:=zS HR.out.1 HR.out.2 (by rw[HRW.out.1];omega) [.int .i64 0,.int .i64 0,.int .i64 0,.float .f64 0,.slice none 0 0,.slice none 0 0,.slice none 0 0,.slice none 0 0,.slice none 0 0] rfl
   unfold za za za za za za za za za za at hwz
   have HZ:=hid (⟨hwz,hbz,hfz,hoz⟩:_∧_∧_∧_)
   clear hwz hbz hfz hoz
   go_wp2
   rw[←HZ.out.1]
   obtain⟨v0,v1,v2,v3,v4,v5,v6,v7,v8⟩:=zZ HZ.out.2.1
   refine bodyPost_ret (v:= .tuple #[.agg #[.int .i64 0,.int .i64 0,.int .i64 0,.float .f64 0,.slice none 0 0,.slice none 0 0,.slice none 0 0,.slice none 0 0,.slice none 0 0],.bool false]) (by simp[results,Tryz.results24,go_sem,v0,v1,v2,v3,v4,v5,v6,v7,v8]) rfl ?_
   exact⟨0,0,mdZ,by rw[HO.out];rfl,(fun z hz=>by rw[HO.out]at hz;cases hz),fun _ _=>qS _,HZ.out.2.2.1⟩
 ·have HO:Hid (yg ws=none):=hid (by
   unfold yg
   rw[if_neg]
   rintro⟨h,-⟩
   exact hn4 (by rw[HW.out.1,h]))
  have hnz:((n:Int)==4)=false:=by rw[beq_eq_false_iff_ne];omega
  have hnz2:((n:Int) != 4)=true:=by rw[bne_iff_ne];omega
  obtain⟨z0,z1,z2,z3,z4,z5,z6,z7,z8⟩:=zZ HR.out.2
  obtain⟨y0,y1,y2,y3,y4,y5,y6,y7,y8,zlt⟩:=yA HR.out.2
  obtain⟨wz,hwz,hbz,hfz,hoz⟩:=zS HR.out.1 HR.out.2 (by rw[HRW.out.1];omega) [.int .i64 0,.int .i64 0,.int .i64 0,.float .f64 0,.slice none 0 0,.slice none 0 0,.slice none 0 0,.slice none 0 0,.slice none 0 0] rfl
  unfold za za za za za za za za za za at hwz
  have HZ:=hid (⟨hwz,hbz,hfz,hoz⟩:_∧_∧_∧_)
  clear hwz hbz hfz hoz
  go_wp2
  rw[←HZ.out.1]
  obtain⟨v0,v1,v2,v3,v4,v5,v6,v7,v8⟩:=zZ HZ.out.2.1
  refine bodyPost_ret (v:= .tuple #[.agg #[.int .i64 0,.int .i64 0,.int .i64 0,.float .f64 0,.slice none 0 0,.slice none 0 0,.slice none 0 0,.slice none 0 0,.slice none 0 0],.bool false]) (by simp[results,Tryz.results24,go_sem,v0,v1,v2,v3,v4,v5,v6,v7,v8]) rfl ?_
  exact⟨0,0,mdZ,by rw[HO.out];rfl,(fun z hz=>by rw[HO.out]at hz;cases hz),fun _ _=>qS _,HZ.out.2.2.1⟩
end
end Go.Proofs.YtcdiljebkpikbaaGreat
