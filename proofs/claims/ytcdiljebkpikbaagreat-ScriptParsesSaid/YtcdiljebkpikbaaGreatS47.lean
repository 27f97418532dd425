/- Parts of the proof: Seg Set Ses Ok. -/
import Derived.Test.YtcdiljebkpikbaaGreatRows
import Derived.Deep.Slices
import Derived.ProofKit
import Derived.SizedLaws
import Derived.Laws.Cover2
import Derived.Carry
import Derived.Test.YtcdiljebkpikbaaGreatS12
import Derived.Test.YtcdiljebkpikbaaGreatS30
import Derived.Test.YtcdiljebkpikbaaGreatS31
import Derived.Test.YtcdiljebkpikbaaGreatS42
import Derived.Test.YtcdiljebkpikbaaGreatS43
import Derived.Test.YtcdiljebkpikbaaGreatS46
set_option linter.all false
set_option maxRecDepth 100000
set_option maxHeartbeats 64000000
namespace Go.Proofs.YtcdiljebkpikbaaGreat
section
open Go.RowKit Go.Lib
theorem MdF.alloc {B:Nat} {w:World} {y:MdV} (h:MdF B w y) (o:Obj):MdF B (w.alloc o) y:=fun w' hk=>h w' fun b h1 h2=>(hk b h1 (by simp;omega)).trans (Below.heap_alloc _ _ _ h2)
theorem abY (s:Bs) (hs:s.length≤45000) (W:World):Calls Tryz.prog 8 #[.string (S s)] W (PaP W (qW s)):=by
 obtain⟨ls,hls⟩: ∃ls,ls=zv 10 s:=⟨_,rfl⟩
 obtain⟨pr,hpr⟩: ∃pr,pr=qW s:=⟨_,rfl⟩
 have HPR:Hid (pr=if 1024<ls.length then .full else goL ls.length 0 none ls):=hid (by rw[hpr,hls];rfl)
 have HL:Hid ((∀l∈ls,l.length≤45000)∧ls≠[]):=hid ⟨fun l hl=>Nat.le_trans (jH (hls▸hl)) hs,by rw[hls];exact jq _ _⟩
 obtain⟨r0,hr0⟩: ∃n,n=W.heap.size:=⟨_,rfl⟩
 obtain⟨W0,hW0⟩: ∃W0,W0=W.alloc (.cells #[.int .i64 0,.int .i64 0,.int .i64 0,.float .f64 0,.slice none 0 0,.slice none 0 0,.slice none 0 0,.slice none 0 0,.slice none 0 0] 36):=⟨_,rfl⟩
 have HP:Hid (Calls Tryz.prog 22 #[.string (S s),.int .u8 10] W0 fun e w'=> ∃p n k,e= .returned (.slice p n k)∧n=ls.length∧Vw 1 jQ w' (.slice p n k) ls∧Below W0.heap.size W0 w'):=hid (by rw[hls];exact JB s 10 (by omega) W0)
 have HB0:Hid (Below W.heap.size W W0∧Blk W0 r0 36 #[.int .i64 0,.int .i64 0,.int .i64 0,.float .f64 0,.slice none 0 0,.slice none 0 0,.slice none 0 0,.slice none 0 0,.slice none 0 0]):=hid ⟨by rw[hW0];exact(Below.refl _ W).alloc (Nat.le_refl _) _,by rw[hW0,hr0];exact Blk.new W _ _⟩
 have HR0:=hid hr0
 have HW0:=hid hW0
 rw[←hpr]
 clear hpr hls hs hr0 hW0
 go_enter Tryz.func8,Tryz.ntmps8
 go_upto_region 1 with fail
 rw[←HW0.out,←HR0.out]
 go_wp2_with fail
 (with_reducible refine HP.out.mono ?_)
 rintro e W1 ⟨lp,n,lk,rfl,hn,hv,hb⟩
 have HRT:Hid (∀w,Below W1.heap.size W1 w→Below W.heap.size W w∧Blk w r0 36 #[.int .i64 0,.int .i64 0,.int .i64 0,.float .f64 0,.slice none 0 0,.slice none 0 0,.slice none 0 0,.slice none 0 0,.slice none 0 0]):=hid fun w h=>by
  have h1:=hb.trans (h.mono hb.size)
  exact⟨HB0.out.1.trans (h1.mono HB0.out.1.size),HB0.out.2.below h1 HB0.out.2.lt⟩
 obtain⟨gb,off,lc,e1,e2,e3,e4⟩:=hv.ex HL.out.2
 injection e1 with e1 e5 e6
 subst e1 e6
 have HC:Hid (∀W',Below W1.heap.size W1 W'→ ∀i x,ls[i]? =some x→W'.cell? ⟨gb,off+i,none⟩=some (.string (S x))):=hid fun W' hb i x hx=>by
  have:=e4 i x hx 0 (.string (S x)) rfl
  rw[←this]
  simpa using World.cell?_of_block (hb.block gb e3)
 have HN:=hid hn
 clear hv hb e2 e3 e4 e5 hn HP
 by_cases hf:1024<n
 ·have HF:Hid (PR.full=pr):=hid (by rw[HPR.out,←HN.out,if_pos hf])
  have hfz:1024<(n:Int):=by omega
  obtain⟨hbw,hbr⟩:=HRT.out W1 (Below.refl _ _)
  obtain⟨z0,z1,z2,z3,z4,z5,z6,z7,z8⟩:=zZ hbr
  obtain⟨y0,y1,y2,y3,y4,y5,y6,y7,y8,zlt⟩:=yA hbr
  obtain⟨wz,hwz,hbz,hfz,hoz⟩:=zS hbw hbr (by rw[HR0.out];exact Nat.le_refl _) [.int .i64 0,.int .i64 0,.int .i64 0,.float .f64 0,.slice none 0 0,.slice none 0 0,.slice none 0 0,.slice none 0 0,.slice none 0 0] rfl
  unfold za za za za za za za za za za at hwz
  have HZ:=hid (⟨hwz,hbz,hfz,hoz⟩:_∧_∧_∧_)
  clear hwz hbz hfz hoz hbw hbr
  go_wp2
  rw[←HZ.out.1]
  obtain⟨v0,v1,v2,v3,v4,v5,v6,v7,v8⟩:=zZ HZ.out.2.1
  refine bodyPost_ret (v:= .tuple #[.agg #[.int .i64 0,.int .i64 0,.int .i64 0,.float .f64 0,.slice none 0 0,.slice none 0 0,.slice none 0 0,.slice none 0 0,.slice none 0 0],.int .i64 0,.int .i64 11]) (by simp[results,Tryz.results8,go_sem,v0,v1,v2,v3,v4,v5,v6,v7,v8]) rfl ?_
  exact⟨scZ,_,_,rfl,by rw[←HF.out];exact⟨rfl,rfl,rfl⟩,jW _,HZ.out.2.2.1⟩
 ·have HG:Hid (goL n 0 none (ls.drop 0)=pr):=hid (by rw[HPR.out,HN.out,if_neg (by rw[←HN.out];exact hf)];rfl)
  have hfz:(n:Int)≤1024:=by omega
  obtain⟨ob,hob⟩: ∃k,k=W1.heap.size:=⟨_,rfl⟩
  obtain⟨wa,hwa⟩: ∃w,w=W1.alloc (.cells #[.int .i64 0,.int .i64 0,.int .i64 0,.float .f64 0,.slice none 0 0,.slice none 0 0,.slice none 0 0,.slice none 0 0,.slice none 0 0] 36):=⟨_,rfl⟩
  have HI0:Hid (PaI 36 W1 ob scZ wa):=hid (.new W1 (by rw[hwa];exact(Below.refl _ _).alloc (Nat.le_refl _) _) (by rw[hwa,hob];exact Blk.new W1 _ _) (by omega))
  have HWA:=hid (⟨hob,hwa⟩:_∧_)
  clear hf hob hwa
  go_wp2_with (with_reducible refine YF 36 rfl ?_)
  with_reducible refine ki ?_
  rw[←HWA.out.1,←HWA.out.2]
  obtain⟨wb,hwb,hbz,hfz,-⟩:=zS HI0.out.bw HI0.out.bo HI0.out.lo [.int .i64 0,.int .i64 0,.int .i64 0,.float .f64 0,.slice none 0 0,.slice none 0 0,.slice none 0 0,.slice none 0 0,.slice none 0 0] rfl
  have HST:Hid (wb=za wa ob 0 [.int .i64 0,.int .i64 0,.int .i64 0,.float .f64 0,.slice none 0 0,.slice none 0 0,.slice none 0 0,.slice none 0 0,.slice none 0 0]):=hid hwb
  have HI1:Hid (PaI 36 W1 ob scZ wb):=hid (.new W1 hfz hbz HI0.out.lo)
  clear hwb hbz hfz
  obtain⟨z0,z1,z2,z3,z4,z5,z6,z7,z8⟩:=zZ HI0.out.bo
  obtain⟨y0,y1,y2,y3,y4,y5,y6,y7,y8,zlt⟩:=yA HI0.out.bo
  go_upto_region 5 with fail
  have hwz:=HST.out
  unfold za za za za za za za za za za at hwz
  rw[←hwz]
  clear hwz HST z0 z1 z2 z3 z4 z5 z6 z7 z8 y0 y1 y2 y3 y4 y5 y6 y7 y8 zlt HI0
  have HI0:=HI1
  clear HI1
  go_wp2
  go_loopg [7,8] n (fun gg s7 s8 wr=> ∃(i:Nat) (st:Option Scr) (sv:ScV),i≤n∧n-i≤gg∧s7= .bool st.isSome∧s8= .int .i64 i∧Hid (PaI 36 W1 ob sv wr)∧Hid (goL n i st (ls.drop i)=pr)∧Hid (∀x,st=some x→sv.s=x)∧sv.an≤i)
  case atStart=>exact⟨0,none,scZ,by omega,by omega,rfl,rfl,HI0,HG,hid fun x hx=>(by cases hx),Nat.le_refl _⟩
  case round=>
   obtain⟨i,st,sv,hi,hgg,rfl,rfl,HI,HG,HS,hani⟩:=hrel
   by_cases hj:i<n
   ·have hjz:(i:Int)<(n:Int):=by omega
    obtain⟨l,hl⟩: ∃x,ls[i]? =some x:=⟨_,List.getElem?_eq_getElem (by rw[←HN.out];exact hj)⟩
    have hc:=HC.out wr HI.out.bw i l hl
    have HGL:=hid (HG.out.symm.trans (anT hl)).symm
    have HLL:=hid (HL.out.1 l (List.mem_of_getElem? hl))
    have HJ:=hid hj
    clear hl
    cases hle:l.isEmpty with
    |true=>
     have HG2:Hid (goL n (i+1) st (ls.drop (i+1))=pr):=hid (by rw[←HGL.out,if_pos (List.isEmpty_iff.1 hle)])
     go_wp2
     go_roundg (n- (i+1))
     case measure=>omega
     case rel=>exact⟨i+1,st,sv,by have:=HJ.out;omega,by omega,rfl,by go_num,HI,HG2,HS,by omega⟩
    | false=>
     have hl0:l≠[]:=fun e=>by rw[e]at hle;cases hle
     have HGL:Hid ((if []∈zv 32 l then PR.line i else kQ n i st (zv 32 l) (ls.drop (i+1)))=pr):=hid (by rw[←HGL.out,if_neg hl0])
     obtain⟨ws,hws⟩: ∃ws,ws=zv 32 l:=⟨_,rfl⟩
     have HPS:Hid (Calls Tryz.prog 22 #[.string (S l),.int .u8 32] wr fun e w'=> ∃p n k,e= .returned (.slice p n k)∧n=ws.length∧Vw 1 jQ w' (.slice p n k) ws∧Below wr.heap.size wr w'):=hid (by rw[hws];exact JB l 32 (by have:=HLL.out;omega) wr)
     have HWS:Hid (ws≠[]∧ws.length≤90001∧ ∀x∈ws,x.length≤90000):=hid ⟨by rw[hws];exact jq _ _,by have:=xz 32 l;have:=HLL.out;rw[hws];omega,fun x hx=>by have:=jH (hws▸hx);have:=HLL.out;omega⟩
     rw[←hws]at HGL
     clear hws hl0
     go_wp2_with fail
     (with_reducible refine HPS.out.mono ?_)
     rintro e w2 ⟨wp,wn,wk,rfl,hwn,hwv,hb2⟩
     have HV:=hid (⟨hwn,hwv⟩:_∧_)
     have HI:=hid (HI.out.below hb2)
     clear hwn hwv hb2 HPS hc
     have HCT:Hid (Calls Tryz.prog 23 #[.slice wp wn wk] w2 fun e w'=>e= .returned (.bool (ws.any List.isEmpty))∧w2=w'):=hid (abX ws wp wn wk HV.out.1 HWS.out.1 HWS.out.2.1 w2 HV.out.2)
     obtain⟨ae,hae⟩: ∃b,b=ws.any List.isEmpty:=⟨_,rfl⟩
     rw[←hae]at HCT
     have HAE:Hid (ae=true↔[]∈ws):=hid (by rw[hae,QP])
     clear hae
     go_wp2_with fail
     (with_reducible refine HCT.out.mono ?_)
     rintro e w3 ⟨rfl,rfl⟩
     clear HCT
     cases ae with
     |true=>
      have HF:Hid (PR.line i=pr):=hid (by rw[←HGL.out,if_pos (HAE.out.1 rfl)])
      obtain⟨hbw,hbr⟩:=HRT.out w2 HI.out.bw
      obtain⟨z0,z1,z2,z3,z4,z5,z6,z7,z8⟩:=zZ hbr
      obtain⟨y0,y1,y2,y3,y4,y5,y6,y7,y8,zlt⟩:=yA hbr
      obtain⟨wz,hwz,hbz,hfz,hoz⟩:=zS hbw hbr (by rw[HR0.out];exact Nat.le_refl _) [.int .i64 0,.int .i64 0,.int .i64 0,.float .f64 0,.slice none 0 0,.slice none 0 0,.slice none 0 0,.slice none 0 0,.slice none 0 0] rfl
      unfold za za za za za za za za za za at hwz
      have HZ:=hid (⟨hwz,hbz,hfz,hoz⟩:_∧_∧_∧_)
      clear hwz hbz hfz hoz hbw hbr
      go_wp2
      rw[←HZ.out.1]
      obtain⟨v0,v1,v2,v3,v4,v5,v6,v7,v8⟩:=zZ HZ.out.2.1
      refine bodyPost_ret (v:= .tuple #[.agg #[.int .i64 0,.int .i64 0,.int .i64 0,.float .f64 0,.slice none 0 0,.slice none 0 0,.slice none 0 0,.slice none 0 0,.slice none 0 0],.int .i64 i,.int .i64 30]) (by simp[results,Tryz.results8,go_sem,v0,v1,v2,v3,v4,v5,v6,v7,v8]) rfl ?_
      exact⟨scZ,_,_,rfl,by rw[←HF.out];exact⟨rfl,rfl,rfl⟩,jW _,HZ.out.2.2.1⟩
     | false=>
      have HGL:Hid (kQ n i st ws (ls.drop (i+1))=pr):=hid (by rw[←HGL.out,if_neg (fun h=>by have:=HAE.out.2 h;cases this)])
      cases st with
      | none=>
       obtain⟨o,ho⟩: ∃o,o=yg ws:=⟨_,rfl⟩
       have HHD:Hid (Calls Tryz.prog 24 #[.slice wp wn wk] w2 fun e w'=> ∃(sec fr:Int) (y:MdV),e= .returned (.tuple #[.agg #[.int .i64 sec,.int .i64 fr,.int .i64 y.seed,.float .f64 y.en,.slice y.dp y.dn y.dc,.slice y.pp y.pn y.pc,.slice y.lp y.ln y.lc,.slice y.ip y.im y.ic,.slice none 0 0],.bool o.isSome])∧(∀z,o=some z→(ScV.mk sec fr y none 0 0 []).s=z)∧MdF w2.heap.size w' y∧Below w2.heap.size w2 w'):=hid (by rw[ho];exact ahL ws wp wn wk HV.out.1 HWS.out.1 HWS.out.2.2 w2 HV.out.2)
       have HG0:Hid (o=none→PR.line i=pr):=hid fun h=>by rw[←HGL.out,aa6 (ho▸h)]
       have HG1:Hid (∀x,o=some x→goL n (i+1) (some x) (ls.drop (i+1))=pr):=hid fun x h=>by rw[←HGL.out,aa7 (ho▸h)]
       clear ho HGL
       go_wp2_with fail
       (with_reducible refine HHD.out.mono ?_)
       rintro e w3 ⟨sec,fr,y,rfl,hz,hmd,hb3⟩
       obtain⟨xb,hxb⟩: ∃k,k=w3.heap.size:=⟨_,rfl⟩
       obtain⟨w4,hw4⟩: ∃w,w=w3.alloc (.cells #[.int .i64 sec,.int .i64 fr,.int .i64 y.seed,.float .f64 y.en,.slice y.dp y.dn y.dc,.slice y.pp y.pn y.pc,.slice y.lp y.ln y.lc,.slice y.ip y.im y.ic,.slice none 0 0] 36):=⟨_,rfl⟩
       have hX4:Blk w4 xb 36 #[.int .i64 sec,.int .i64 fr,.int .i64 y.seed,.float .f64 y.en,.slice y.dp y.dn y.dc,.slice y.pp y.pn y.pc,.slice y.lp y.ln y.lc,.slice y.ip y.im y.ic,.slice none 0 0]:=by rw[hw4,hxb];exact Blk.new _ _ _
       have hb4:Below w2.heap.size w2 w4:=by rw[hw4];exact hb3.alloc hb3.size _
       have hmd4:MdF w2.heap.size w4 y:=by rw[hw4];exact hmd.alloc _
       have HZ3:=hid hz
       have HX4:=hid (⟨hxb,hw4,hX4,hb4,hmd4⟩:_∧_∧_∧_∧_)
       have HI2:=HI
       have HI:=hid (HI.out.below hb4)
       clear hxb hw4 hX4 hb4 hmd4 hz hmd hb3 HHD
       go_upto_region 15 with fail
       rw[←HX4.out.1,←HX4.out.2.1]
       cases o with
       |none=>
        have HF:Hid (PR.line i=pr):=hid (HG0.out rfl)
        obtain⟨hbw,hbr⟩:=HRT.out w4 HI.out.bw
        obtain⟨z0,z1,z2,z3,z4,z5,z6,z7,z8⟩:=zZ hbr
        obtain⟨y0,y1,y2,y3,y4,y5,y6,y7,y8,zlt⟩:=yA hbr
        obtain⟨wz,hwz,hbz,hfz,hoz⟩:=zS hbw hbr (by rw[HR0.out];exact Nat.le_refl _) [.int .i64 0,.int .i64 0,.int .i64 0,.float .f64 0,.slice none 0 0,.slice none 0 0,.slice none 0 0,.slice none 0 0,.slice none 0 0] rfl
        unfold za za za za za za za za za za at hwz
        have HZ:=hid (⟨hwz,hbz,hfz,hoz⟩:_∧_∧_∧_)
        clear hwz hbz hfz hoz hbw hbr
        go_wp2
        rw[←HZ.out.1]
        obtain⟨v0,v1,v2,v3,v4,v5,v6,v7,v8⟩:=zZ HZ.out.2.1
        refine bodyPost_ret (v:= .tuple #[.agg #[.int .i64 0,.int .i64 0,.int .i64 0,.float .f64 0,.slice none 0 0,.slice none 0 0,.slice none 0 0,.slice none 0 0,.slice none 0 0],.int .i64 i,.int .i64 30]) (by simp[results,Tryz.results8,go_sem,v0,v1,v2,v3,v4,v5,v6,v7,v8]) rfl ?_
        exact⟨scZ,_,_,rfl,by rw[←HF.out];exact⟨rfl,rfl,rfl⟩,jW _,HZ.out.2.2.1⟩
       |some x=>
        have HG2:=hid (HG1.out x rfl)
        obtain⟨wz,hwz,hpz⟩:=HI2.out.head HX4.out.2.2.2.2 HX4.out.2.2.2.1
        obtain⟨z0,z1,z2,z3,z4,z5,z6,z7,z8⟩:=zZ HI.out.bo
        obtain⟨y0,y1,y2,y3,y4,y5,y6,y7,y8,zlt⟩:=yA HI.out.bo
        obtain⟨u0,u1,u2,u3,u4,u5,u6,u7,u8⟩:=zZ HX4.out.2.2.1
        have HWZ:Hid (wz=za w4 ob 0 [.int .i64 sec,.int .i64 fr,.int .i64 y.seed,.float .f64 y.en,.slice y.dp y.dn y.dc,.slice y.pp y.pn y.pc,.slice y.lp y.ln y.lc,.slice y.ip y.im y.ic,.slice none 0 0]):=hid hwz
        have HI:=hid hpz
        clear hwz hpz
        go_upto_region 18 with fail
        have hwz:=HWZ.out
        unfold za za za za za za za za za za at hwz
        rw[←hwz]
        clear hwz HWZ z0 z1 z2 z3 z4 z5 z6 z7 z8 y0 y1 y2 y3 y4 y5 y6 y7 y8 zlt u0 u1 u2 u3 u4 u5 u6 u7 u8
        go_wp2
        go_roundg (n- (i+1))
        case measure=>have:=HJ.out;omega
        case rel=>exact⟨i+1,some x,_,by have:=HJ.out;omega,by omega,rfl,by go_num,HI,HG2,hid fun z hz=>by injection hz with hz;rw[←hz];exact HZ3.out _ rfl,Nat.zero_le _⟩
      | some sx=>
       obtain⟨o,ho⟩: ∃o,o=xD ws:=⟨_,rfl⟩
       have HG0:Hid (o=none→PR.line i=pr):=hid fun h=>by rw[←HGL.out,aa4 (ho▸h)]
       have HG1:Hid (∀x,o=some x→goL n (i+1) (some { sx with acts:=sx.acts++[x] }) (ls.drop (i+1))=pr):=hid fun x h=>by rw[←HGL.out,aa5 (ho▸h)]
       have HAC:Hid (Calls Tryz.prog 25 #[.slice wp wn wk] w2 fun e w'=> ∃a:AcV,e= .returned (.tuple #[.agg #[.int .i64 a.kind,.int .i64 a.n,.slice a.kp a.kn a.kc,.int .i64 a.torn,.int .i64 a.bytes],.bool o.isSome])∧(∀z,o=some z→a.ac=z)∧AcF w2.heap.size w' a∧Below w2.heap.size w2 w'):=hid (by rw[ho];exact ajm ws wp wn wk HV.out.1 HWS.out.1 HWS.out.2.2 w2 HV.out.2)
       clear ho HGL
       go_wp2_with fail
       (with_reducible refine HAC.out.mono ?_)
       rintro e w4 ⟨a,rfl,hz,haf,hb4⟩
       have HZ3:=hid hz
       obtain⟨ab,hab⟩: ∃k,k=w4.heap.size:=⟨_,rfl⟩
       obtain⟨w5,hw5⟩: ∃w,w=w4.alloc (.cells #[.int .i64 a.kind,.int .i64 a.n,.slice a.kp a.kn a.kc,.int .i64 a.torn,.int .i64 a.bytes] 53):=⟨_,rfl⟩
       have hB5:Blk w5 ab 53 #[.int .i64 a.kind,.int .i64 a.n,.slice a.kp a.kn a.kc,.int .i64 a.torn,.int .i64 a.bytes]:=by rw[hw5,hab];exact Blk.new _ _ _
       have hb5:Below w2.heap.size w2 w5:=by rw[hw5];exact hb4.alloc hb4.size _
       have haf5:AcF w2.heap.size w5 a:=⟨haf.n,haf.k.to (by rw[hw5];simp) fun b _ h2=>by rw[hw5];exact Below.heap_alloc _ _ _ h2⟩
       have HI2:=HI
       have HI:=hid (HI.out.below hb5)
       have HA5:=hid (⟨haf5,hb5,hB5⟩:_∧_∧_)
       have HW5:=hid (⟨hab,hw5⟩:_∧_)
       clear hz haf hb4 hab hw5 hB5 hb5 haf5 HAC
       go_upto_region 20 with fail
       rw[←HW5.out.1,←HW5.out.2]
       cases o with
       |none=>
        have HF:Hid (PR.line i=pr):=hid (HG0.out rfl)
        obtain⟨hbw,hbr⟩:=HRT.out w5 HI.out.bw
        obtain⟨z0,z1,z2,z3,z4,z5,z6,z7,z8⟩:=zZ hbr
        obtain⟨y0,y1,y2,y3,y4,y5,y6,y7,y8,zlt⟩:=yA hbr
        obtain⟨wz,hwz,hbz,hfz,hoz⟩:=zS hbw hbr (by rw[HR0.out];exact Nat.le_refl _) [.int .i64 0,.int .i64 0,.int .i64 0,.float .f64 0,.slice none 0 0,.slice none 0 0,.slice none 0 0,.slice none 0 0,.slice none 0 0] rfl
        unfold za za za za za za za za za za at hwz
        have HZ:=hid (⟨hwz,hbz,hfz,hoz⟩:_∧_∧_∧_)
        clear hwz hbz hfz hoz hbw hbr
        go_wp2
        rw[←HZ.out.1]
        obtain⟨v0,v1,v2,v3,v4,v5,v6,v7,v8⟩:=zZ HZ.out.2.1
        refine bodyPost_ret (v:= .tuple #[.agg #[.int .i64 0,.int .i64 0,.int .i64 0,.float .f64 0,.slice none 0 0,.slice none 0 0,.slice none 0 0,.slice none 0 0,.slice none 0 0],.int .i64 i,.int .i64 30]) (by simp[results,Tryz.results8,go_sem,v0,v1,v2,v3,v4,v5,v6,v7,v8]) rfl ?_
        exact⟨scZ,_,_,rfl,by rw[←HF.out];exact⟨rfl,rfl,rfl⟩,jW _,HZ.out.2.2.1⟩
       |some x=>
        have HG2:=hid (HG1.out x rfl)
        have HS2:=hid (HZ3.out _ rfl)
        obtain⟨⟨m0,m1,m2,m3,m4⟩,_,_⟩:=yq HA5.out.2.2
        have z8:w5.cell? ⟨ob,8,none⟩=some (.slice sv.ap sv.an sv.ac):=(zZ HI.out.bo).2.2.2.2.2.2.2.2
        go_wp2_with (with_reducible refine yd .append rfl ?_)
        with_reducible refine ki ?_
        refine zO rfl _ _ 30 rfl acC anX Tryz.underlying30 rfl (by decide) (by decide) J0 ack a HI.out.row (by have:=HJ.out;omega) HI.out.bo.lt rfl rfl ?_
        intro v6 w6 ho6 hk6 hv6
        obtain⟨p6,c6,rfl⟩:=zm ho6
        have h7:=HI2.out.acts HA5.out.1 HA5.out.2.1 ho6 hk6 hv6 (by decide)
        obtain⟨z0,z1,z2,z3,z4,z5,z6,z7,q8⟩:=zZ h7.1
        obtain⟨y0,y1,y2,y3,y4,y5,y6,y7,y8,zlt⟩:=yA h7.1
        obtain⟨w7,hw7⟩: ∃w,w=w6.setCell ⟨ob,8,none⟩ (.slice p6 (sv.an+1) c6):=⟨_,rfl⟩
        rw[←hw7]at h7
        have HI:=hid h7.2
        clear ho6 hk6 hv6 h7 z0 z1 z2 z3 z4 z5 z6 z7 y0 y1 y2 y3 y4 y5 y6 y7 m0 m1 m2 m3 m4 z8 HA5
        go_wp2
        rw[←hw7]
        clear hw7 q8 y8 zlt
        go_roundg (n- (i+1))
        case measure=>have:=HJ.out;omega
        case rel=>exact⟨i+1,some _,_,by have:=HJ.out;omega,by omega,rfl,by go_num,HI,HG2,hid fun z hz=>by injection hz with hz;rw[←hz,←HS.out _ rfl,←HS2.out];simp[ScV.s],Nat.succ_le_succ hani⟩
   ·have hjz: ¬(i:Int)<(n:Int):=by omega
    have hgn:=agU (n:=n) (st:=st) (show ls[i]? =none from List.getElem?_eq_none (by rw[←HN.out];omega))
    cases st with
    |none=>
     have HF:Hid (PR.line n=pr):=hid (hgn.symm.trans HG.out)
     clear hgn
     obtain⟨hbw,hbr⟩:=HRT.out wr HI.out.bw
     obtain⟨z0,z1,z2,z3,z4,z5,z6,z7,z8⟩:=zZ hbr
     obtain⟨y0,y1,y2,y3,y4,y5,y6,y7,y8,zlt⟩:=yA hbr
     obtain⟨wz,hwz,hbz,hfz,hoz⟩:=zS hbw hbr (by rw[HR0.out];exact Nat.le_refl _) [.int .i64 0,.int .i64 0,.int .i64 0,.float .f64 0,.slice none 0 0,.slice none 0 0,.slice none 0 0,.slice none 0 0,.slice none 0 0] rfl
     unfold za za za za za za za za za za at hwz
     have HZ:=hid (⟨hwz,hbz,hfz,hoz⟩:_∧_∧_∧_)
     clear hwz hbz hfz hoz hbw hbr
     go_wp2
     rw[←HZ.out.1]
     obtain⟨v0,v1,v2,v3,v4,v5,v6,v7,v8⟩:=zZ HZ.out.2.1
     refine bodyPost_ret (v:= .tuple #[.agg #[.int .i64 0,.int .i64 0,.int .i64 0,.float .f64 0,.slice none 0 0,.slice none 0 0,.slice none 0 0,.slice none 0 0,.slice none 0 0],.int .i64 n,.int .i64 30]) (by simp[results,Tryz.results8,go_sem,v0,v1,v2,v3,v4,v5,v6,v7,v8]) rfl ?_
     exact⟨scZ,_,_,rfl,by rw[←HF.out];exact⟨rfl,rfl,rfl⟩,jW _,HZ.out.2.2.1⟩
    |some sx=>
     have HF:Hid (PR.ok sx=pr):=hid (hgn.symm.trans HG.out)
     obtain⟨x0,x1,x2,x3,x4,x5,x6,x7,x8⟩:=zZ HI.out.bo
     clear hgn
     obtain⟨hbw,hbr⟩:=HRT.out wr HI.out.bw
     obtain⟨z0,z1,z2,z3,z4,z5,z6,z7,z8⟩:=zZ hbr
     obtain⟨y0,y1,y2,y3,y4,y5,y6,y7,y8,zlt⟩:=yA hbr
     obtain⟨wz,hwz,hbz,hfz,hoz⟩:=zS hbw hbr (by rw[HR0.out];exact Nat.le_refl _) [.int .i64 sv.sec,.int .i64 sv.fr,.int .i64 sv.x.seed,.float .f64 sv.x.en,.slice sv.x.dp sv.x.dn sv.x.dc,.slice sv.x.pp sv.x.pn sv.x.pc,.slice sv.x.lp sv.x.ln sv.x.lc,.slice sv.x.ip sv.x.im sv.x.ic,.slice sv.ap sv.an sv.ac] rfl
     have HSZ:Hid (wr.heap.size≤wz.heap.size):=hid (by rw[hwz,xO];exact Nat.le_refl _)
     unfold za za za za za za za za za za at hwz
     have HZ:=hid (⟨hwz,hbz,hfz,hoz⟩:_∧_∧_∧_)
     clear hwz hbz hfz hoz hbw hbr
     go_wp2
     rw[←HZ.out.1]
     obtain⟨v0,v1,v2,v3,v4,v5,v6,v7,v8⟩:=zZ HZ.out.2.1
     refine bodyPost_ret (v:= .tuple #[.agg #[.int .i64 sv.sec,.int .i64 sv.fr,.int .i64 sv.x.seed,.float .f64 sv.x.en,.slice sv.x.dp sv.x.dn sv.x.dc,.slice sv.x.pp sv.x.pn sv.x.pc,.slice sv.x.lp sv.x.ln sv.x.lc,.slice sv.x.ip sv.x.im sv.x.ic,.slice sv.ap sv.an sv.ac],.int .i64 0,.int .i64 0]) (by simp[results,Tryz.results8,go_sem,v0,v1,v2,v3,v4,v5,v6,v7,v8]) rfl ?_
     exact⟨sv,_,_,rfl,by rw[←HF.out];exact⟨rfl,rfl,HS.out _ rfl⟩,HI.out.fin (HRT.out W1 (Below.refl _ _)).2.lt HSZ.out HZ.out.2.2.2,HZ.out.2.2.1⟩
end
section
open Go.RowKit Go.Lib
def ace:Prop:= ∀w,Calls Tryz.prog 6 #[] w fun e w'=>e= .returned (.bool true)∧Below w.heap.size w w'
theorem Xl (hA:ace) (s:Bs) (W:World):Calls Tryz.prog 3 #[.string (S s)] W fun r w'=>r= .returned (.bool true)∧Below W.heap.size W w':=by
 have HA:Hid (∀w,Calls Tryz.prog 6 #[] w fun e w'=>e= .returned (.bool true)∧Below w.heap.size w w'):=hid hA
 clear hA
 by_cases hl:s.length≤20000
 ·have hlz: ¬20000<(s.length:Int):=by omega
  have HP:=hid (ab5 s (by omega) W)
  have HQ:=hid (abY s (by omega))
  obtain⟨n,hn⟩: ∃n,n=s.length:=⟨_,rfl⟩
  rw[←hn]at hlz
  have HN:=hid hn
  obtain⟨pr,hpr⟩: ∃p,p=qW s:=⟨_,rfl⟩
  rw[←hpr]at HP HQ
  have HPR:=hid hpr
  clear hl hpr
  go_enter Tryz.func3,Tryz.ntmps3
  have hn2:=HN.out.symm
  clear hn
  go_wp2_with fail
  (with_reducible refine HP.out.mono ?_)
  rintro r w1 ⟨x,i,e,rfl,hr1,hx1,hb1⟩
  obtain⟨xb,hxb⟩: ∃k,k=w1.heap.size:=⟨_,rfl⟩
  obtain⟨w2,hw2⟩: ∃w,w=w1.alloc (.cells #[.int .i64 x.sec,.int .i64 x.fr,.int .i64 x.x.seed,.float .f64 x.x.en,.slice x.x.dp x.x.dn x.x.dc,.slice x.x.pp x.x.pn x.x.pc,.slice x.x.lp x.x.ln x.x.lc,.slice x.x.ip x.x.im x.x.ic,.slice x.ap x.an x.ac] 32):=⟨_,rfl⟩
  have hX:Blk w2 xb 32 #[.int .i64 x.sec,.int .i64 x.fr,.int .i64 x.x.seed,.float .f64 x.x.en,.slice x.x.dp x.x.dn x.x.dc,.slice x.x.pp x.x.pn x.x.pc,.slice x.x.lp x.x.ln x.x.lc,.slice x.x.ip x.x.im x.x.ic,.slice x.ap x.an x.ac]:=by rw[hw2,hxb];exact Blk.new _ _ _
  have hb2:Below w1.heap.size w1 w2:=by rw[hw2];exact(Below.refl _ _).alloc (Nat.le_refl _) _
  have HX:=hid (⟨hX,hb1.trans (hb2.mono hb1.size),hx1.below hb2,hr1⟩:_∧_∧_∧_)
  have HW2:=hid (⟨hxb,hw2⟩:_∧_)
  clear hr1 hx1 hb1 hxb hw2 hX hb2 HP
  rw[show(scC x).toArray= #[.int .i64 x.sec,.int .i64 x.fr,.int .i64 x.x.seed,.float .f64 x.x.en,.slice x.x.dp x.x.dn x.x.dc,.slice x.x.pp x.x.pn x.x.pc,.slice x.x.lp x.x.ln x.x.lc,.slice x.x.ip x.x.im x.x.ic,.slice x.ap x.an x.ac]from rfl]
  go_upto_region 4 with fail
  rw[←HW2.out.1,←HW2.out.2]
  have HF:=hid (HQ.out w2)
  go_wp2_with fail
  (with_reducible refine HF.out.mono ?_)
  rintro r w3 ⟨y,i',e',rfl,hr2,hy1,hb3⟩
  obtain⟨yb,hyb⟩: ∃k,k=w3.heap.size:=⟨_,rfl⟩
  obtain⟨w4,hw4⟩: ∃w,w=w3.alloc (.cells #[.int .i64 y.sec,.int .i64 y.fr,.int .i64 y.x.seed,.float .f64 y.x.en,.slice y.x.dp y.x.dn y.x.dc,.slice y.x.pp y.x.pn y.x.pc,.slice y.x.lp y.x.ln y.x.lc,.slice y.x.ip y.x.im y.x.ic,.slice y.ap y.an y.ac] 36):=⟨_,rfl⟩
  have hY:Blk w4 yb 36 #[.int .i64 y.sec,.int .i64 y.fr,.int .i64 y.x.seed,.float .f64 y.x.en,.slice y.x.dp y.x.dn y.x.dc,.slice y.x.pp y.x.pn y.x.pc,.slice y.x.lp y.x.ln y.x.lc,.slice y.x.ip y.x.im y.x.ic,.slice y.ap y.an y.ac]:=by rw[hw4,hyb];exact Blk.new _ _ _
  have hb4:Below w3.heap.size w3 w4:=by rw[hw4];exact(Below.refl _ _).alloc (Nat.le_refl _) _
  have hb24:Below w2.heap.size w2 w4:=hb3.trans (hb4.mono hb3.size)
  obtain⟨hd1,hd2,hd3⟩:=HX.out.2.2.2.det hr2
  have h1:=HX.out.2.2.2
  rw[HPR.out]at h1 hr2
  have HSX:=aaQ HX.out.2.2.1 h1
  have HSY:=aaQ hy1 hr2
  have HY:=hid (⟨hY,HX.out.1.below hb24 HX.out.1.lt,hy1.below hb4,HX.out.2.2.1.below hb24,HX.out.2.1.trans (hb24.mono HX.out.2.1.size),(show ahW x.s y.s=true by rw[hd1];exact ab3 _),HSX,HSY⟩:_∧_∧_∧_∧_∧_∧_∧_)
  have HW4:=hid (⟨hyb,hw4⟩:_∧_)
  subst hd2 hd3
  rw[show(scC y).toArray= #[.int .i64 y.sec,.int .i64 y.fr,.int .i64 y.x.seed,.float .f64 y.x.en,.slice y.x.dp y.x.dn y.x.dc,.slice y.x.pp y.x.pn y.x.pc,.slice y.x.lp y.x.ln y.x.lc,.slice y.x.ip y.x.im y.x.ic,.slice y.ap y.an y.ac]from rfl]
  clear hr2 hy1 hb3 hyb hw4 hY hb4 hb24 hd1 h1 HSX HSY HF HW2
  go_upto_region 5 with fail
  rw[←HW4.out.1,←HW4.out.2]
  clear HW4
  obtain⟨x0,x1,x2,x3,x4,x5,x6,x7,x8⟩:=zZ HY.out.2.1
  obtain⟨y0,y1,y2,y3,y4,y5,y6,y7,y8⟩:=zZ HY.out.1
  refine zB (fun W'=>(W'.cell? ⟨xb,0,none⟩=some (.int .i64 x.sec)∧W'.cell? ⟨xb,1,none⟩=some (.int .i64 x.fr)∧W'.cell? ⟨xb,2,none⟩=some (.int .i64 x.x.seed)∧W'.cell? ⟨xb,3,none⟩=some (.float .f64 x.x.en)∧W'.cell? ⟨xb,4,none⟩=some (.slice x.x.dp x.x.dn x.x.dc)∧W'.cell? ⟨xb,5,none⟩=some (.slice x.x.pp x.x.pn x.x.pc)∧W'.cell? ⟨xb,6,none⟩=some (.slice x.x.lp x.x.ln x.x.lc)∧W'.cell? ⟨xb,7,none⟩=some (.slice x.x.ip x.x.im x.x.ic)∧W'.cell? ⟨xb,8,none⟩=some (.slice x.ap x.an x.ac))∧
   W'.cell? ⟨yb,0,none⟩=some (.int .i64 y.sec)∧W'.cell? ⟨yb,1,none⟩=some (.int .i64 y.fr)∧W'.cell? ⟨yb,2,none⟩=some (.int .i64 y.x.seed)∧W'.cell? ⟨yb,3,none⟩=some (.float .f64 y.x.en)∧W'.cell? ⟨yb,4,none⟩=some (.slice y.x.dp y.x.dn y.x.dc)∧W'.cell? ⟨yb,5,none⟩=some (.slice y.x.pp y.x.pn y.x.pc)∧W'.cell? ⟨yb,6,none⟩=some (.slice y.x.lp y.x.ln y.x.lc)∧W'.cell? ⟨yb,7,none⟩=some (.slice y.x.ip y.x.im y.x.ic)∧W'.cell? ⟨yb,8,none⟩=some (.slice y.ap y.an y.ac)) 17 (by kernel_rfl) ⟨⟨x0,x1,x2,x3,x4,x5,x6,x7,x8⟩,y0,y1,y2,y3,y4,y5,y6,y7,y8⟩ (fun hHeld=>?_)
  refine eR 0 (fun K hK=>?_)
  go_simp
  (with_reducible refine(HA.out _).mono ?_)
  rintro r w5 ⟨rfl,hb5⟩
  have HB5:=hid (Below.trans (Below.refl w4.heap.size w4).drew hb5)
  clear hb5 x0 x1 x2 x3 x4 x5 x6 x7 x8 y0 y1 y2 y3 y4 y5 y6 y7 y8
  obtain⟨x0,x1,x2,x3,x4,x5,x6,x7,x8⟩:=zZ (HY.out.2.1.below HB5.out HY.out.2.1.lt)
  obtain⟨y0,y1,y2,y3,y4,y5,y6,y7,y8⟩:=zZ (HY.out.1.below HB5.out HY.out.1.lt)
  refine hK.out _ _ ⟨⟨x0,x1,x2,x3,x4,x5,x6,x7,x8⟩,y0,y1,y2,y3,y4,y5,y6,y7,y8⟩ (fun hHeld=>?_)
  clear hK K
  (try simp only[Act.put,sEa,sEb,sEc])
  refine eT 1 hHeld ?_;(try simp only[Act.put,sEa,sEb,sEc]);refine eT 2 hHeld ?_;(try simp only[Act.put,sEa,sEb,sEc]);refine eT 3 hHeld ?_;(try simp only[Act.put,sEa,sEb,sEc]);refine eT 4 hHeld ?_;(try simp only[Act.put,sEa,sEb,sEc]);refine eT 5 hHeld ?_;(try simp only[Act.put,sEa,sEb,sEc]);refine eT 6 hHeld ?_;(try simp only[Act.put,sEa,sEb,sEc]);refine eT 7 hHeld ?_;(try simp only[Act.put,sEa,sEb,sEc]);refine eT 8 hHeld ?_;(try simp only[Act.put,sEa,sEb,sEc]);refine eT 9 hHeld ?_;(try simp only[Act.put,sEa,sEb,sEc]);refine eT 10 hHeld ?_;(try simp only[Act.put,sEa,sEb,sEc]);refine eT 11 hHeld ?_;(try simp only[Act.put,sEa,sEb,sEc]);refine eT 12 hHeld ?_;(try simp only[Act.put,sEa,sEb,sEc]);refine eT 14 hHeld ?_;(try simp only[Act.put,sEa,sEb,sEc])
  refine eR 13 (fun K hK=>?_)
  go_simp
  (with_reducible refine(aBU _ _ _ _ _ _ _ _ _ _ _ _ _ _ _ _ _ _ _ _).mono ?_)
  rintro r w6 ⟨rfl,hb6⟩
  have HB6:=hid (HB5.out.trans (hb6.mono HB5.out.size))
  clear hb6 x0 x1 x2 x3 x4 x5 x6 x7 x8 y0 y1 y2 y3 y4 y5 y6 y7 y8
  obtain⟨x0,x1,x2,x3,x4,x5,x6,x7,x8⟩:=zZ (HY.out.2.1.below HB6.out HY.out.2.1.lt)
  obtain⟨y0,y1,y2,y3,y4,y5,y6,y7,y8⟩:=zZ (HY.out.1.below HB6.out HY.out.1.lt)
  refine hK.out _ _ ⟨⟨x0,x1,x2,x3,x4,x5,x6,x7,x8⟩,y0,y1,y2,y3,y4,y5,y6,y7,y8⟩ (fun hHeld=>?_)
  clear hK K
  (try simp only[Act.put,sEa,sEb,sEc])
  have HS0:=JH (HY.out.2.2.2.1.below HB6.out) (HY.out.2.2.1.below HB6.out) HY.out.2.2.2.2.2.1 HY.out.2.2.2.2.2.2.1.1 HY.out.2.2.2.2.2.2.1.2 HY.out.2.2.2.2.2.2.2.2
  rw[show(scC x).toArray= #[.int .i64 x.sec,.int .i64 x.fr,.int .i64 x.x.seed,.float .f64 x.x.en,.slice x.x.dp x.x.dn x.x.dc,.slice x.x.pp x.x.pn x.x.pc,.slice x.x.lp x.x.ln x.x.lc,.slice x.x.ip x.x.im x.x.ic,.slice x.ap x.an x.ac]from rfl,show(scC y).toArray= #[.int .i64 y.sec,.int .i64 y.fr,.int .i64 y.x.seed,.float .f64 y.x.en,.slice y.x.dp y.x.dn y.x.dc,.slice y.x.pp y.x.pn y.x.pc,.slice y.x.lp y.x.ln y.x.lc,.slice y.x.ip y.x.im y.x.ic,.slice y.ap y.an y.ac]from rfl]at HS0
  have HS:=hid HS0
  clear HS0
  refine eR 15 (fun K hK=>?_)
  go_simp
  (with_reducible refine HS.out.mono ?_)
  rintro r w7 ⟨rfl,hb7⟩
  have HB7:=hid (HB6.out.trans (hb7.mono HB6.out.size))
  clear hb7 x0 x1 x2 x3 x4 x5 x6 x7 x8 y0 y1 y2 y3 y4 y5 y6 y7 y8
  obtain⟨x0,x1,x2,x3,x4,x5,x6,x7,x8⟩:=zZ (HY.out.2.1.below HB7.out HY.out.2.1.lt)
  obtain⟨y0,y1,y2,y3,y4,y5,y6,y7,y8⟩:=zZ (HY.out.1.below HB7.out HY.out.1.lt)
  refine hK.out _ _ ⟨⟨x0,x1,x2,x3,x4,x5,x6,x7,x8⟩,y0,y1,y2,y3,y4,y5,y6,y7,y8⟩ (fun hHeld=>?_)
  clear hK K
  (try simp only[Act.put,sEa,sEb,sEc])
  refine eT 16 hHeld ?_;(try simp only[Act.put,sEa,sEb,sEc]);refine eL (fun K hK=>?_);go_simp;refine hK.out _ _ ?_;clear hK K;(try simp only[Act.put,sEa,sEb,sEc])
  go_wp2
  go_ret
  exact⟨rfl,HY.out.2.2.2.2.1.trans (HB7.out.mono HY.out.2.2.2.2.1.size)⟩
 ·obtain⟨n,hn⟩: ∃n,n=s.length:=⟨_,rfl⟩
  have hlz:20000<(n:Int):=by omega
  have HN:=hid hn
  clear hl
  go_enter Tryz.func3,Tryz.ntmps3
  have hn2:=HN.out.symm
  clear hn
  go_wp2_with fail
  (with_reducible refine(HA.out _).mono ?_)
  rintro r w1 ⟨rfl,hb⟩
  have HB:=hid hb
  clear hb
  go_wp2
  go_ret
  exact⟨rfl,HB.out⟩
end
section
open Go.RowKit Go.Lib
theorem ZC:ace:=fun w=>Kv.plain_run Kv.awtop rfl rfl (by decide+kernel) (args':=[]) (fun ρ=>rfl) (by rfl) w
end
section
open Go.ChangeShapes Go.WideShapes Go.ChangeAt Go.RowKit Go.Deep
theorem own:ownKnob Tryz.prog.godebug=none:=by kernel_rfl
theorem aSC:laidOutB Tryz.prog=true:=by kernel_rfl
section
variable {H:Type} {enc:TypeId×Value→H}
theorem qN {P:Program} {W W':World} (hl:laidOutB P=true) (hb:Below W.heap.size W W'): ∀ {ts:List TypeId} {vs:List Value} {ds:List (DataW H)} {ps:List MemPlace},
  DataW.TrodAll enc P W 0 (fun _=>true) true ts vs ds ps→(∀t∈ts,P.readableRec t=true∧t<P.types.size)→
  DataW.TrodAll enc P W' 0 (fun b=>decide (b<W.heap.size)) true ts vs ds ps
 | [],[],[],_,h,_=>h
 |t::ts,v::vs,d::ds,_,h,ht=>by
  obtain⟨p,q,h1,h2,rfl⟩:=h
  obtain⟨a,b⟩:=ht t (by simp)
  refine⟨p,q,Below.trod hl a b h1 hb ?_,qN hl hb h2 (fun t ht'=>ht t (by simp[ht'])),rfl⟩
  obtain⟨fuel,hf⟩:=h1
  exact DataW.trod_lt _ _ _ _ hf
 | [],[],_::_,_,h,_=>h.elim
 | [],_::_,_,_,h,_=>h.elim
 |_::_,[],_,_,h,_=>h.elim
 |_::_,_::_,[],_,h,_=>h.elim
end
end
end Go.Proofs.YtcdiljebkpikbaaGreat
