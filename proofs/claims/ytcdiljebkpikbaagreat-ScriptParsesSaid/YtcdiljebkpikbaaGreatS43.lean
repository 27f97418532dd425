/- Parts of the proof: Sef Seh Sei Sej. -/
import Derived.Test.YtcdiljebkpikbaaGreatS31
import Derived.Test.YtcdiljebkpikbaaGreatS37
import Derived.Test.YtcdiljebkpikbaaGreatS41
import Derived.Test.YtcdiljebkpikbaaGreatS42
set_option linter.all false
set_option maxRecDepth 100000
set_option maxHeartbeats 64000000
namespace Go.Proofs.YtcdiljebkpikbaaGreat
section
open Go.RowKit Go.Lib
theorem anX:(Tryz.prog.info? 53).map (fun i=>(i.zero,i.size,i.bytes))=some (some (.agg #[.int .i64 0,.int .i64 0,.slice none 0 0,.int .i64 0,.int .i64 0]),5,56):=by kernel_rfl
theorem ab6 (s:Bs) (hs:s.length≤250000) (hq:(zv 10 s).length≤100000) (hm: ∀l∈zv 10 s,l.length≤45000) (W:World):Calls Tryz.prog 7 #[.string (S s)] W (PaP W (qW s)):=by
 obtain⟨ls,hls⟩: ∃ls,ls=zv 10 s:=⟨_,rfl⟩
 obtain⟨pr,hpr⟩: ∃pr,pr=qW s:=⟨_,rfl⟩
 have HPR:Hid (pr=if 1024<ls.length then .full else goL ls.length 0 none ls):=hid (by rw[hpr,hls];rfl)
 have HL:Hid ((∀l∈ls,l.length≤45000)∧ls≠[]):=hid ⟨fun l hl=>hm l (hls▸hl),by rw[hls];exact jq _ _⟩
 obtain⟨r0,hr0⟩: ∃n,n=W.heap.size:=⟨_,rfl⟩
 obtain⟨W0,hW0⟩: ∃W0,W0=W.alloc (.cells #[.int .i64 0,.int .i64 0,.int .i64 0,.float .f64 0,.slice none 0 0,.slice none 0 0,.slice none 0 0,.slice none 0 0,.slice none 0 0] 32):=⟨_,rfl⟩
 have HP:Hid (Calls Tryz.prog 18 #[.string (S s),.int .u8 10] W0 fun e w'=> ∃p n k,e= .returned (.slice p n k)∧n=ls.length∧Vw 1 jQ w' (.slice p n k) ls∧Below W0.heap.size W0 w'):=hid (by rw[hls];exact JM s 10 hs hq W0)
 have HB0:Hid (Below W.heap.size W W0∧Blk W0 r0 32 #[.int .i64 0,.int .i64 0,.int .i64 0,.float .f64 0,.slice none 0 0,.slice none 0 0,.slice none 0 0,.slice none 0 0,.slice none 0 0]):=hid ⟨by rw[hW0];exact(Below.refl _ W).alloc (Nat.le_refl _) _,by rw[hW0,hr0];exact Blk.new W _ _⟩
 have HR0:=hid hr0
 have HW0:=hid hW0
 rw[←hpr]
 clear hpr hls hs hq hm hr0 hW0
 go_enter Tryz.func7,Tryz.ntmps7
 go_wp2
 rw[←HW0.out,←HR0.out]
 go_step3
 go_wp2_with fail
 (with_reducible refine HP.out.mono ?_)
 rintro e W1 ⟨lp,n,lk,rfl,hn,hv,hb⟩
 have HRT:Hid (∀w,Below W1.heap.size W1 w→Below W.heap.size W w∧Blk w r0 32 #[.int .i64 0,.int .i64 0,.int .i64 0,.float .f64 0,.slice none 0 0,.slice none 0 0,.slice none 0 0,.slice none 0 0,.slice none 0 0]):=hid fun w h=>by
  have h1:=hb.trans (h.mono hb.size)
  exact⟨HB0.out.1.trans (h1.mono HB0.out.1.size),HB0.out.2.below h1 HB0.out.2.lt⟩
 obtain⟨gb,off,lc,e1,e2,e3,e4⟩:=hv.ex HL.out.2
 injection e1 with e1 e5 e6
 subst e1 e6
 have HC:Hid (∀W',Below W1.heap.size W1 W'→ ∀i x,ls[i]? =some x→W'.cell? ⟨gb,off+i,none⟩=some (.string (S x))):=hid fun W' hb i x hx=>by
  have:=e4 i x hx 0 (.string (S x)) rfl
  rw[←this]
  simpa using World.cell?_of_block (hb.block gb e3)
 have HN:=hid hn
 clear hv hb e2 e3 e4 e5 hn HP
 by_cases hf:1024<n
 ·have HF:Hid (PR.full=pr):=hid (by rw[HPR.out,←HN.out,if_pos hf])
  have hfz:1024<(n:Int):=by omega
  obtain⟨hbw,hbr⟩:=HRT.out W1 (Below.refl _ _)
  obtain⟨z0,z1,z2,z3,z4,z5,z6,z7,z8⟩:=zZ hbr
  obtain⟨y0,y1,y2,y3,y4,y5,y6,y7,y8,zlt⟩:=yA hbr
  obtain⟨wz,hwz,hbz,hfz,hoz⟩:=zS hbw hbr (by rw[HR0.out];exact Nat.le_refl _) [.int .i64 0,.int .i64 0,.int .i64 0,.float .f64 0,.slice none 0 0,.slice none 0 0,.slice none 0 0,.slice none 0 0,.slice none 0 0] rfl
  unfold za za za za za za za za za za at hwz
  have HZ:=hid (⟨hwz,hbz,hfz,hoz⟩:_∧_∧_∧_)
  clear hwz hbz hfz hoz hbw hbr
  go_wp2
  rw[←HZ.out.1]
  obtain⟨v0,v1,v2,v3,v4,v5,v6,v7,v8⟩:=zZ HZ.out.2.1
  refine bodyPost_ret (v:= .tuple #[.agg #[.int .i64 0,.int .i64 0,.int .i64 0,.float .f64 0,.slice none 0 0,.slice none 0 0,.slice none 0 0,.slice none 0 0,.slice none 0 0],.int .i64 0,.int .i64 11]) (by simp[results,Tryz.results7,go_sem,v0,v1,v2,v3,v4,v5,v6,v7,v8]) rfl ?_
  exact⟨scZ,_,_,rfl,by rw[←HF.out];exact⟨rfl,rfl,rfl⟩,jW _,HZ.out.2.2.1⟩
 ·have HG:Hid (goL n 0 none (ls.drop 0)=pr):=hid (by rw[HPR.out,HN.out,if_neg (by rw[←HN.out];exact hf)];rfl)
  have hfz:(n:Int)≤1024:=by omega
  obtain⟨ob,hob⟩: ∃k,k=W1.heap.size:=⟨_,rfl⟩
  obtain⟨wa,hwa⟩: ∃w,w=W1.alloc (.cells #[.int .i64 0,.int .i64 0,.int .i64 0,.float .f64 0,.slice none 0 0,.slice none 0 0,.slice none 0 0,.slice none 0 0,.slice none 0 0] 32):=⟨_,rfl⟩
  have HI0:Hid (PaI 32 W1 ob scZ wa):=hid (.new W1 (by rw[hwa];exact(Below.refl _ _).alloc (Nat.le_refl _) _) (by rw[hwa,hob];exact Blk.new W1 _ _) (by omega))
  have HWA:=hid (⟨hob,hwa⟩:_∧_)
  clear hf hob hwa
  go_wp2
  rw[←HWA.out.1,←HWA.out.2]
  go_step3
  go_wp2
  go_loopg [7,21] n (fun gg s7 s21 wr=> ∃(i:Nat) (st:Option Scr) (sv:ScV),i≤n∧n-i≤gg∧s7= .bool st.isSome∧s21= .int .i64 i∧Hid (PaI 32 W1 ob sv wr)∧Hid (goL n i st (ls.drop i)=pr)∧Hid (∀x,st=some x→sv.s=x)∧sv.an≤i)
  case atStart=>exact⟨0,none,scZ,by omega,by omega,rfl,rfl,HI0,HG,hid fun x hx=>(by cases hx),Nat.le_refl _⟩
  case round=>
   obtain⟨i,st,sv,hi,hgg,rfl,rfl,HI,HG,HS,hani⟩:=hrel
   by_cases hj:i<n
   ·have hjz:(i:Int)<(n:Int):=by omega
    obtain⟨l,hl⟩: ∃x,ls[i]? =some x:=⟨_,List.getElem?_eq_getElem (by rw[←HN.out];exact hj)⟩
    have hc:=HC.out wr HI.out.bw i l hl
    have HGL:=hid (HG.out.symm.trans (anT hl)).symm
    have HLL:=hid (HL.out.1 l (List.mem_of_getElem? hl))
    have HJ:=hid hj
    clear hl
    cases hle:l.isEmpty with
    |true=>
     have HG2:Hid (goL n (i+1) st (ls.drop (i+1))=pr):=hid (by rw[←HGL.out,if_pos (List.isEmpty_iff.1 hle)])
     go_wp2
     go_roundg (n- (i+1))
     case measure=>omega
     case rel=>exact⟨i+1,st,sv,by have:=HJ.out;omega,by omega,rfl,by go_num,HI,HG2,HS,by omega⟩
    | false=>
     have hl0:l≠[]:=fun e=>by rw[e]at hle;cases hle
     have HGL:Hid ((if []∈zv 32 l then PR.line i else kQ n i st (zv 32 l) (ls.drop (i+1)))=pr):=hid (by rw[←HGL.out,if_neg hl0])
     obtain⟨ws,hws⟩: ∃ws,ws=zv 32 l:=⟨_,rfl⟩
     have HPS:Hid (Calls Tryz.prog 18 #[.string (S l),.int .u8 32] wr fun e w'=> ∃p n k,e= .returned (.slice p n k)∧n=ws.length∧Vw 1 jQ w' (.slice p n k) ws∧Below wr.heap.size wr w'):=hid (by rw[hws];exact ah9 l 32 (by have:=HLL.out;omega) wr)
     have HWS:Hid (ws≠[]∧ws.length≤90001∧ ∀x∈ws,x.length≤90000):=hid ⟨by rw[hws];exact jq _ _,by have:=xz 32 l;have:=HLL.out;rw[hws];omega,fun x hx=>by have:=jH (hws▸hx);have:=HLL.out;omega⟩
     rw[←hws]at HGL
     clear hws hl0
     go_wp2_with fail
     (with_reducible refine HPS.out.mono ?_)
     rintro e w2 ⟨wp,wn,wk,rfl,hwn,hwv,hb2⟩
     have HV:=hid (⟨hwn,hwv⟩:_∧_)
     have HI:=hid (HI.out.below hb2)
     clear hwn hwv hb2 HPS hc
     have HCT:Hid (Calls Tryz.prog 19 #[.slice wp wn wk,.string ⟨#[]⟩] w2 fun e w'=>e= .returned (.bool (ws.any List.isEmpty))∧w2=w'):=hid (QB ws wp wn wk HV.out.1 HWS.out.1 HWS.out.2.1 w2 HV.out.2)
     obtain⟨ae,hae⟩: ∃b,b=ws.any List.isEmpty:=⟨_,rfl⟩
     rw[←hae]at HCT
     have HAE:Hid (ae=true↔[]∈ws):=hid (by rw[hae,QP])
     clear hae
     go_wp2_with fail
     (with_reducible refine HCT.out.mono ?_)
     rintro e w3 ⟨rfl,rfl⟩
     clear HCT
     cases ae with
     |true=>
      have HF:Hid (PR.line i=pr):=hid (by rw[←HGL.out,if_pos (HAE.out.1 rfl)])
      obtain⟨hbw,hbr⟩:=HRT.out w2 HI.out.bw
      obtain⟨z0,z1,z2,z3,z4,z5,z6,z7,z8⟩:=zZ hbr
      obtain⟨y0,y1,y2,y3,y4,y5,y6,y7,y8,zlt⟩:=yA hbr
      obtain⟨wz,hwz,hbz,hfz,hoz⟩:=zS hbw hbr (by rw[HR0.out];exact Nat.le_refl _) [.int .i64 0,.int .i64 0,.int .i64 0,.float .f64 0,.slice none 0 0,.slice none 0 0,.slice none 0 0,.slice none 0 0,.slice none 0 0] rfl
      unfold za za za za za za za za za za at hwz
      have HZ:=hid (⟨hwz,hbz,hfz,hoz⟩:_∧_∧_∧_)
      clear hwz hbz hfz hoz hbw hbr
      go_wp2
      rw[←HZ.out.1]
      obtain⟨v0,v1,v2,v3,v4,v5,v6,v7,v8⟩:=zZ HZ.out.2.1
      refine bodyPost_ret (v:= .tuple #[.agg #[.int .i64 0,.int .i64 0,.int .i64 0,.float .f64 0,.slice none 0 0,.slice none 0 0,.slice none 0 0,.slice none 0 0,.slice none 0 0],.int .i64 i,.int .i64 30]) (by simp[results,Tryz.results7,go_sem,v0,v1,v2,v3,v4,v5,v6,v7,v8]) rfl ?_
      exact⟨scZ,_,_,rfl,by rw[←HF.out];exact⟨rfl,rfl,rfl⟩,jW _,HZ.out.2.2.1⟩
     | false=>
      have HGL:Hid (kQ n i st ws (ls.drop (i+1))=pr):=hid (by rw[←HGL.out,if_neg (fun h=>by have:=HAE.out.2 h;cases this)])
      cases st with
      | none=>
       obtain⟨o,ho⟩: ∃o,o=yg ws:=⟨_,rfl⟩
       have HHD:Hid (Calls Tryz.prog 20 #[.slice wp wn wk] w2 fun e w'=> ∃(sec fr:Int) (y:MdV),e= .returned (.tuple #[.agg #[.int .i64 sec,.int .i64 fr,.int .i64 y.seed,.float .f64 y.en,.slice y.dp y.dn y.dc,.slice y.pp y.pn y.pc,.slice y.lp y.ln y.lc,.slice y.ip y.im y.ic,.slice none 0 0],.bool o.isSome])∧(∀z,o=some z→(ScV.mk sec fr y none 0 0 []).s=z)∧MdF w2.heap.size w' y∧Below w2.heap.size w2 w'):=hid (by rw[ho];exact ah3 ws wp wn wk HV.out.1 HWS.out.1 HWS.out.2.2 w2 HV.out.2)
       have HG0:Hid (o=none→PR.line i=pr):=hid fun h=>by rw[←HGL.out,aa6 (ho▸h)]
       have HG1:Hid (∀x,o=some x→goL n (i+1) (some x) (ls.drop (i+1))=pr):=hid fun x h=>by rw[←HGL.out,aa7 (ho▸h)]
       clear ho HGL
       go_wp2_with fail
       (with_reducible refine HHD.out.mono ?_)
       rintro e w3 ⟨sec,fr,y,rfl,hz,hmd,hb3⟩
       obtain⟨wz,hwz,hpz⟩:=HI.out.head hmd hb3
       have HZ3:=hid hz
       obtain⟨z0,z1,z2,z3,z4,z5,z6,z7,z8⟩:=zZ (HI.out.below hb3).bo
       obtain⟨y0,y1,y2,y3,y4,y5,y6,y7,y8,zlt⟩:=yA (HI.out.below hb3).bo
       have HWZ:Hid (wz=za w3 ob 0 [.int .i64 sec,.int .i64 fr,.int .i64 y.seed,.float .f64 y.en,.slice y.dp y.dn y.dc,.slice y.pp y.pn y.pc,.slice y.lp y.ln y.lc,.slice y.ip y.im y.ic,.slice none 0 0]):=hid hwz
       have HI:=hid hpz
       clear hwz hpz hz hmd hb3 HHD
       go_upto_region 14 with fail
       have hwz:=HWZ.out
       unfold za za za za za za za za za za at hwz
       rw[←hwz]
       clear hwz HWZ z0 z1 z2 z3 z4 z5 z6 z7 z8 y0 y1 y2 y3 y4 y5 y6 y7 y8 zlt
       cases o with
       |none=>
        have HF:Hid (PR.line i=pr):=hid (HG0.out rfl)
        obtain⟨hbw,hbr⟩:=HRT.out wz HI.out.bw
        obtain⟨z0,z1,z2,z3,z4,z5,z6,z7,z8⟩:=zZ hbr
        obtain⟨y0,y1,y2,y3,y4,y5,y6,y7,y8,zlt⟩:=yA hbr
        obtain⟨wz,hwz,hbz,hfz,hoz⟩:=zS hbw hbr (by rw[HR0.out];exact Nat.le_refl _) [.int .i64 0,.int .i64 0,.int .i64 0,.float .f64 0,.slice none 0 0,.slice none 0 0,.slice none 0 0,.slice none 0 0,.slice none 0 0] rfl
        unfold za za za za za za za za za za at hwz
        have HZ:=hid (⟨hwz,hbz,hfz,hoz⟩:_∧_∧_∧_)
        clear hwz hbz hfz hoz hbw hbr
        go_wp2
        rw[←HZ.out.1]
        obtain⟨v0,v1,v2,v3,v4,v5,v6,v7,v8⟩:=zZ HZ.out.2.1
        refine bodyPost_ret (v:= .tuple #[.agg #[.int .i64 0,.int .i64 0,.int .i64 0,.float .f64 0,.slice none 0 0,.slice none 0 0,.slice none 0 0,.slice none 0 0,.slice none 0 0],.int .i64 i,.int .i64 30]) (by simp[results,Tryz.results7,go_sem,v0,v1,v2,v3,v4,v5,v6,v7,v8]) rfl ?_
        exact⟨scZ,_,_,rfl,by rw[←HF.out];exact⟨rfl,rfl,rfl⟩,jW _,HZ.out.2.2.1⟩
       |some x=>
        have HG2:=hid (HG1.out x rfl)
        go_wp2
        go_roundg (n- (i+1))
        case measure=>have:=HJ.out;omega
        case rel=>exact⟨i+1,some x,_,by have:=HJ.out;omega,by omega,rfl,by go_num,HI,HG2,hid fun z hz=>by injection hz with hz;rw[←hz];exact HZ3.out _ rfl,Nat.zero_le _⟩
      | some sx=>
       obtain⟨o,ho⟩: ∃o,o=xD ws:=⟨_,rfl⟩
       have HG0:Hid (o=none→PR.line i=pr):=hid fun h=>by rw[←HGL.out,aa4 (ho▸h)]
       have HG1:Hid (∀x,o=some x→goL n (i+1) (some { sx with acts:=sx.acts++[x] }) (ls.drop (i+1))=pr):=hid fun x h=>by rw[←HGL.out,aa5 (ho▸h)]
       obtain⟨ab,hab⟩: ∃k,k=w2.heap.size:=⟨_,rfl⟩
       obtain⟨wb,hwb⟩: ∃w,w=w2.alloc (.cells #[.int .i64 0,.int .i64 0,.slice none 0 0,.int .i64 0,.int .i64 0] 53):=⟨_,rfl⟩
       have hbb:Below w2.heap.size w2 wb:=by rw[hwb];exact(Below.refl _ _).alloc (Nat.le_refl _) _
       have hBb:Blk wb ab 53 #[.int .i64 0,.int .i64 0,.slice none 0 0,.int .i64 0,.int .i64 0]:=by rw[hwb,hab];exact Blk.new _ _ _
       have HAC:Hid (Calls Tryz.prog 21 #[.slice wp wn wk] wb fun e w'=> ∃a:AcV,e= .returned (.tuple #[.agg #[.int .i64 a.kind,.int .i64 a.n,.slice a.kp a.kn a.kc,.int .i64 a.torn,.int .i64 a.bytes],.bool o.isSome])∧(∀z,o=some z→a.ac=z)∧AcF wb.heap.size w' a∧Below wb.heap.size wb w'):=hid (by rw[ho];exact ajt ws wp wn wk HV.out.1 HWS.out.1 HWS.out.2.2 wb (HV.out.2.below hbb))
       have HWB:=hid (⟨hab,hwb,hbb,hBb⟩:_∧_∧_∧_)
       clear ho HGL hab hwb hbb hBb
       go_upto_region 17 with fail
       rw[←HWB.out.1,←HWB.out.2.1]
       go_wp2_with fail
       (with_reducible refine HAC.out.mono ?_)
       rintro e w4 ⟨a,rfl,hz,haf,hb4⟩
       have HZ3:=hid hz
       have hB4:=HWB.out.2.2.2.below hb4 HWB.out.2.2.2.lt
       obtain⟨⟨m0,m1,m2,m3,m4⟩,⟨g0,g1,g2,g3,g4⟩,mlt⟩:=yq hB4
       obtain⟨w5,hw5⟩: ∃w,w=za w4 ab 0 [.int .i64 a.kind,.int .i64 a.n,.slice a.kp a.kn a.kc,.int .i64 a.torn,.int .i64 a.bytes]:=⟨_,rfl⟩
       have hB5:Blk w5 ab 53 #[.int .i64 a.kind,.int .i64 a.n,.slice a.kp a.kn a.kc,.int .i64 a.torn,.int .i64 a.bytes]:=by rw[hw5];exact((((hB4.set_ 0 _).set_ 1 _).set_ 2 _).set_ 3 _).set_ 4 _
       have hb5:Below w2.heap.size w2 w5:=(HWB.out.2.2.1.trans (hb4.mono HWB.out.2.2.1.size)).trans (by rw[hw5];exact(zU (O:=[ab]) (.inl (by simp)) _ w4 0 (Kp.refl _ _)).to_below (Nat.le_trans HWB.out.2.2.1.size hb4.size) fun x hx=>by have:=HWB.out.1;simp at hx;omega)
       have haf5:AcF w2.heap.size w5 a:=⟨haf.n,(haf.k.to (by rw[hw5,xO];exact Nat.le_refl _) fun b h1 _=>by rw[hw5];exact yB _ _ _ _ _ (by have:=HWB.out.2.2.2.lt;omega)).mono HWB.out.2.2.1.size⟩
       have HI5:=hid (HI.out.below hb5)
       have HA5:=hid (⟨haf5,hb5,hB5⟩:_∧_∧_)
       have HW5:=hid hw5
       clear hz haf hb4 hB4 hw5 hB5 hb5 haf5 HAC
       go_upto_region 18 with fail
       have hw5:=HW5.out
       unfold za za za za za za at hw5
       rw[←hw5]
       clear hw5 HW5 m0 m1 m2 m3 m4 g0 g1 g2 g3 g4 mlt
       obtain⟨⟨m0,m1,m2,m3,m4⟩,_,_⟩:=yq HA5.out.2.2
       have z8:w5.cell? ⟨ob,8,none⟩=some (.slice sv.ap sv.an sv.ac):=(zZ HI5.out.bo).2.2.2.2.2.2.2.2
       go_wp2_with (with_reducible refine yd .append rfl ?_)
       with_reducible refine ki ?_
       refine zO rfl _ _ 30 rfl acC anX Tryz.underlying30 rfl (by decide) (by decide) J0 ack a HI5.out.row (by have:=HJ.out;omega) HI5.out.bo.lt rfl rfl ?_
       intro v6 w6 ho6 hk6 hv6
       obtain⟨p6,c6,rfl⟩:=zm ho6
       have h7:=HI.out.acts HA5.out.1 HA5.out.2.1 ho6 hk6 hv6 (by decide)
       obtain⟨z0,z1,z2,z3,z4,z5,z6,z7,q8⟩:=zZ h7.1
       obtain⟨y0,y1,y2,y3,y4,y5,y6,y7,y8,zlt⟩:=yA h7.1
       obtain⟨w7,hw7⟩: ∃w,w=w6.setCell ⟨ob,8,none⟩ (.slice p6 (sv.an+1) c6):=⟨_,rfl⟩
       rw[←hw7]at h7
       have HI:=hid h7.2
       clear ho6 hk6 hv6 h7 z0 z1 z2 z3 z4 z5 z6 z7 y0 y1 y2 y3 y4 y5 y6 y7 m0 m1 m2 m3 m4 z8 HI5 HA5 HWB
       go_upto_region 19 with fail
       rw[←hw7]
       clear hw7 q8 y8 zlt
       cases o with
       |none=>
        have HF:Hid (PR.line i=pr):=hid (HG0.out rfl)
        obtain⟨hbw,hbr⟩:=HRT.out w7 HI.out.bw
        obtain⟨z0,z1,z2,z3,z4,z5,z6,z7,z8⟩:=zZ hbr
        obtain⟨y0,y1,y2,y3,y4,y5,y6,y7,y8,zlt⟩:=yA hbr
        obtain⟨wz,hwz,hbz,hfz,hoz⟩:=zS hbw hbr (by rw[HR0.out];exact Nat.le_refl _) [.int .i64 0,.int .i64 0,.int .i64 0,.float .f64 0,.slice none 0 0,.slice none 0 0,.slice none 0 0,.slice none 0 0,.slice none 0 0] rfl
        unfold za za za za za za za za za za at hwz
        have HZ:=hid (⟨hwz,hbz,hfz,hoz⟩:_∧_∧_∧_)
        clear hwz hbz hfz hoz hbw hbr
        go_wp2
        rw[←HZ.out.1]
        obtain⟨v0,v1,v2,v3,v4,v5,v6,v7,v8⟩:=zZ HZ.out.2.1
        refine bodyPost_ret (v:= .tuple #[.agg #[.int .i64 0,.int .i64 0,.int .i64 0,.float .f64 0,.slice none 0 0,.slice none 0 0,.slice none 0 0,.slice none 0 0,.slice none 0 0],.int .i64 i,.int .i64 30]) (by simp[results,Tryz.results7,go_sem,v0,v1,v2,v3,v4,v5,v6,v7,v8]) rfl ?_
        exact⟨scZ,_,_,rfl,by rw[←HF.out];exact⟨rfl,rfl,rfl⟩,jW _,HZ.out.2.2.1⟩
       |some x=>
        have HG2:=hid (HG1.out x rfl)
        have HS2:=hid (HZ3.out _ rfl)
        go_wp2
        go_roundg (n- (i+1))
        case measure=>have:=HJ.out;omega
        case rel=>exact⟨i+1,some _,_,by have:=HJ.out;omega,by omega,rfl,by go_num,HI,HG2,hid fun z hz=>by injection hz with hz;rw[←hz,←HS.out _ rfl,←HS2.out];simp[ScV.s],Nat.succ_le_succ hani⟩
   ·have hjz: ¬(i:Int)<(n:Int):=by omega
    have hgn:=agU (n:=n) (st:=st) (show ls[i]? =none from List.getElem?_eq_none (by rw[←HN.out];omega))
    cases st with
    |none=>
     have HF:Hid (PR.line n=pr):=hid (hgn.symm.trans HG.out)
     clear hgn
     obtain⟨hbw,hbr⟩:=HRT.out wr HI.out.bw
     obtain⟨z0,z1,z2,z3,z4,z5,z6,z7,z8⟩:=zZ hbr
     obtain⟨y0,y1,y2,y3,y4,y5,y6,y7,y8,zlt⟩:=yA hbr
     obtain⟨wz,hwz,hbz,hfz,hoz⟩:=zS hbw hbr (by rw[HR0.out];exact Nat.le_refl _) [.int .i64 0,.int .i64 0,.int .i64 0,.float .f64 0,.slice none 0 0,.slice none 0 0,.slice none 0 0,.slice none 0 0,.slice none 0 0] rfl
     unfold za za za za za za za za za za at hwz
     have HZ:=hid (⟨hwz,hbz,hfz,hoz⟩:_∧_∧_∧_)
     clear hwz hbz hfz hoz hbw hbr
     go_wp2
     rw[←HZ.out.1]
     obtain⟨v0,v1,v2,v3,v4,v5,v6,v7,v8⟩:=zZ HZ.out.2.1
     refine bodyPost_ret (v:= .tuple #[.agg #[.int .i64 0,.int .i64 0,.int .i64 0,.float .f64 0,.slice none 0 0,.slice none 0 0,.slice none 0 0,.slice none 0 0,.slice none 0 0],.int .i64 n,.int .i64 30]) (by simp[results,Tryz.results7,go_sem,v0,v1,v2,v3,v4,v5,v6,v7,v8]) rfl ?_
     exact⟨scZ,_,_,rfl,by rw[←HF.out];exact⟨rfl,rfl,rfl⟩,jW _,HZ.out.2.2.1⟩
    |some sx=>
     have HF:Hid (PR.ok sx=pr):=hid (hgn.symm.trans HG.out)
     obtain⟨x0,x1,x2,x3,x4,x5,x6,x7,x8⟩:=zZ HI.out.bo
     clear hgn
     obtain⟨hbw,hbr⟩:=HRT.out wr HI.out.bw
     obtain⟨z0,z1,z2,z3,z4,z5,z6,z7,z8⟩:=zZ hbr
     obtain⟨y0,y1,y2,y3,y4,y5,y6,y7,y8,zlt⟩:=yA hbr
     obtain⟨wz,hwz,hbz,hfz,hoz⟩:=zS hbw hbr (by rw[HR0.out];exact Nat.le_refl _) [.int .i64 sv.sec,.int .i64 sv.fr,.int .i64 sv.x.seed,.float .f64 sv.x.en,.slice sv.x.dp sv.x.dn sv.x.dc,.slice sv.x.pp sv.x.pn sv.x.pc,.slice sv.x.lp sv.x.ln sv.x.lc,.slice sv.x.ip sv.x.im sv.x.ic,.slice sv.ap sv.an sv.ac] rfl
     have HSZ:Hid (wr.heap.size≤wz.heap.size):=hid (by rw[hwz,xO];exact Nat.le_refl _)
     unfold za za za za za za za za za za at hwz
     have HZ:=hid (⟨hwz,hbz,hfz,hoz⟩:_∧_∧_∧_)
     clear hwz hbz hfz hoz hbw hbr
     go_wp2
     rw[←HZ.out.1]
     obtain⟨v0,v1,v2,v3,v4,v5,v6,v7,v8⟩:=zZ HZ.out.2.1
     refine bodyPost_ret (v:= .tuple #[.agg #[.int .i64 sv.sec,.int .i64 sv.fr,.int .i64 sv.x.seed,.float .f64 sv.x.en,.slice sv.x.dp sv.x.dn sv.x.dc,.slice sv.x.pp sv.x.pn sv.x.pc,.slice sv.x.lp sv.x.ln sv.x.lc,.slice sv.x.ip sv.x.im sv.x.ic,.slice sv.ap sv.an sv.ac],.int .i64 0,.int .i64 0]) (by simp[results,Tryz.results7,go_sem,v0,v1,v2,v3,v4,v5,v6,v7,v8]) rfl ?_
     exact⟨sv,_,_,rfl,by rw[←HF.out];exact⟨rfl,rfl,HS.out _ rfl⟩,HI.out.fin (HRT.out W1 (Below.refl _ _)).2.lt HSZ.out HZ.out.2.2.2,HZ.out.2.2.1⟩
theorem ab5 (s:Bs) (hs:s.length≤45000) (W:World):Calls Tryz.prog 7 #[.string (S s)] W (PaP W (qW s)):=
 ab6 s (by omega) (by have:=xz 10 s;omega) (fun l hl=>Nat.le_trans (jH hl) hs) W
end
section
open Go.RowKit Go.Lib
theorem ajN {s:Bs} {a:Nat} (h:a+8≤s.length):jY ((s.drop a).take 8)<18446744073709551616:=by
 have h1:=kR ((s.drop a).take 8)
 rwa[show((s.drop a).take 8).length=8 by simp;omega]at h1
theorem Yx {s:Bs} (hs:s.length≤1000000) {a:Nat} (ha:a+8≤s.length) (W:World):Calls Tryz.prog 140 #[.string (S s),.int .i64 a] W fun e w'=>e= .returned (.tuple #[.int .u64 (jY ((s.drop a).take 8)),.int .i64 ((a+8:Nat):Int),.int .i64 0])∧W=w':=by
 have h1:(a:Int)≤(s.length:Int):=by omega
 have h2:(8:Int)≤(s.length:Int) - (a:Int):=by omega
 have h3:(s.length:Int)≤1000000:=by omega
 obtain⟨n,hn⟩: ∃n,n=s.length:=⟨_,rfl⟩
 have HN:=hid hn
 rw[←hn]at h1 h2 h3
 have HA:=hid ha
 clear ha hs hn
 go_enter Tryz.func140,Tryz.ntmps140
 have hn:=HN.out.symm
 go_wp2
 clear hn
 go_loopg [7,8] 8 (fun gg s7 s8 wr=> ∃(i m:Nat),i≤8∧8-i≤gg∧s7= .int .u64 m∧s8= .int .i64 i∧wr=W∧Hid (m=jY ((s.drop a).take i)))
 case atStart=>exact⟨0,0,by omega,by omega,rfl,rfl,rfl,hid rfl⟩
 case round=>
  obtain⟨i,m,hi,hgg,rfl,rfl,rfl,HM⟩:=hrel
  by_cases hj:i<8
  ·have hjz:(i:Int)<8:=by omega
   obtain⟨k,hk⟩: ∃k:Nat,k=a+i:=⟨_,rfl⟩
   have hks:k<s.length:=by have:=HA.out;omega
   have hki:(a:Int)+(i:Int)=(k:Int):=by omega
   obtain⟨c,hc⟩: ∃c,s[k]=c:=⟨_,rfl⟩
   have hM:m<256^7:=by
    rw[HM.out]
    refine Nat.lt_of_lt_of_le (kR _) (Nat.pow_le_pow_right (by omega) ?_)
    simp
    omega
   have hc256:=c.toNat_lt
   have HU:Hid (m*256+c.toNat=jY ((s.drop a).take (i+1))):=hid (by
    rw[List.take_add_one,List.getElem?_drop,←hk,List.getElem?_eq_getElem hks,hc]
    show _=jY (List.take i (List.drop a s)++[c])
    rw[JO,←HM.out])
   have w1:IntKind.u64.wrap ((m:Int)*256)=(m:Int)*256:=by rw[IntKind.wrap_u64];omega
   have w2:IntKind.u64.wrap ((m:Int)*256+(c.toNat:Int))=((m*256+c.toNat:Nat):Int):=by rw[IntKind.wrap_u64];omega
   have w3:IntKind.u64.wrap (c.toNat:Int)=(c.toNat:Int):=by rw[IntKind.wrap_u64];omega
   have hks2:(k:Int)<(s.length:Int):=by omega
   have HJ:=hid hj
   clear hM hk
   go_wp2
   go_roundg (8- (i+1))
   case measure=>have:=HJ.out;omega
   case rel=>exact⟨i+1,_,by have:=HJ.out;omega,by omega,by first |rfl|rw[w2] |simp[w2],by go_num,rfl,HU⟩
  ·have hjz: ¬(i:Int)<8:=by omega
   have hi8:i=8:=by omega
   have HE:Hid (m=jY ((s.drop a).take 8)):=hid (by rw[HM.out,hi8])
   clear HM
   go_wp2
   refine bodyPost_ret (v:= .tuple #[.int .u64 m,.int .i64 ((a:Int)+8),.int .i64 0]) (by simp[results,Tryz.results140,go_sem]) rfl ⟨?_,rfl⟩
   rw[←HE.out]
theorem Xn {s:Bs} (hs:s.length≤1000000) {a:Nat} (haz:a≤2000000) (ha: ¬a+8≤s.length) (W:World):Calls Tryz.prog 140 #[.string (S s),.int .i64 a] W fun e w'=> ∃k:Int,k≠0∧e= .returned (.tuple #[.int .u64 0,.int .i64 0,.int .i64 k])∧W=w':=by
 obtain⟨n,hn⟩: ∃n,n=s.length:=⟨_,rfl⟩
 have HN:=hid hn
 have h3:(n:Int)≤1000000:=by omega
 have h4:(a:Int)≤2000000:=by omega
 by_cases h1:(a:Int)≤(n:Int)
 ·have h2: ¬(8:Int)≤(n:Int) - (a:Int):=by omega
  clear ha hs hn haz
  go_enter Tryz.func140,Tryz.ntmps140
  have hn:=HN.out.symm
  go_wp2
  refine bodyPost_ret (v:= .tuple #[.int .u64 0,.int .i64 0,.int .i64 5]) (by simp[results,Tryz.results140,go_sem]) rfl ⟨5,by decide,rfl,rfl⟩
 ·clear ha hs hn haz
  go_enter Tryz.func140,Tryz.ntmps140
  have hn:=HN.out.symm
  go_wp2
  refine bodyPost_ret (v:= .tuple #[.int .u64 0,.int .i64 0,.int .i64 3]) (by simp[results,Tryz.results140,go_sem]) rfl ⟨3,by decide,rfl,rfl⟩
theorem ajT {m:Nat} (h:m<18446744073709551616):wrap64 (IntKind.u64.wrap ((m:Int) -9223372036854775808))=(m:Int) -9223372036854775808:=by
 rw[IntKind.wrap_u64]
 unfold wrap64
 omega
theorem Ku {s:Bs} (hs:s.length≤1000000) {a:Nat} (ha:a+8≤s.length) (W:World):Calls Tryz.prog 139 #[.string (S s),.int .i64 a] W fun e w'=>e= .returned (.tuple #[.int .i64 ((jY ((s.drop a).take 8):Int) -9223372036854775808),.int .i64 ((a+8:Nat):Int),.int .i64 0])∧W=w':=by
 have HF:=hid (Yx hs ha W)
 obtain⟨m,hm⟩: ∃m,m=jY ((s.drop a).take 8):=⟨_,rfl⟩
 have hw:=ajT (ajN ha)
 rw[←hm]at HF hw⊢
 obtain⟨z,hz⟩: ∃z,z=(m:Int) -9223372036854775808:=⟨_,rfl⟩
 rw[←hz]
 have HZ:Hid (wrap64 (IntKind.u64.wrap ((m:Int) -9223372036854775808))=z):=hid (by rw[hw,hz])
 clear hm hs ha hw hz
 go_enter Tryz.func139,Tryz.ntmps139
 go_wp2_with fail
 (with_reducible refine HF.out.mono ?_)
 rintro e w1 ⟨rfl,rfl⟩
 clear HF
 have hz:=HZ.out
 go_wp2
 refine bodyPost_ret (v:= .tuple #[.int .i64 z,.int .i64 ((a+8:Nat):Int),.int .i64 0]) (by simp[results,Tryz.results139,go_sem,hz]) rfl ⟨rfl,rfl⟩
theorem abW {s:Bs} (hs:s.length≤1000000) {a:Nat} (haz:a≤2000000) (ha: ¬a+8≤s.length) (W:World):Calls Tryz.prog 139 #[.string (S s),.int .i64 a] W fun e w'=> ∃k:Int,k≠0∧e= .returned (.tuple #[.int .i64 0,.int .i64 0,.int .i64 k])∧W=w':=by
 have HF:=hid (Xn hs haz ha W)
 clear hs haz ha
 go_enter Tryz.func139,Tryz.ntmps139
 go_wp2_with fail
 (with_reducible refine HF.out.mono ?_)
 rintro e w1 ⟨k,hk,rfl,rfl⟩
 have HK:=hid hk
 have hkb:(k != 0)=true:=by simpa using hk
 clear HF hk
 go_wp2
 refine bodyPost_ret (v:= .tuple #[.int .i64 0,.int .i64 0,.int .i64 k]) (by simp[results,Tryz.results139,go_sem]) rfl ⟨k,HK.out,rfl,rfl⟩
end
section
open Go.RowKit Go.Lib
def AtR (s:Bs) (st:Option Nat) (n e:Int):Prop:=match st with
 |some a=>n=(a:Int)∧e=0∧a≤s.length
 |none=>e≠0
theorem aBO {s:Bs} {a:Nat} (h:a+8≤s.length):rdI s (some a)=((jY ((s.drop a).take 8):Int) -9223372036854775808,some (a+8)):=by
 exact if_pos h
theorem aMW {s:Bs} {a:Nat} (h: ¬a+8≤s.length):rdI s (some a)=(0,none):=by
 exact if_neg h
def AtP {α:Type} (W:World) (s:Bs) (val:α→Value) (x:α×Option Nat) (r:Ending) (w':World):Prop:= ∃n e:Int,r= .returned (.tuple #[val x.1,.agg #[.int .i64 n,.int .i64 e]])∧AtR s x.2 n e∧Below W.heap.size W w'
theorem ye {s:Bs} (hs:s.length≤1000000) {st:Option Nat} {n e:Int} (h:AtR s st n e) (W:World):Calls Tryz.prog 101 #[.string (S s),.agg #[.int .i64 n,.int .i64 e]] W (AtP W s (fun x:Int=> .int .i64 x) (rdI s st)):=by
 have HB:=hid (((Below.refl _ W).alloc (Nat.le_refl _) (.cells #[.int .i64 n,.int .i64 e] 170)).alloc (by simp) (.cells #[.int .i64 0,.int .i64 0] 170))
 cases st with
 | none=>
  have hne:(e != 0)=true:=by simpa[AtR]using h
  have HE:Hid (e≠0):=hid h
  clear h
  go_enter Tryz.func101,Tryz.ntmps101
  go_upto_region 2 with fail
  obtain⟨w1,hw1⟩: ∃w1,w1=(W.alloc (.cells #[.int .i64 n,.int .i64 e] 170)).alloc (.cells #[.int .i64 0,.int .i64 0] 170):=⟨_,rfl⟩
  have hb1:Blk w1 W.heap.size 170 #[.int .i64 n,.int .i64 e]:=by rw[hw1];exact(Blk.new W _ _).alloc _
  have hb2:Blk w1 (W.heap.size+1) 170 #[.int .i64 0,.int .i64 0]:=by
   have:=Blk.new (W.alloc (.cells #[.int .i64 n,.int .i64 e] 170)) 170 #[.int .i64 0,.int .i64 0]
   rw[hw1]
   simpa using this
  rw[←hw1]at HB⊢
  clear hw1
  have a0:w1.cell? ⟨W.heap.size,0,none⟩=some (.int .i64 n):=hb1.cell 0
  have a1:w1.cell? ⟨W.heap.size,1,none⟩=some (.int .i64 e):=hb1.cell 1
  have b0:w1.cell? ⟨W.heap.size+1,0,none⟩=some (.int .i64 0):=hb2.cell 0
  have b1:w1.cell? ⟨W.heap.size+1,1,none⟩=some (.int .i64 0):=hb2.cell 1
  have f0:=hb2.frozen 0
  have f1:=hb2.frozen 1
  have hlt:=hb2.lt
  refine zB (fun W'=>W'.cell? ⟨W.heap.size,0,none⟩=some (.int .i64 n)∧W'.cell? ⟨W.heap.size,1,none⟩=some (.int .i64 e)) 2 (by kernel_rfl) ⟨a0,a1⟩ (fun hHeld=>?_)
  obtain⟨w2,hw2⟩: ∃w2,w2=(w1.setCell ⟨W.heap.size+1,0,none⟩ (.int .i64 n)).setCell ⟨W.heap.size+1,1,none⟩ (.int .i64 e):=⟨_,rfl⟩
  have hb3:Blk w2 (W.heap.size+1) 170 #[.int .i64 n,.int .i64 e]:=by rw[hw2];exact(hb2.set_ 0 _).set_ 1 _
  have HB2:Hid (Below W.heap.size W w2):=hid (by rw[hw2];exact(HB.out.setCell (by simp) _).setCell (by simp) _)
  refine eT 0 hHeld ?_;(try simp only[Act.put,sEa,sEb,sEc]);refine eT 1 hHeld ?_;(try simp only[Act.put,sEa,sEb,sEc]);refine eL (fun K hK=>?_);go_simp;refine hK.out _ _ ?_;clear hK K;(try simp only[Act.put,sEa,sEb,sEc])
  go_wp2
  rw[←hw2]
  have v0:=hb3.cell 0
  have v1:=hb3.cell 1
  simp only[List.getElem?_toArray,List.getElem?_cons_zero,List.getElem?_cons_succ]at v0 v1
  refine bodyPost_ret (v:= .tuple #[.int .i64 0,.agg #[.int .i64 n,.int .i64 e]]) (by simp[results,Tryz.results101,go_sem,v0,v1]) rfl ⟨n,e,rfl,HE.out,HB2.out.drew⟩
 | some a=>
  obtain⟨rfl,rfl,ha⟩:=h
  by_cases h8:a+8≤s.length
  ·have HF:=hid (Ku hs h8)
   have HZ:=hid (aBO h8)
   obtain⟨z,hz⟩: ∃z,z=(jY ((s.drop a).take 8):Int) -9223372036854775808:=⟨_,rfl⟩
   rw[←hz]at HF HZ
   have HA:Hid (AtR s (some (a+8)) ((a+8:Nat):Int) 0):=hid ⟨rfl,rfl,h8⟩
   rw[HZ.out]
   clear hz h8 ha hs
   go_enter Tryz.func101,Tryz.ntmps101
   go_wp2_with fail
   (with_reducible refine(HF.out _).mono ?_)
   rintro r w1 ⟨rfl,rfl⟩
   clear HF
   go_wp2
   refine bodyPost_ret (v:= .tuple #[.int .i64 z,.agg #[.int .i64 ((a+8:Nat):Int),.int .i64 0]]) (by simp[results,Tryz.results101,go_sem]) rfl ⟨_,_,rfl,HA.out,?_⟩
   exact((Below.refl _ W).alloc (Nat.le_refl _) _).alloc (by simp) _
  ·have HF:=hid (abW hs (by omega:a≤2000000) h8)
   have HZ:=hid (aMW h8)
   rw[HZ.out]
   clear h8 ha hs
   go_enter Tryz.func101,Tryz.ntmps101
   go_wp2_with fail
   (with_reducible refine(HF.out _).mono ?_)
   rintro r w1 ⟨k,hk,rfl,rfl⟩
   have HK:=hid hk
   clear HF hk
   go_wp2
   refine bodyPost_ret (v:= .tuple #[.int .i64 0,.agg #[.int .i64 0,.int .i64 k]]) (by simp[results,Tryz.results101,go_sem]) rfl ⟨_,_,rfl,HK.out,?_⟩
   exact((Below.refl _ W).alloc (Nat.le_refl _) _).alloc (by simp) _
theorem aBN {s:Bs} {a:Nat} (h:a+8≤s.length):rdF s (some a)=(jY ((s.drop a).take 8),some (a+8)):=by
 exact if_pos h
theorem aMV {s:Bs} {a:Nat} (h: ¬a+8≤s.length):rdF s (some a)=(0,none):=by
 exact if_neg h
theorem jv {s:Bs} (hs:s.length≤1000000) {st:Option Nat} {n e:Int} (h:AtR s st n e) (W:World):Calls Tryz.prog 102 #[.string (S s),.agg #[.int .i64 n,.int .i64 e]] W (AtP W s (fun x:Nat=> .float .f64 x) (rdF s st)):=by
 have HB:=hid (((Below.refl _ W).alloc (Nat.le_refl _) (.cells #[.int .i64 n,.int .i64 e] 170)).alloc (by simp) (.cells #[.int .i64 0,.int .i64 0] 170))
 cases st with
 | none=>
  have hne:(e != 0)=true:=by simpa[AtR]using h
  have HE:Hid (e≠0):=hid h
  clear h
  go_enter Tryz.func102,Tryz.ntmps102
  go_upto_region 2 with fail
  obtain⟨w1,hw1⟩: ∃w1,w1=(W.alloc (.cells #[.int .i64 n,.int .i64 e] 170)).alloc (.cells #[.int .i64 0,.int .i64 0] 170):=⟨_,rfl⟩
  have hb1:Blk w1 W.heap.size 170 #[.int .i64 n,.int .i64 e]:=by rw[hw1];exact(Blk.new W _ _).alloc _
  have hb2:Blk w1 (W.heap.size+1) 170 #[.int .i64 0,.int .i64 0]:=by
   have:=Blk.new (W.alloc (.cells #[.int .i64 n,.int .i64 e] 170)) 170 #[.int .i64 0,.int .i64 0]
   rw[hw1]
   simpa using this
  rw[←hw1]at HB⊢
  clear hw1
  have a0:w1.cell? ⟨W.heap.size,0,none⟩=some (.int .i64 n):=hb1.cell 0
  have a1:w1.cell? ⟨W.heap.size,1,none⟩=some (.int .i64 e):=hb1.cell 1
  have b0:w1.cell? ⟨W.heap.size+1,0,none⟩=some (.int .i64 0):=hb2.cell 0
  have b1:w1.cell? ⟨W.heap.size+1,1,none⟩=some (.int .i64 0):=hb2.cell 1
  have f0:=hb2.frozen 0
  have f1:=hb2.frozen 1
  have hlt:=hb2.lt
  refine zB (fun W'=>W'.cell? ⟨W.heap.size,0,none⟩=some (.int .i64 n)∧W'.cell? ⟨W.heap.size,1,none⟩=some (.int .i64 e)) 2 (by kernel_rfl) ⟨a0,a1⟩ (fun hHeld=>?_)
  obtain⟨w2,hw2⟩: ∃w2,w2=(w1.setCell ⟨W.heap.size+1,0,none⟩ (.int .i64 n)).setCell ⟨W.heap.size+1,1,none⟩ (.int .i64 e):=⟨_,rfl⟩
  have hb3:Blk w2 (W.heap.size+1) 170 #[.int .i64 n,.int .i64 e]:=by rw[hw2];exact(hb2.set_ 0 _).set_ 1 _
  have HB2:Hid (Below W.heap.size W w2):=hid (by rw[hw2];exact(HB.out.setCell (by simp) _).setCell (by simp) _)
  refine eT 0 hHeld ?_;(try simp only[Act.put,sEa,sEb,sEc]);refine eT 1 hHeld ?_;(try simp only[Act.put,sEa,sEb,sEc]);refine eL (fun K hK=>?_);go_simp;refine hK.out _ _ ?_;clear hK K;(try simp only[Act.put,sEa,sEb,sEc])
  go_wp2
  rw[←hw2]
  have v0:=hb3.cell 0
  have v1:=hb3.cell 1
  simp only[List.getElem?_toArray,List.getElem?_cons_zero,List.getElem?_cons_succ]at v0 v1
  refine bodyPost_ret (v:= .tuple #[.float .f64 0,.agg #[.int .i64 n,.int .i64 e]]) (by simp[results,Tryz.results102,go_sem,v0,v1]) rfl ⟨n,e,rfl,HE.out,HB2.out.drew⟩
 | some a=>
  obtain⟨rfl,rfl,ha⟩:=h
  by_cases h8:a+8≤s.length
  ·have HF:=hid (Yx hs h8)
   have HZ:=hid (aBN h8)
   obtain⟨z,hz⟩: ∃z,z=jY ((s.drop a).take 8):=⟨_,rfl⟩
   rw[←hz]at HF HZ
   have HA:Hid (AtR s (some (a+8)) ((a+8:Nat):Int) 0):=hid ⟨rfl,rfl,h8⟩
   rw[HZ.out]
   clear hz h8 ha hs
   go_enter Tryz.func102,Tryz.ntmps102
   go_wp2_with fail
   (with_reducible refine(HF.out _).mono ?_)
   rintro r w1 ⟨rfl,rfl⟩
   clear HF
   go_wp2
   refine bodyPost_ret (v:= .tuple #[.float .f64 z,.agg #[.int .i64 ((a+8:Nat):Int),.int .i64 0]]) (by simp[results,Tryz.results102,go_sem]) rfl ⟨_,_,rfl,HA.out,?_⟩
   exact((Below.refl _ W).alloc (Nat.le_refl _) _).alloc (by simp) _
  ·have HF:=hid (Xn hs (by omega:a≤2000000) h8)
   have HZ:=hid (aMV h8)
   rw[HZ.out]
   clear h8 ha hs
   go_enter Tryz.func102,Tryz.ntmps102
   go_wp2_with fail
   (with_reducible refine(HF.out _).mono ?_)
   rintro r w1 ⟨k,hk,rfl,rfl⟩
   have HK:=hid hk
   clear HF hk
   go_wp2
   refine bodyPost_ret (v:= .tuple #[.float .f64 0,.agg #[.int .i64 0,.int .i64 k]]) (by simp[results,Tryz.results102,go_sem]) rfl ⟨_,_,rfl,HK.out,?_⟩
   exact((Below.refl _ W).alloc (Nat.le_refl _) _).alloc (by simp) _
theorem aMU (s:Bs) (st:Option Nat):rdC s st=(match(rdI s st).2 with
 |none=>((rdI s st).1,none)
 |some a=>if 0≤(rdI s st).1∧(rdI s st).1≤48 then((rdI s st).1,some a)else((rdI s st).1,none)):=rfl
def CtP (W:World) (s:Bs) (st:Option Nat) (r:Ending) (w':World):Prop:= ∃k n e:Int,r= .returned (.tuple #[.int .i64 k,.agg #[.int .i64 n,.int .i64 e]])∧AtR s (rdC s st).2 n e∧((rdC s st).2.isSome=true→k=(rdC s st).1∧0≤k∧k≤48)∧Below W.heap.size W w'
theorem yI {s:Bs} (hs:s.length≤1000000) {st:Option Nat} {n e:Int} (h:AtR s st n e) (W:World):Calls Tryz.prog 103 #[.string (S s),.agg #[.int .i64 n,.int .i64 e]] W (CtP W s st):=by
 have HF:=hid (ye hs h)
 obtain⟨x,hx⟩: ∃x,x=rdI s st:=⟨_,rfl⟩
 have HC:=hid (aMU s st)
 unfold CtP
 obtain⟨y,hy⟩: ∃y,y=rdC s st:=⟨_,rfl⟩
 rw[←hy]at HC⊢
 rw[←hx]at HF HC
 clear h hx hs hy
 obtain⟨c0,hc0⟩: ∃k,k=W.heap.size:=⟨_,rfl⟩
 obtain⟨r0,hr0⟩: ∃k,k=W.heap.size+1:=⟨_,rfl⟩
 obtain⟨w1,hw1⟩: ∃w1,w1=(W.alloc (.cells #[.int .i64 n,.int .i64 e] 170)).alloc (.cells #[.int .i64 0,.int .i64 0] 170):=⟨_,rfl⟩
 have hb1:Blk w1 c0 170 #[.int .i64 n,.int .i64 e]:=by rw[hw1,hc0];exact(Blk.new W _ _).alloc _
 have hb2:Blk w1 r0 170 #[.int .i64 0,.int .i64 0]:=by
  have:=Blk.new (W.alloc (.cells #[.int .i64 n,.int .i64 e] 170)) 170 #[.int .i64 0,.int .i64 0]
  rw[hw1,hr0]
  simpa using this
 have HB1:Hid (Below W.heap.size W w1∧Blk w1 r0 170 #[.int .i64 0,.int .i64 0]∧W.heap.size≤r0):=hid ⟨by rw[hw1];exact((Below.refl _ W).alloc (Nat.le_refl _) _).alloc (by simp) _,hb2,by omega⟩
 have HW:=hid (⟨hc0,hr0,hw1⟩:_∧_∧_)
 have a0:w1.cell? ⟨c0,0,none⟩=some (.int .i64 n):=hb1.cell 0
 have a1:w1.cell? ⟨c0,1,none⟩=some (.int .i64 e):=hb1.cell 1
 clear hb1 hb2 hc0 hr0 hw1
 go_enter Tryz.func103,Tryz.ntmps103
 go_upto_region 1 with fail
 rw[←HW.out.2.1,←HW.out.1,←HW.out.2.2]
 go_wp2_with fail
 (with_reducible refine(HF.out _).mono ?_)
 rintro r w2 ⟨n2,e2,rfl,hat,hbl⟩
 have HAT:=hid hat
 have hb2:=HB1.out.2.1.below hbl HB1.out.2.1.lt
 obtain⟨k,hk⟩: ∃k,k=x.1:=⟨_,rfl⟩
 rw[←hk]
 obtain⟨w3,hw3⟩: ∃w3,w3=w2.alloc (.cells #[.int .i64 n2,.int .i64 e2] 170):=⟨_,rfl⟩
 obtain⟨b0,hb0⟩: ∃k,k=w2.heap.size:=⟨_,rfl⟩
 have hb3:Blk w3 b0 170 #[.int .i64 n2,.int .i64 e2]:=by rw[hw3,hb0];exact Blk.new _ _ _
 have hr3:Blk w3 r0 170 #[.int .i64 0,.int .i64 0]:=by rw[hw3];exact hb2.alloc _
 have hB3:Below W.heap.size W w3:=by rw[hw3];exact(HB1.out.1.trans (hbl.mono HB1.out.1.size)).alloc (Nat.le_trans HB1.out.1.size hbl.size) _
 have HB3:=hid (⟨hB3,hr3,hb3⟩:_∧_∧_)
 have HW3:=hid (⟨hb0,hw3⟩:_∧_)
 have HK:=hid hk
 clear hat hbl hb2 hb3 hr3 hB3 hb0 hw3 hk a0 a1 HF
 go_upto_region 2 with fail
 rw[←HW3.out.1,←HW3.out.2]
 have a0:w3.cell? ⟨b0,0,none⟩=some (.int .i64 n2):=HB3.out.2.2.cell 0
 have a1:w3.cell? ⟨b0,1,none⟩=some (.int .i64 e2):=HB3.out.2.2.cell 1
 have d0:w3.cell? ⟨r0,0,none⟩=some (.int .i64 0):=HB3.out.2.1.cell 0
 have d1:w3.cell? ⟨r0,1,none⟩=some (.int .i64 0):=HB3.out.2.1.cell 1
 have f0:=HB3.out.2.1.frozen 0
 have f1:=HB3.out.2.1.frozen 1
 have flt:=HB3.out.2.1.lt
 have HWZ:Hid (∀p q:Int,∃wz,wz=(w3.setCell ⟨r0,0,none⟩ (.int .i64 p)).setCell ⟨r0,1,none⟩ (.int .i64 q)∧Below W.heap.size W wz∧wz.cell? ⟨r0,0,none⟩=some (.int .i64 p)∧wz.cell? ⟨r0,1,none⟩=some (.int .i64 q)):=hid fun p q=>by
  refine⟨_,rfl,(HB3.out.1.setCell HB1.out.2.2 _).setCell HB1.out.2.2 _,?_,?_⟩
  ·exact((HB3.out.2.1.set_ 0 _).set_ 1 _).cell 0
  ·exact((HB3.out.2.1.set_ 0 _).set_ 1 _).cell 1
 obtain⟨x1,x2⟩:=x
 cases x2 with
 |none=>
  have hne:(e2==0)=false:=by have h:e2≠0:=HAT.out;simpa using h
  have HD:Hid (y.2=none):=hid (by rw[HC.out])
  obtain⟨wz,hwz,hz⟩:=HWZ.out n2 e2
  have HZ:=hid hz
  have HZW:=hid hwz
  clear hz hwz
  go_upto_region 4 with fail
  refine zB (fun W'=>W'.cell? ⟨b0,0,none⟩=some (.int .i64 n2)∧W'.cell? ⟨b0,1,none⟩=some (.int .i64 e2)) 3 (by kernel_rfl) ⟨a0,a1⟩ (fun hHeld=>?_)
  refine eT 0 hHeld ?_;(try simp only[Act.put,sEa,sEb,sEc]);refine eT 1 hHeld ?_;(try simp only[Act.put,sEa,sEb,sEc]);refine eT 2 hHeld ?_;(try simp only[Act.put,sEa,sEb,sEc]);refine eL (fun K hK=>?_);go_simp;refine hK.out _ _ ?_;clear hK K;(try simp only[Act.put,sEa,sEb,sEc])
  go_wp2
  rw[←HZW.out]
  obtain⟨_,v0,v1⟩:=HZ.out
  refine bodyPost_ret (v:= .tuple #[.int .i64 k,.agg #[.int .i64 n2,.int .i64 e2]]) (by simp[results,Tryz.results103,go_sem,v0,v1]) rfl ⟨k,n2,e2,rfl,by rw[HD.out];exact HAT.out,(fun h=>by rw[HD.out]at h;cases h),HZ.out.1.drew⟩
 | some a=>
  obtain⟨h1,h2,h3⟩:=HAT.out
  subst h2
  have HA:Hid (AtR s (some a) n2 0):=hid ⟨h1,rfl,h3⟩
  clear h1 h3
  by_cases hr:0≤k∧k≤48
  ·have HD:Hid (y=(k,some a)):=hid (by rw[HC.out];show(if 0≤x1∧x1≤48 then(x1,some a)else(x1,none))=_;rw[show x1=k from HK.out.symm,if_pos hr])
   have r0: ¬k<0:=by omega
   have r1: ¬(48:Int)<k:=by omega
   have HR:=hid hr
   obtain⟨wz,hwz,hz⟩:=HWZ.out n2 0
   have HZ:=hid hz
   have HZW:=hid hwz
   clear hz hwz hr
   go_upto_region 4 with fail
   refine zB (fun W'=>W'.cell? ⟨b0,0,none⟩=some (.int .i64 n2)∧W'.cell? ⟨b0,1,none⟩=some (.int .i64 0)) 3 (by kernel_rfl) ⟨a0,a1⟩ (fun hHeld=>?_)
   refine eT 0 hHeld ?_;(try simp only[Act.put,sEa,sEb,sEc]);refine eT 1 hHeld ?_;(try simp only[Act.put,sEa,sEb,sEc]);refine eT 2 hHeld ?_;(try simp only[Act.put,sEa,sEb,sEc]);refine eL (fun K hK=>?_);go_simp;refine hK.out _ _ ?_;clear hK K;(try simp only[Act.put,sEa,sEb,sEc])
   go_wp2
   rw[←HZW.out]
   obtain⟨_,v0,v1⟩:=HZ.out
   refine bodyPost_ret (v:= .tuple #[.int .i64 k,.agg #[.int .i64 n2,.int .i64 0]]) (by simp[results,Tryz.results103,go_sem,v0,v1]) rfl ⟨k,n2,0,rfl,by rw[HD.out];exact HA.out,(fun _=>⟨by rw[HD.out],HR.out⟩),HZ.out.1.drew⟩
  ·have HD:Hid (y.2=none):=hid (by rw[HC.out];show(if 0≤x1∧x1≤48 then(x1,some a)else(x1,none)).2=_;rw[show x1=k from HK.out.symm,if_neg hr])
   obtain⟨wz,hwz,hz⟩:=HWZ.out 0 6
   have HZ:=hid hz
   have HZW:=hid hwz
   clear hz hwz
   by_cases r0:k<0
   ·clear hr
    go_wp2
    rw[←HZW.out]
    obtain⟨_,v0,v1⟩:=HZ.out
    refine bodyPost_ret (v:= .tuple #[.int .i64 0,.agg #[.int .i64 0,.int .i64 6]]) (by simp[results,Tryz.results103,go_sem,v0,v1]) rfl ⟨0,0,6,rfl,by rw[HD.out];exact(by decide:(6:Int)≠0),(fun h=>by rw[HD.out]at h;cases h),HZ.out.1⟩
   ·have r1:(48:Int)<k:=by omega
    clear hr
    go_wp2
    rw[←HZW.out]
    obtain⟨_,v0,v1⟩:=HZ.out
    refine bodyPost_ret (v:= .tuple #[.int .i64 0,.agg #[.int .i64 0,.int .i64 6]]) (by simp[results,Tryz.results103,go_sem,v0,v1]) rfl ⟨0,0,6,rfl,by rw[HD.out];exact(by decide:(6:Int)≠0),(fun h=>by rw[HD.out]at h;cases h),HZ.out.1⟩
end
section
open Go.RowKit Go.Lib
structure RnI {α:Type} (one:Rd α) (s:Bs) (N:Nat) (st0:Option Nat) (i:Nat) (l:List α) (st:Option Nat):Prop where
 len:l.length=i
 le:i≤N
 eq:rdN one N s st0=(l++(rdN one (N-i) s st).1,(rdN one (N-i) s st).2)
section
variable {α:Type} {one:Rd α} {s:Bs} {N i:Nat} {st0 st:Option Nat} {l:List α} {a:Nat}
theorem RnI.start (one:Rd α) (s:Bs) (N:Nat) (st:Option Nat):RnI one s N st 0 [] st:=⟨rfl,Nat.zero_le _,rfl⟩
theorem RnI.next (h:RnI one s N st0 i l (some a)) (hi:i<N):RnI one s N st0 (i+1) (l++[(one s (some a)).1]) (one s (some a)).2:=by
 refine⟨by simp[h.len],hi,?_⟩
 have e:=h.eq
 rw[show N-i=(N- (i+1))+1 by omega,Qu]at e
 rw[e]
 simp
theorem RnI.no (h:RnI one s N st0 i l none):rdN one N s st0=(l,none):=by rw[h.eq,Zq];simp
theorem RnI.fin (h:RnI one s N st0 N l st):rdN one N s st0=(l,st):=by
 rw[h.eq,Nat.sub_self]
 simp[rdN]
end
def RdA (w:World) (g:Nat) (s:Bs) (st:Option Nat):Prop:= ∃n e:Int,Blk w g 170 #[.int .i64 n,.int .i64 e]∧AtR s st n e
theorem RdA.below {w w':World} {g:Nat} {s:Bs} {st:Option Nat} (h:RdA w g s st) (hb:Below w.heap.size w w'):RdA w' g s st:=by
 obtain⟨n,e,h1,h2⟩:=h
 exact⟨n,e,h1.below hb h1.lt,h2⟩
theorem yS {w:World} {g:Nat} {T:TypeId} {a b:Value} (h:Blk w g T #[a,b]):(w.cell? ⟨g,0,none⟩=some a∧w.cell? ⟨g,1,none⟩=some b)∧(w.frozen? ⟨g,0,none⟩=false∧w.frozen? ⟨g,1,none⟩=false)∧g<w.heap.size:=
 ⟨⟨h.cell 0,h.cell 1⟩,⟨h.frozen 0,h.frozen 1⟩,h.lt⟩
theorem aBd:(Tryz.prog.info? 84).map (fun i=>(i.zero,i.size,i.bytes))=some (some (.agg #[.int .i64 0,.int .i64 0,.int .i64 0,.int .i64 0]),4,32):=by kernel_rfl
structure CoI (W1:World) (cb:Nat) (s:Bs) (st:Option Nat) (v:Value) (l:List In) (w:World):Prop where
 bw:Kp [cb] W1 w
 rd:RdA w cb s st
 row:w.ownsRow W1.heap.size 84 4 v l.length (yv inC l)
theorem CoI.next {W1 wr w11 w12:World} {cb:Nat} {s:Bs} {sx st':Option Nat} {v v':Value} {l:List In} {x:In} (h:CoI W1 cb s sx v l wr) (hb:Below wr.heap.size wr w11) (ho:w12.ownsRow W1.heap.size 84 4 v' (l.length+1) (yv inC (l++[x]))) (hk:Kp v.ownBlock.toList w11 w12) {n e n3 e3:Int} (hc:Blk wr cb 170 #[.int .i64 n3,.int .i64 e3]) (hat:AtR s st' n e):
  Blk w12 cb 170 #[.int .i64 n3,.int .i64 e3]∧CoI W1 cb s st' v' (l++[x]) (za w12 cb 0 [.int .i64 n,.int .i64 e]):=by
 have h11:w11.ownsRow W1.heap.size 84 4 v l.length (yv inC l):=xN h.row fun b e=>hb.block b (h.row.lt b e).2
 have hc12:=(hc.below hb hc.lt).kp hk fun hm=>yo h11 (hc.below hb hc.lt) (by decide) (Option.mem_toList.1 hm)
 have hk12:Kp [cb] W1 w12:=(h.bw.trans (Kp.of_below hb)).trans_gr (fun x hx=> .inr (h.row.lt x (Option.mem_toList.1 hx)).1) hk
 refine⟨hc12,zU (.inl (by simp)) _ _ _ hk12,⟨n,e,(hc12.set_ 0 _).set_ 1 _,hat⟩,?_⟩
 rw[List.length_append]
 exact zs (zs ho hc12 (by decide)) (hc12.set_ 0 _) (by decide)
def aNH (W:World) (s:Bs) (x:List In×Option Nat) (r:Ending) (w':World):Prop:= ∃(p:Option Addr) (c:Nat) (n e:Int),r= .returned (.tuple #[.slice p x.1.length c,.agg #[.int .i64 n,.int .i64 e]])∧w'.ownsRow W.heap.size 84 4 (.slice p x.1.length c) x.1.length (yv inC x.1)∧AtR s x.2 n e∧Below W.heap.size W w'
theorem ahG {s:Bs} (hs:s.length≤1000000) {st:Option Nat} {n e:Int} (h:AtR s st n e) (W:World):Calls Tryz.prog 104 #[.string (S s),.agg #[.int .i64 n,.int .i64 e]] W (aNH W s (rdL xR s st)):=by
 have HF:=hid (yI hs h)
 obtain⟨y,hy⟩: ∃y,y=rdC s st:=⟨_,rfl⟩
 obtain⟨z,hz⟩: ∃z,z=rdL xR s st:=⟨_,rfl⟩
 have HZ:Hid (z=rdN xR y.1.toNat s y.2):=hid (by rw[hz,hy];rfl)
 unfold CtP at HF
 rw[←hy]at HF
 rw[←hz]
 have HS:=hid hs
 clear h hy hz hs
 obtain⟨cb,hcb⟩: ∃k,k=W.heap.size:=⟨_,rfl⟩
 obtain⟨r0,hr0⟩: ∃k,k=W.heap.size+1:=⟨_,rfl⟩
 obtain⟨W1,hW1⟩: ∃w1,w1=(W.alloc (.cells #[.int .i64 n,.int .i64 e] 170)).alloc (.cells #[.int .i64 0,.int .i64 0] 170):=⟨_,rfl⟩
 have hb1:Blk W1 cb 170 #[.int .i64 n,.int .i64 e]:=by rw[hW1,hcb];exact(Blk.new W _ _).alloc _
 have hb2:Blk W1 r0 170 #[.int .i64 0,.int .i64 0]:=by
  have:=Blk.new (W.alloc (.cells #[.int .i64 n,.int .i64 e] 170)) 170 #[.int .i64 0,.int .i64 0]
  rw[hW1,hr0]
  simpa using this
 have HB1:Hid (Below W.heap.size W W1∧Blk W1 r0 170 #[.int .i64 0,.int .i64 0]∧W.heap.size≤r0∧W.heap.size≤cb∧cb≠r0∧W.heap.size≤W1.heap.size):=hid ⟨by rw[hW1];exact((Below.refl _ W).alloc (Nat.le_refl _) _).alloc (by simp) _,hb2,by omega,by omega,by omega,by rw[hW1];simp;omega⟩
 have HW:=hid (⟨hcb,hr0,hW1⟩:_∧_∧_)
 obtain⟨⟨a0,a1⟩,⟨f0,f1⟩,flt⟩:=yS hb1
 have HBC:=hid hb1
 clear hb1 hb2 hcb hr0 hW1
 go_enter Tryz.func104,Tryz.ntmps104
 go_upto_region 1 with fail
 rw[←HW.out.2.1,←HW.out.1,←HW.out.2.2]
 go_wp2_with fail
 (with_reducible refine(HF.out _).mono ?_)
 rintro r w2 ⟨k,n2,e2,rfl,hat,hck,hbl⟩
 have HCK:=hid hck
 have hb2:=HBC.out.below hbl HBC.out.lt
 have hb3:Blk (za w2 cb 0 [.int .i64 n2,.int .i64 e2]) cb 170 #[.int .i64 n2,.int .i64 e2]:=(hb2.set_ 0 _).set_ 1 _
 have HI:Hid (CoI W1 cb s y.2 (.slice none 0 0) [] (za w2 cb 0 [.int .i64 n2,.int .i64 e2])):=hid ⟨zU (.inl (by simp)) _ _ _ (.of_below hbl),⟨n2,e2,hb3,hat⟩,yO _ _ _ _⟩
 clear a0 a1 f0 f1 flt hat hck hbl hb3 HF
 obtain⟨⟨a0,a1⟩,⟨f0,f1⟩,flt⟩:=yS hb2
 clear hb2
 go_wp2
 rw[show(w2.setCell ⟨cb,0,none⟩ (.int .i64 n2)).setCell ⟨cb,1,none⟩ (.int .i64 e2)=za w2 cb 0 [.int .i64 n2,.int .i64 e2]from rfl]
 go_loopg [7,8] 48 (fun gg s7 s8 wr=> ∃(i:Nat) (p:Option Addr) (c:Nat) (l:List In) (sx:Option Nat),i≤48∧48-i≤gg∧s7= .slice p i c∧s8= .int .i64 i∧Hid (CoI W1 cb s sx (.slice p i c) l wr)∧Hid (RnI xR s y.1.toNat y.2 i l sx)∧Hid (y.2=none→sx=none))
 case atStart=>exact⟨0,none,0,[],y.2,by omega,by omega,rfl,rfl,HI,hid (.start ..),hid id⟩
 case round=>
  obtain⟨i,p,c,l,sx,hi,hgg,rfl,rfl,HI,HR,HN⟩:=hrel
  obtain⟨n3,e3,hb3,hat3⟩:=HI.out.rd
  obtain⟨⟨a0,a1⟩,⟨f0,f1⟩,flt⟩:=yS hb3
  have HB3:=hid (⟨hb3,hat3⟩:_∧_)
  clear hb3 hat3
  by_cases hgo:(i:Int)<k∧sx.isSome=true
  ·obtain⟨hik,hsx⟩:=hgo
   obtain⟨a,rfl⟩:=Option.isSome_iff_exists.1 hsx
   obtain⟨hn3,he3,ha3⟩:=HB3.out.2
   subst he3
   have HIK:Hid (i<y.1.toNat∧i<48∧y.2≠none):=hid (by
    have hy:y.2≠none:=fun h=>by have:=HN.out h;cases this
    obtain⟨h1,h2,h3⟩:=HCK.out (Option.isSome_iff_ne_none.2 hy)
    exact⟨by omega,by omega,hy⟩)
   have HR2:=hid (HR.out.next HIK.out.1)
   obtain⟨x1,hx1⟩: ∃x,x=rdI s (some a):=⟨_,rfl⟩
   obtain⟨x2,hx2⟩: ∃x,x=rdI s x1.2:=⟨_,rfl⟩
   obtain⟨x3,hx3⟩: ∃x,x=rdI s x2.2:=⟨_,rfl⟩
   obtain⟨x4,hx4⟩: ∃x,x=rdI s x3.2:=⟨_,rfl⟩
   have HXX:Hid (xR s (some a)=(⟨x1.1,x2.1,x3.1,x4.1⟩,x4.2)):=hid (by rw[hx4,hx3,hx2,hx1];rfl)
   have HF1:Hid (AtP wr s (fun x:Int=> .int .i64 x) x1=AtP wr s (fun x:Int=> .int .i64 x) (rdI s (some a))):=hid (by rw[hx1])
   have HF:=hid (ye HS.out HB3.out.2 wr)
   rw[←HF1.out]at HF
   have HF2:Hid (∀n e w,AtR s x1.2 n e→Calls Tryz.prog 101 #[.string (S s),.agg #[.int .i64 n,.int .i64 e]] w (AtP w s (fun x:Int=> .int .i64 x) x2)):=hid fun n e w h=>by rw[hx2];exact ye HS.out h w
   have HF3:Hid (∀n e w,AtR s x2.2 n e→Calls Tryz.prog 101 #[.string (S s),.agg #[.int .i64 n,.int .i64 e]] w (AtP w s (fun x:Int=> .int .i64 x) x3)):=hid fun n e w h=>by rw[hx3];exact ye HS.out h w
   have HF4:Hid (∀n e w,AtR s x3.2 n e→Calls Tryz.prog 101 #[.string (S s),.agg #[.int .i64 n,.int .i64 e]] w (AtP w s (fun x:Int=> .int .i64 x) x4)):=hid fun n e w h=>by rw[hx4];exact ye HS.out h w
   clear HF1 hx1 hx2 hx3 hx4 hn3 ha3 hsx
   go_wp2_with fail
   (with_reducible refine HF.out.mono ?_)
   rintro r w4 ⟨n4,e4,rfl,hat,hb4⟩
   obtain⟨tb,htb⟩: ∃k,k=w4.heap.size:=⟨_,rfl⟩
   obtain⟨w5,hw5⟩: ∃w,w=w4.alloc (.cells #[.int .i64 n4,.int .i64 e4] 170):=⟨_,rfl⟩
   have HW5:=hid (⟨htb,hw5⟩:_∧_)
   have hB:Blk w5 tb 170 #[.int .i64 n4,.int .i64 e4]:=by rw[hw5,htb];exact Blk.new _ _ _
   have hbw:Below wr.heap.size wr w5:=by rw[hw5];exact hb4.alloc hb4.size _
   have HX:=hid (⟨hbw,(by rw[htb];exact hb4.size:wr.heap.size≤tb),hB,hat⟩:_∧_∧_∧_)
   clear hat hb4 htb hw5 hbw a0 a1 f0 f1 flt HF
   go_upto_region 7 with fail
   rw[←HW5.out.1,←HW5.out.2]
   obtain⟨⟨a0,a1⟩,⟨f0,f1⟩,flt⟩:=yS hB
   clear hB HW5
   have HF:=hid (HF2.out _ _ w5 HX.out.2.2.2)
   go_wp2_with fail
   (with_reducible refine HF.out.mono ?_)
   rintro r w6 ⟨n5,e5,rfl,hat,hb4⟩
   have hB6:=HX.out.2.2.1.below hb4 HX.out.2.2.1.lt
   obtain⟨w7,hw7⟩: ∃w,w=za w6 tb 0 [.int .i64 n5,.int .i64 e5]:=⟨_,rfl⟩
   have hB:Blk w7 tb 170 #[.int .i64 n5,.int .i64 e5]:=by rw[hw7];exact(hB6.set_ 0 _).set_ 1 _
   have HY:Hid (Below wr.heap.size wr w7∧wr.heap.size≤tb∧Blk w7 tb 170 #[.int .i64 n5,.int .i64 e5]∧AtR s x2.2 n5 e5):=hid ⟨(HX.out.1.trans (hb4.mono HX.out.1.size)).trans (by rw[hw7];exact(zU (O:=[tb]) (.inl (by simp)) _ _ 0 (Kp.refl _ _)).to_below (Nat.le_trans HX.out.1.size hb4.size) fun x hx=>by have:=HX.out.2.1;simp at hx;omega),HX.out.2.1,hB,hat⟩
   have HW7:=hid hw7
   clear hat hb4 hw7 a0 a1 f0 f1 flt HF hB HX
   have HX:=HY
   clear HY
   obtain⟨⟨a0,a1⟩,⟨f0,f1⟩,flt⟩:=yS hB6
   go_upto_region 8 with fail
   have hw7:=HW7.out
   unfold za za za at hw7
   rw[←hw7]
   clear hw7 HW7 hB6 a0 a1 f0 f1 flt
   obtain⟨⟨a0,a1⟩,⟨f0,f1⟩,flt⟩:=yS HX.out.2.2.1
   have HF:=hid (HF3.out _ _ w7 HX.out.2.2.2)
   go_wp2_with fail
   (with_reducible refine HF.out.mono ?_)
   rintro r w8 ⟨n6,e6,rfl,hat,hb4⟩
   have hB6:=HX.out.2.2.1.below hb4 HX.out.2.2.1.lt
   obtain⟨w9,hw7⟩: ∃w,w=za w8 tb 0 [.int .i64 n6,.int .i64 e6]:=⟨_,rfl⟩
   have hB:Blk w9 tb 170 #[.int .i64 n6,.int .i64 e6]:=by rw[hw7];exact(hB6.set_ 0 _).set_ 1 _
   have HY:Hid (Below wr.heap.size wr w9∧wr.heap.size≤tb∧Blk w9 tb 170 #[.int .i64 n6,.int .i64 e6]∧AtR s x3.2 n6 e6):=hid ⟨(HX.out.1.trans (hb4.mono HX.out.1.size)).trans (by rw[hw7];exact(zU (O:=[tb]) (.inl (by simp)) _ _ 0 (Kp.refl _ _)).to_below (Nat.le_trans HX.out.1.size hb4.size) fun x hx=>by have:=HX.out.2.1;simp at hx;omega),HX.out.2.1,hB,hat⟩
   have HW7:=hid hw7
   clear hat hb4 hw7 a0 a1 f0 f1 flt HF hB HX
   have HX:=HY
   clear HY
   obtain⟨⟨a0,a1⟩,⟨f0,f1⟩,flt⟩:=yS hB6
   go_upto_region 9 with fail
   have hw7:=HW7.out
   unfold za za za at hw7
   rw[←hw7]
   clear hw7 HW7 hB6 a0 a1 f0 f1 flt
   obtain⟨⟨a0,a1⟩,⟨f0,f1⟩,flt⟩:=yS HX.out.2.2.1
   have HF:=hid (HF4.out _ _ w9 HX.out.2.2.2)
   go_wp2_with fail
   (with_reducible refine HF.out.mono ?_)
   rintro r w10 ⟨n7,e7,rfl,hat,hb4⟩
   have hB6:=HX.out.2.2.1.below hb4 HX.out.2.2.1.lt
   obtain⟨w11,hw7⟩: ∃w,w=za w10 tb 0 [.int .i64 n7,.int .i64 e7]:=⟨_,rfl⟩
   have hB:Blk w11 tb 170 #[.int .i64 n7,.int .i64 e7]:=by rw[hw7];exact(hB6.set_ 0 _).set_ 1 _
   have HY:Hid (Below wr.heap.size wr w11∧wr.heap.size≤tb∧Blk w11 tb 170 #[.int .i64 n7,.int .i64 e7]∧AtR s x4.2 n7 e7):=hid ⟨(HX.out.1.trans (hb4.mono HX.out.1.size)).trans (by rw[hw7];exact(zU (O:=[tb]) (.inl (by simp)) _ _ 0 (Kp.refl _ _)).to_below (Nat.le_trans HX.out.1.size hb4.size) fun x hx=>by have:=HX.out.2.1;simp at hx;omega),HX.out.2.1,hB,hat⟩
   have HW7:=hid hw7
   clear hat hb4 hw7 a0 a1 f0 f1 flt HF hB HX
   have HX:=HY
   clear HY
   obtain⟨⟨a0,a1⟩,⟨f0,f1⟩,flt⟩:=yS hB6
   go_upto_region 10 with fail
   have hw7:=HW7.out
   unfold za za za at hw7
   rw[←hw7]
   clear hw7 HW7 hB6 a0 a1 f0 f1 flt
   obtain⟨⟨a0,a1⟩,⟨f0,f1⟩,flt⟩:=yS HX.out.2.2.1
   have h11:=xN HI.out.row fun b e=>HX.out.1.block b (HI.out.row.lt b e).2
   have hli:l.length=i:=HR.out.len
   have HLI:=hid hli
   have H11:=hid h11
   clear hli h11
   go_wp2_with (with_reducible refine yd .append rfl ?_)
   with_reducible refine ki ?_
   refine zO rfl _ _ 85 rfl inC aBd Tryz.underlying85 rfl (by decide) (by decide) Ye aax (⟨x1.1,x2.1,x3.1,x4.1⟩:In) H11.out (by rw[HLI.out];omega) (Nat.le_trans HI.out.bw.size HX.out.1.size) rfl rfl ?_
   intro v6 w12 ho6 hk6 hv6
   obtain⟨p6,c6,rfl⟩:=zm ho6
   rw[HLI.out]
   have hn:=HI.out.next HX.out.1 ho6 hk6 HB3.out.1 HX.out.2.2.2
   have hT:Blk w12 tb 170 #[.int .i64 n7,.int .i64 e7]:=HX.out.2.2.1.kp hk6 fun hm=>yo H11.out HX.out.2.2.1 (by decide) (Option.mem_toList.1 hm)
   obtain⟨w13,hw13⟩: ∃w,w=za w12 cb 0 [.int .i64 n7,.int .i64 e7]:=⟨_,rfl⟩
   rw[←hw13]at hn
   rw[HLI.out]at hn
   have HN6:=hid hn
   have HW13:=hid hw13
   clear ho6 hk6 hv6 hn hw13 a0 a1 f0 f1 flt
   obtain⟨⟨a0,a1⟩,_,_⟩:=yS hT
   obtain⟨⟨b0,b1⟩,⟨f0,f1⟩,flt⟩:=yS HN6.out.1
   clear hT
   go_wp2
   have hw13:=HW13.out
   unfold za za za at hw13
   rw[←hw13]
   go_roundg (48- (i+1))
   case measure=>have:=HIK.out.2.1;omega
   case rel=>
    have HR3:=HR2.out
    rw[HXX.out]at HR3
    exact⟨i+1,p6,c6,_,x4.2,by have:=HIK.out.2.1;omega,by omega,rfl,by go_num,hid HN6.out.2,hid HR3,hid fun h=>absurd h HIK.out.2.2⟩
  ·have HFIN:Hid (z=(l,sx)):=hid (by
    rw[HZ.out]
    cases sx with
    |none=>exact HR.out.no
    | some a=>
     have hy2:y.2.isSome=true:=by
      cases h:y.2 with
      |none=>have:=HN.out h;cases this
      |some b=>rfl
     obtain⟨h1,h2,h3⟩:=HCK.out hy2
     have hik:i=y.1.toNat:=by
      have:=HR.out.le
      have: ¬(i:Int)<k:=fun h=>hgo ⟨h,rfl⟩
      omega
     have:=HR.out
     rw[hik]at this
     exact this.fin)
   have hsp:((i:Int)<k∧(e3==0)=false)∨ ¬(i:Int)<k:=by
    by_cases h:(i:Int)<k
    ·refine .inl ⟨h,?_⟩
     cases sx with
     |none=>have h:e3≠0:=HB3.out.2;simpa using h
     |some a=>exact absurd ⟨h,rfl⟩ hgo
    ·exact .inr h
   have hlen:Hid (l.length=i):=hid HR.out.len
   have HB9:Hid (Below W.heap.size W wr∧Blk wr r0 170 #[.int .i64 0,.int .i64 0]):=hid ⟨HB1.out.1.trans (HI.out.bw.to_below HB1.out.2.2.2.2.2 fun x hx=>by have:=HB1.out.2.2.2.1;simp at hx;omega),HB1.out.2.1.kp HI.out.bw (by have:=HB1.out.2.2.2.2.1;simp;omega)⟩
   obtain⟨⟨q0,q1⟩,⟨g0,g1⟩,glt⟩:=yS HB9.out.2
   obtain⟨wz,hwz⟩: ∃wz,wz=(wr.setCell ⟨r0,0,none⟩ (.int .i64 n3)).setCell ⟨r0,1,none⟩ (.int .i64 e3):=⟨_,rfl⟩
   have HWZ:=hid hwz
   have HZ9:Hid (Blk wz r0 170 #[.int .i64 n3,.int .i64 e3]∧Below W.heap.size W wz∧wz.ownsRow W.heap.size 84 4 (.slice p i c) l.length (yv inC l)):=hid (by
    rw[hwz]
    refine⟨(HB9.out.2.set_ 0 _).set_ 1 _,(HB9.out.1.setCell HB1.out.2.2.1 _).setCell HB1.out.2.2.1 _,?_⟩
    exact xL (zs (zs HI.out.row HB9.out.2 (by decide)) (HB9.out.2.set_ 0 _) (by decide)) HB1.out.2.2.2.2.2)
   clear hwz hgo
   rcases hsp with⟨hs1,hs2⟩ |hs1
   all_goals
    go_upto_region 12 with fail
    refine zB (fun W'=>W'.cell? ⟨cb,0,none⟩=some (.int .i64 n3)∧W'.cell? ⟨cb,1,none⟩=some (.int .i64 e3)) 3 (by kernel_rfl) ⟨a0,a1⟩ (fun hHeld=>?_)
    refine eT 0 hHeld ?_;(try simp only[Act.put,sEa,sEb,sEc]);refine eT 1 hHeld ?_;(try simp only[Act.put,sEa,sEb,sEc]);refine eT 2 hHeld ?_;(try simp only[Act.put,sEa,sEb,sEc]);refine eL (fun K hK=>?_);go_simp;refine hK.out _ _ ?_;clear hK K;(try simp only[Act.put,sEa,sEb,sEc])
    go_wp2
    rw[←HWZ.out]
    obtain⟨⟨v0,v1⟩,_,_⟩:=yS HZ9.out.1
    have hz:=HFIN.out
    subst hz
    have hl:=hlen.out
    subst hl
    refine bodyPost_ret (v:= .tuple #[.slice p l.length c,.agg #[.int .i64 n3,.int .i64 e3]]) (by simp[results,Tryz.results104,go_sem,v0,v1]) rfl ⟨p,c,n3,e3,rfl,HZ9.out.2.2,HB3.out.2,HZ9.out.2.1.drew⟩
end
end Go.Proofs.YtcdiljebkpikbaaGreat
