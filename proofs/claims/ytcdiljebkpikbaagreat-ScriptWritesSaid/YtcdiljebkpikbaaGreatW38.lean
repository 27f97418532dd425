/- Parts of the proof: Sfc Sfd Owa. -/
import Derived.Test.YtcdiljebkpikbaaGreatW31
import Derived.Test.YtcdiljebkpikbaaGreatW34
import Derived.Test.YtcdiljebkpikbaaGreatW35
import Derived.Test.YtcdiljebkpikbaaGreatW37
set_option linter.all false
set_option maxRecDepth 100000
set_option maxHeartbeats 64000000
namespace Go.Proofs.YtcdiljebkpikbaaGreat
section
open Go.RowKit Go.Lib
theorem aVb (s1 s2 s3:Bs):[119,111,114,108,100,32]++s1++[32]++s2++[32]++s3++[10]=abI [[119,111,114,108,100],s1,s2,s3]++[10]:=by
 simp[abI]
theorem aUP:({ data:= #[119,111,114,108,100,32] } :ByteArray)=S [119,111,114,108,100,32]:=rfl
theorem aUO:({ data:= #[32] } :ByteArray)=S [32]:=rfl
theorem aVc:({ data:= #[10] } :ByteArray)=S [10]:=rfl
theorem aTP {W:World} {x:ScV} (hx:ScW W x):
  Calls Tryz.prog 14 #[.agg (scC x).toArray] W fun r w'=>r= .returned (.tuple #[.string (S (jz x.s)),.int .i64 (xx x.s)])∧Below W.heap.size W w':=by
 obtain⟨X,hX⟩: ∃X,X=x.s:=⟨_,rfl⟩
 rw[←hX]
 obtain⟨sec,fr,⟨sd,en,dp,dn,dc,dl,pp,pn,pc,ps,lp,ln,lc,ls,ip,im,ic,is⟩,ap,an,ac,ats⟩:=x
 obtain⟨q1,q2,q3,q4,q5,q6⟩:=hx.m.qn hx.i.m
 have eX:X.m=MdV.m ⟨sd,en,dp,dn,dc,dl,pp,pn,pc,ps,lp,ln,lc,ls,ip,im,ic,is⟩:=by rw[hX];rfl
 have HCK:Hid (∀W',Below W.heap.size W W'→Calls Tryz.prog 35 #[.agg #[.int .i64 sd,.float .f64 en,.slice dp dn dc,.slice pp pn pc,.slice lp ln lc,.slice ip im ic]] W' fun r w'=>r= .returned (.int .i64 (if yM X.m=true then 0 else 15))∧Below W'.heap.size W' w'):=hid fun W' hb=>by
  have hm1:qZ W ⟨sd,en,dp,dn,dc,dl,pp,pn,pc,ps,lp,ln,lc,ls,ip,im,ic,is⟩:=hx.i.m
  rw[eX]
  exact V3 (hm1.below hb) q1 q2 q3 q4 q5
 have HLY:Hid (∀W',Below W.heap.size W W'→Calls Tryz.prog 39 #[.agg #[.int .i64 sd,.float .f64 en,.slice dp dn dc,.slice pp pn pc,.slice lp ln lc,.slice ip im ic]] W' fun r w'=>r= .returned (.string (S (aS7 X.m)))∧Below W'.heap.size W' w'):=hid fun W' hb=>by
  have hm1:qZ W ⟨sd,en,dp,dn,dc,dl,pp,pn,pc,ps,lp,ln,lc,ls,ip,im,ic,is⟩:=hx.i.m
  have hm2:MdV.nice ⟨sd,en,dp,dn,dc,dl,pp,pn,pc,ps,lp,ln,lc,ls,ip,im,ic,is⟩:=hx.m
  rw[eX]
  exact aTN (hm1.below hb) hm2
 have HD1:Hid (∀w,Calls Tryz.prog 37 #[.int .i64 sec] w (DgP w (Xb X.sec))):=hid fun w=>by rw[hX];exact vl hx.s w
 have HD2:Hid (∀w,Calls Tryz.prog 37 #[.int .i64 fr] w (DgP w (Xb X.fr))):=hid fun w=>by rw[hX];exact vl hx.f w
 have HM1:Hid (∀w,Calls Tryz.prog 36 #[.int .i64 sec] w fun e w'=>e= .returned (.bool (YH X.sec))∧w=w'):=hid fun w=>by rw[hX];exact QE sec w
 have HM2:Hid (∀w,Calls Tryz.prog 36 #[.int .i64 fr] w fun e w'=>e= .returned (.bool (YH X.fr))∧w=w'):=hid fun w=>by rw[hX];exact QE fr w
 have HL:Hid (X.m.lgt∧X.acts.length=an∧an≤1100):=hid ⟨by rw[hX];exact hx.m.lgt,by rw[hX];show(ats.map AcV.ac).length=_;rw[List.length_map];exact hx.i.an.symm,by have:=hx.n;have h2:an=ats.length:=hx.i.an;have:ats.length≤1100:=hx.n;omega⟩
 have HA:Hid (∀j,j<an→ ∃(a:AcV) (g o:Nat),ap=some ⟨g,o,none⟩∧X.acts[j]? =some a.ac∧a.fine∧(∀W',Below W.heap.size W W'→(W'.cell? ⟨g,o+j*5,none⟩=some (.int .i64 a.kind)∧W'.cell? ⟨g,o+j*5+1,none⟩=some (.int .i64 a.n)∧W'.cell? ⟨g,o+j*5+2,none⟩=some (.slice a.kp a.kn a.kc)∧W'.cell? ⟨g,o+j*5+3,none⟩=some (.int .i64 a.torn)∧W'.cell? ⟨g,o+j*5+4,none⟩=some (.int .i64 a.bytes))∧acd W' a)):=hid fun j hj=>by
  have han:an=ats.length:=hx.i.an
  obtain⟨a,ha⟩: ∃a,ats[j]? =some a:=⟨_,List.getElem?_eq_getElem (by rw[←han];exact hj)⟩
  have hxa:Vw 5 acC W (.slice ap an ac) ats:=hx.i.a
  obtain⟨g1,o1,f1,k1⟩:=hxa.elt ha
  have ma:=List.mem_of_getElem? ha
  exact⟨a,g1,o1,f1,by rw[hX];show(ats.map AcV.ac)[j]? =_;rw[List.getElem?_map,ha];rfl,hx.a a ma,fun W' hb=>⟨⟨k1 W' hb 0 _ rfl,k1 W' hb 1 _ rfl,k1 W' hb 2 _ rfl,k1 W' hb 3 _ rfl,k1 W' hb 4 _ rfl⟩,(hx.i.ai a ma).below hb⟩⟩
 clear hx hX eX q1 q2 q3 q4 q5 q6
 obtain⟨xb,hxb⟩: ∃k,k=W.heap.size:=⟨_,rfl⟩
 obtain⟨W1,hW1⟩: ∃w,w=W.alloc (.cells #[.int .i64 sec,.int .i64 fr,.int .i64 sd,.float .f64 en,.slice dp dn dc,.slice pp pn pc,.slice lp ln lc,.slice ip im ic,.slice ap an ac] 36):=⟨_,rfl⟩
 have hB:Blk W1 xb 36 #[.int .i64 sec,.int .i64 fr,.int .i64 sd,.float .f64 en,.slice dp dn dc,.slice pp pn pc,.slice lp ln lc,.slice ip im ic,.slice ap an ac]:=by rw[hW1,hxb];exact Blk.new _ _ _
 have HB:=hid (⟨hB,(by rw[hW1];exact(Below.refl _ W).alloc (Nat.le_refl _) _:Below W.heap.size W W1),hxb,hW1⟩:_∧_∧_∧_)
 have HC:Hid (∀w,Below W1.heap.size W1 w→Blk w xb 36 #[.int .i64 sec,.int .i64 fr,.int .i64 sd,.float .f64 en,.slice dp dn dc,.slice pp pn pc,.slice lp ln lc,.slice ip im ic,.slice ap an ac]∧Below W.heap.size W w):=hid fun w hb=>⟨HB.out.1.below hb HB.out.1.lt,HB.out.2.1.trans (hb.mono HB.out.2.1.size)⟩
 have HS:Hid (∀w,Below W1.heap.size W1 w→w.cell? ⟨xb,0,none⟩=some (.int .i64 sec)∧w.cell? ⟨xb,1,none⟩=some (.int .i64 fr)∧w.cell? ⟨xb,2,none⟩=some (.int .i64 sd)∧w.cell? ⟨xb,3,none⟩=some (.float .f64 en)∧w.cell? ⟨xb,4,none⟩=some (.slice dp dn dc)∧w.cell? ⟨xb,5,none⟩=some (.slice pp pn pc)∧w.cell? ⟨xb,6,none⟩=some (.slice lp ln lc)∧w.cell? ⟨xb,7,none⟩=some (.slice ip im ic)):=hid fun w hb=>by
  obtain⟨x0,x1,x2,x3,x4,x5,x6,x7,_⟩:=zZ (HC.out w hb).1
  exact⟨x0,x1,x2,x3,x4,x5,x6,x7⟩
 have HF:=hid (HCK.out W1 HB.out.2.1)
 obtain⟨x0,x1,x2,x3,x4,x5,x6,x7,x8⟩:=zZ hB
 clear hB hxb hW1 HCK
 show Calls _ _ #[.agg #[.int .i64 sec,.int .i64 fr,.int .i64 sd,.float .f64 en,.slice dp dn dc,.slice pp pn pc,.slice lp ln lc,.slice ip im ic,.slice ap an ac]] _ _
 cases hc:yM X.m
 case false=>
  rw[hc]at HF
  simp only[Bool.false_eq_true,if_false]at HF
  rw[(aSP hc).1,(aSP hc).2]
  clear hc HA HL HD1 HD2 HM1 HM2
  go_enter Tryz.func14,Tryz.ntmps14
  go_upto_region 1 with fail
  rw[←HB.out.2.2.1,←HB.out.2.2.2]
  go_wp2_with fail
  (with_reducible refine HF.out.mono ?_)
  rintro r w2 ⟨rfl,hb2⟩
  have HB2:=hid (HB.out.2.1.trans (hb2.mono HB.out.2.1.size))
  clear hb2 HF
  go_wp2
  go_ret2
  exact⟨rfl,HB2.out⟩
 case true=>
 rw[hc]at HF
 simp only[if_true]at HF
 obtain⟨m1,hm1⟩: ∃b,b=YH X.sec:=⟨_,rfl⟩
 obtain⟨m2,hm2⟩: ∃b,b=YH X.fr:=⟨_,rfl⟩
 rw[←hm1]at HM1
 rw[←hm2]at HM2
 have HCH:=hid (⟨hc,hm1,hm2⟩:_∧_∧_)
 have HLM:=hid (aSN HL.out.1)
 have HHX:Hid (∀w,Calls Tryz.prog 38 #[.string (S (aS7 X.m))] w (DgP w (aTr (aS7 X.m)))):=hid fun w=>aUD _ HLM.out w
 clear hc hm1 hm2
 go_enter Tryz.func14,Tryz.ntmps14
 go_upto_region 1 with fail
 rw[←HB.out.2.2.1,←HB.out.2.2.2]
 go_wp2_with fail
 (with_reducible refine HF.out.mono ?_)
 rintro r w2 ⟨rfl,hb2⟩
 have HB2:=hid hb2
 clear hb2 HF x0 x1 x2 x3 x4 x5 x6 x7 x8
 obtain⟨x0,x1,x2,x3,x4,x5,x6,x7,x8⟩:=zZ (HC.out _ HB2.out).1
 go_wp2_with fail
 (with_reducible refine(HM1.out _).mono ?_)
 rintro r w4 ⟨rfl,rfl⟩
 cases m1
 case false=>
  go_wp2
  go_ret2
  have hE:=aSQ HCH.out.1 (.inl (by rw[←HCH.out.2.1];rfl))
  rw[hE.1,hE.2]
  exact⟨rfl,(HC.out _ HB2.out).2⟩
 case true=>
 go_wp2_with fail
 (with_reducible refine(HM2.out _).mono ?_)
 rintro r w4 ⟨rfl,rfl⟩
 cases m2
 case false=>
  go_wp2
  go_ret2
  have hE:=aSQ HCH.out.1 (.inl (by rw[←HCH.out.2.2];exact Bool.and_false _))
  rw[hE.1,hE.2]
  exact⟨rfl,(HC.out _ HB2.out).2⟩
 case true=>
 have HMM:Hid ((YH X.sec&&YH X.fr)=true):=hid (by rw[←HCH.out.2.1,←HCH.out.2.2];rfl)
 have HLE:=hid (aTA HL.out.1 HCH.out.2.1.symm HCH.out.2.2.symm)
 have HX:=hid HB2.out.drew
 clear HM1 HM2
 obtain⟨lm,hlm⟩: ∃l,l=aS7 X.m:=⟨_,rfl⟩
 rw[←hlm]at HLY HHX
 have HLQ:=hid hlm
 clear hlm
 have HHW:Hid (aTJ X=[[119,111,114,108,100],Xb X.sec,Xb X.fr,aTr lm]):=hid (by rw[HLQ.out];rfl)
 obtain⟨s1,hs1⟩: ∃s,s=Xb X.sec:=⟨_,rfl⟩
 obtain⟨s2,hs2⟩: ∃s,s=Xb X.fr:=⟨_,rfl⟩
 obtain⟨s3,hs3⟩: ∃s,s=aTr lm:=⟨_,rfl⟩
 rw[←hs1]at HD1 HHW
 rw[←hs2]at HD2 HHW
 rw[←hs3]at HHX HHW
 have hq:s1.length+s2.length+s3.length≤91000:=by
  have:=HLE.out
  rw[HHW.out]at this
  simp only[abI,List.length_append,List.length_cons]at this
  omega
 have p1: ¬9223372036854775807<6+s1.length:=by omega
 have p2: ¬9223372036854775807<6+s1.length+1:=by omega
 have p3: ¬9223372036854775807<6+s1.length+1+s2.length:=by omega
 have p4: ¬9223372036854775807<6+s1.length+1+s2.length+1:=by omega
 have p5: ¬9223372036854775807<6+s1.length+1+s2.length+1+s3.length:=by omega
 have p6: ¬9223372036854775807<6+s1.length+1+s2.length+1+s3.length+1:=by omega
 clear hs1 hs2 hs3 hq
 go_upto_region 5 with fail
 clear x0 x1 x2 x3 x4 x5 x6 x7 x8
 refine zB (fun w=>w.cell? ⟨xb,0,none⟩=some (.int .i64 sec)∧w.cell? ⟨xb,1,none⟩=some (.int .i64 fr)∧w.cell? ⟨xb,2,none⟩=some (.int .i64 sd)∧w.cell? ⟨xb,3,none⟩=some (.float .f64 en)∧w.cell? ⟨xb,4,none⟩=some (.slice dp dn dc)∧w.cell? ⟨xb,5,none⟩=some (.slice pp pn pc)∧w.cell? ⟨xb,6,none⟩=some (.slice lp ln lc)∧w.cell? ⟨xb,7,none⟩=some (.slice ip im ic)) 17 (by kernel_rfl) (HS.out _ HX.out) (fun hHeld=>?_)
 refine eT 0 hHeld ?_;(try simp only[Act.put,sEa,sEb,sEc]);refine eT 1 hHeld ?_;(try simp only[Act.put,sEa,sEb,sEc]);refine eT 5 hHeld ?_;(try simp only[Act.put,sEa,sEb,sEc]);refine eT 6 hHeld ?_;(try simp only[Act.put,sEa,sEb,sEc]);refine eT 10 hHeld ?_;(try simp only[Act.put,sEa,sEb,sEc]);refine eT 11 hHeld ?_;(try simp only[Act.put,sEa,sEb,sEc])
 refine eR 2 (fun K hK=>?_)
 go_simp
 (with_reducible refine(HD1.out _).mono ?_)
 rintro r v2 ⟨rfl,hb⟩
 have HX:=hid (HX.out.trans (hb.mono HX.out.size))
 clear hb
 refine hK.out _ _ (HS.out _ HX.out) (fun hHeld=>?_)
 clear hK K
 (try simp only[Act.put,sEa,sEb,sEc])
 refine eT 3 hHeld ?_;(try simp only[Act.put,sEa,sEb,sEc]);refine eT 4 hHeld ?_;(try simp only[Act.put,sEa,sEb,sEc])
 refine eR 7 (fun K hK=>?_)
 go_simp
 (with_reducible refine(HD2.out _).mono ?_)
 rintro r v7 ⟨rfl,hb⟩
 have HX:=hid (HX.out.trans (hb.mono HX.out.size))
 clear hb
 refine hK.out _ _ (HS.out _ HX.out) (fun hHeld=>?_)
 clear hK K
 (try simp only[Act.put,sEa,sEb,sEc])
 refine eT 8 hHeld ?_;(try simp only[Act.put,sEa,sEb,sEc]);refine eT 9 hHeld ?_;(try simp only[Act.put,sEa,sEb,sEc])
 refine eR 12 (fun K hK=>?_)
 go_simp
 (with_reducible refine(HLY.out _ (HC.out _ HX.out).2).mono ?_)
 rintro r v12 ⟨rfl,hb⟩
 have HX:=hid (HX.out.trans (hb.mono HX.out.size))
 clear hb
 refine hK.out _ _ (HS.out _ HX.out) (fun hHeld=>?_)
 clear hK K
 (try simp only[Act.put,sEa,sEb,sEc])
 refine eR 13 (fun K hK=>?_)
 go_simp
 (with_reducible refine(HHX.out _).mono ?_)
 rintro r v13 ⟨rfl,hb⟩
 have HX:=hid (HX.out.trans (hb.mono HX.out.size))
 clear hb
 refine hK.out _ _ (HS.out _ HX.out) (fun hHeld=>?_)
 clear hK K
 (try simp only[Act.put,sEa,sEb,sEc])
 refine eT 14 hHeld ?_;(try simp only[Act.put,sEa,sEb,sEc]);refine eT 15 hHeld ?_;(try simp only[Act.put,sEa,sEb,sEc])
 have HST:Hid (({ data:= #[119,111,114,108,100,32] } :ByteArray)++S s1++({ data:= #[32] } :ByteArray)++S s2++({ data:= #[32] } :ByteArray)++S s3++({ data:= #[10] } :ByteArray)=S (abI (aTJ X)++[10])):=hid (by
  rw[HHW.out,←aVb,aUP,aUO,aVc]
  simp only[qz])
 obtain⟨hd,hhd⟩: ∃l,l=abI (aTJ X)++[10]:=⟨_,rfl⟩
 have HHD:=hid hhd
 rw[HST.out,←hhd]
 clear p1 p2 p3 p4 p5 p6 hhd
 refine eR 16 (fun K hK=>?_)
 go_simp
 obtain⟨c16,w16,hr,hby,hb⟩:=aVe v13 hd
 rw[hr]
 have HX0:=hid HX.out.size
 have HX:=hid (HX.out.trans (hb.mono HX.out.size))
 obtain⟨p16,n16,rfl⟩:=hby.slice
 have HI0:Hid (Byr W1.heap.size w16 (.slice p16 hd.length n16) (hd++xp (X.acts.take 0))∧Below W1.heap.size W1 w16∧ ∀a∈X.acts.take 0,okA a=true):=hid ⟨by simpa[xp]using hby.mono HX0.out,HX.out,fun a h=>by simp at h⟩
 clear hb hr hby
 go_simp
 refine hK.out _ _ (HS.out _ HX.out) (fun hHeld=>?_)
 clear hK K
 (try simp only[Act.put,sEa,sEb,sEc])
 refine eL (fun K hK=>?_);go_simp;refine hK.out _ _ ?_;clear hK K;(try simp only[Act.put,sEa,sEb,sEc])
 clear hHeld HX HX0 HST HHX HLY HD1 HD2
 have HLH:Hid (hd.length≤91001):=hid (by rw[HHD.out];have:=HLE.out;simp only[List.length_append,List.length_cons,List.length_nil];omega)
 have hnl:(an:Int)≤1100:=by have:=HL.out.2.2;omega
 obtain⟨n0,hn0⟩: ∃n,n=hd.length:=⟨_,rfl⟩
 rw[←hn0]at HI0⊢
 clear hn0
 go_wp2_with fail
 go_loopg [4,5] an (fun gg s4 s5 wr=> ∃(j:Nat) (p:Option Addr) (n c:Nat),j≤an∧an-j≤gg∧s4= .slice p n c∧s5= .int .i64 j∧Hid (Byr W1.heap.size wr (.slice p n c) (hd++xp (X.acts.take j))∧Below W1.heap.size W1 wr∧ ∀a∈X.acts.take j,okA a=true))
 case atStart=>exact⟨0,p16,n0,n16,by omega,by omega,rfl,rfl,HI0⟩
 case round=>
  obtain⟨j,p,n,c,hj,hgg,rfl,rfl,HI⟩:=hrel
  have x8:=(zZ (HC.out wr HI.out.2.1).1).2.2.2.2.2.2.2.2
  by_cases hje:j<an
  ·obtain⟨a,g,oo,rfl,hXa,hfi,hcc⟩:=HA.out j hje
   have hji:(j:Int)<(an:Int):=by omega
   obtain⟨⟨c0,c1,c2,c3,c4⟩,haa⟩:=hcc wr (HC.out wr HI.out.2.1).2
   have HJ:=hid (⟨hje,hXa⟩:_∧_)
   cases ho:okA a.ac
   case false=>
    have HF:=hid (aUE haa hfi ho)
    have hE:=hid (aSQ HCH.out.1 (.inr (List.all_eq_false.2 ⟨a.ac,List.mem_of_getElem? HJ.out.2,by rw[ho];decide⟩)))
    clear hje hXa hfi hcc haa ho
    go_wp2_with fail
    (with_reducible refine HF.out.mono ?_)
    rintro r w2 ⟨⟨s,rfl⟩,hb2⟩
    have HF:=hid (HI.out.2.1.trans (hb2.mono HI.out.2.1.size))
    clear hb2 c0 c1 c2 c3 c4 x8
    go_wp2
    go_ret2
    rw[hE.out.1,hE.out.2]
    exact⟨rfl,(HC.out _ HF.out).2⟩
   case true=>
   have HF:=hid (aaZ haa ho)
   have HOK:=hid ho
   have hwl:=aSW ho
   rw[←aTe ho]at hwl
   obtain⟨la,hla⟩: ∃l,l=kH a.ac:=⟨_,rfl⟩
   rw[←hla]at HF hwl
   have HLA:=hid hla
   have HWL:=hid hwl
   clear hje hXa hfi hcc haa ho hla hwl
   go_wp2_with fail
   (with_reducible refine HF.out.mono ?_)
   rintro r w2 ⟨rfl,hb2⟩
   have HB2:=hid (⟨HI.out.1.below hb2,HI.out.2.1.trans (hb2.mono HI.out.2.1.size)⟩:_∧_)
   have HQ:Hid ((hd++xp (X.acts.take j)).length≤500000):=hid (by
    have q2:=aS8 HI.out.2.2
    have q4:=HL.out.2.2
    have q5:=HJ.out.1
    have q6:=HLH.out
    rw[List.length_take]at q2
    rw[List.length_append]
    omega)
   clear hb2 c0 c1 c2 c3 c4 x8 HF
   go_wp2_with (with_reducible refine yd .append rfl ?_)
   with_reducible refine ki ?_
   refine aUl rfl _ _ 9 rfl HB2.out.1 HB2.out.2.size (by have:=HQ.out;have:=HWL.out;omega) (aU9 _ _) rfl rfl ?_
   intro v' w3 hby3 hb3
   obtain⟨p3,c3,rfl⟩:=hby3.slice
   obtain⟨n3,hn3⟩: ∃n,n=(hd++xp (X.acts.take j)++la).length:=⟨_,rfl⟩
   rw[←hn3]at hby3⊢
   have HB3:=hid (⟨hby3,HB2.out.2.trans hb3⟩:_∧_)
   clear hby3 hb3 hn3
   go_wp2_with (with_reducible refine yd .append rfl ?_)
   with_reducible refine ki ?_
   refine aUl (y:=[10]) rfl _ _ 73 rfl (HB3.out.1.below ((Below.refl _ _).alloc (Nat.le_refl _) _)) (Nat.le_trans HB3.out.2.size (by simp)) (by have:=HQ.out;have:=HWL.out;rw[List.length_append];simp only[List.length_cons,List.length_nil];omega) (aU8 _ 10 rfl) rfl rfl ?_
   intro v' w4 hby4 hb4
   obtain⟨p4,c4,rfl⟩:=hby4.slice
   obtain⟨n4,hn4⟩: ∃n,n=(hd++xp (X.acts.take j)++la++[10]).length:=⟨_,rfl⟩
   rw[←hn4]at hby4⊢
   have HN:Hid (Byr W1.heap.size w4 (.slice p4 n4 c4) (hd++xp (X.acts.take (j+1)))∧Below W1.heap.size W1 w4∧ ∀a∈X.acts.take (j+1),okA a=true):=hid ⟨by
    rw[aS0 HJ.out.2,←HLA.out,←List.append_assoc,←List.append_assoc]
    exact hby4,HB3.out.2.trans (((Below.refl _ _).alloc HB3.out.2.size _).trans hb4),fun z hz=>by
    rw[List.take_add_one,HJ.out.2,List.mem_append]at hz
    rcases hz with hz|hz
    ·exact HI.out.2.2 z hz
    ·simp only[Option.toList_some,List.mem_singleton]at hz
     rw[hz]
     exact HOK.out⟩
   clear hby4 hb4 hn4
   go_wp2
   go_roundg (an- (j+1))
   case measure=>have:=HJ.out.1;omega
   case rel=>exact⟨j+1,p4,n4,c4,by have:=HJ.out.1;omega,by omega,rfl,by go_num,HN⟩
  ·have hj2:j=an:=by omega
   have hji: ¬(j:Int)<(an:Int):=by omega
   have hta:X.acts.take j=X.acts:=List.take_of_length_le (by rw[HL.out.2.1];omega)
   have HAL:Hid (X.acts.all okA=true):=hid (List.all_eq_true.2 (by rw[←hta];exact HI.out.2.2))
   have hconv:=HI.out.1.string
   have HTX:Hid (hd++xp (X.acts.take j)=aUI X):=hid (by rw[hta,HHD.out];rfl)
   rw[HTX.out]at hconv
   clear hta hje
   by_cases h4:1024<an+2
   ·have hE:=hid (aTq HCH.out.1 HMM.out HAL.out (by rw[HL.out.2.1];exact h4))
    have h5:(1024:Int)<(an:Int)+2:=by omega
    clear hconv hj2
    go_wp2
    go_ret2
    rw[hE.out.1,hE.out.2]
    exact⟨rfl,(HC.out _ HI.out.2.1).2⟩
   ·have hE:=hid (aTE HCH.out.1 HMM.out HAL.out (by rw[HL.out.2.1];exact h4))
    have h5: ¬(1024:Int)<(an:Int)+2:=by omega
    clear hj2
    go_wp2
    go_ret2
    rw[hE.out.1,hE.out.2]
    exact⟨rfl,(HC.out _ HI.out.2.1).2⟩
end
section
open Go.RowKit Go.Lib
theorem aU7 (sec fr sd:Int) (en:Nat) (dp:Option Addr) (dn dc:Nat) (pp:Option Addr) (pn pc:Nat) (lp:Option Addr) (ln lc:Nat) (ip:Option Addr) (im ic:Nat) (ap:Option Addr) (an ac:Nat) (W:World):
  Calls Tryz.prog 13 #[.agg #[.int .i64 sec,.int .i64 fr,.int .i64 sd,.float .f64 en,.slice dp dn dc,.slice pp pn pc,.slice lp ln lc,.slice ip im ic,.slice ap an ac]] W fun r w'=>r= .returned (.agg #[.int .i64 sec,.int .i64 fr,.int .i64 sd,.float .f64 en,.slice dp dn dc,.slice pp pn pc,.slice lp ln lc,.slice ip im ic,.slice ap an ac])∧Below W.heap.size W w':=by
 obtain⟨xb,hxb⟩: ∃k,k=W.heap.size:=⟨_,rfl⟩
 obtain⟨r0,hr0⟩: ∃k,k=W.heap.size+1:=⟨_,rfl⟩
 obtain⟨w1,hw1⟩: ∃w,w=(W.alloc (.cells #[.int .i64 sec,.int .i64 fr,.int .i64 sd,.float .f64 en,.slice dp dn dc,.slice pp pn pc,.slice lp ln lc,.slice ip im ic,.slice ap an ac] 36)).alloc (.cells #[.int .i64 0,.int .i64 0,.int .i64 0,.float .f64 0,.slice none 0 0,.slice none 0 0,.slice none 0 0,.slice none 0 0,.slice none 0 0] 32):=⟨_,rfl⟩
 have hX:Blk w1 xb 36 #[.int .i64 sec,.int .i64 fr,.int .i64 sd,.float .f64 en,.slice dp dn dc,.slice pp pn pc,.slice lp ln lc,.slice ip im ic,.slice ap an ac]:=by rw[hw1,hxb];exact(Blk.new _ _ _).alloc _
 have hR:Blk w1 r0 32 #[.int .i64 0,.int .i64 0,.int .i64 0,.float .f64 0,.slice none 0 0,.slice none 0 0,.slice none 0 0,.slice none 0 0,.slice none 0 0]:=by
  have:=Blk.new (W.alloc (.cells #[.int .i64 sec,.int .i64 fr,.int .i64 sd,.float .f64 en,.slice dp dn dc,.slice pp pn pc,.slice lp ln lc,.slice ip im ic,.slice ap an ac] 36)) 32 #[.int .i64 0,.int .i64 0,.int .i64 0,.float .f64 0,.slice none 0 0,.slice none 0 0,.slice none 0 0,.slice none 0 0,.slice none 0 0]
  rw[World.size_alloc]at this
  rw[hw1,hr0]
  exact this
 have hb:Below W.heap.size W w1:=by rw[hw1];exact((Below.refl _ W).alloc (Nat.le_refl _) _).alloc (by simp) _
 obtain⟨x0,x1,x2,x3,x4,x5,x6,x7,x8⟩:=zZ hX
 obtain⟨z0,z1,z2,z3,z4,z5,z6,z7,z8⟩:=zZ hR
 obtain⟨y0,y1,y2,y3,y4,y5,y6,y7,y8,zlt⟩:=yA hR
 obtain⟨wz,hwz,hbz,hfz,-⟩:=zS hb hR (by omega) [.int .i64 sec,.int .i64 fr,.int .i64 sd,.float .f64 en,.slice dp dn dc,.slice pp pn pc,.slice lp ln lc,.slice ip im ic,.slice ap an ac] rfl
 have HW:=hid (⟨hxb,hr0,hw1⟩:_∧_∧_)
 unfold za za za za za za za za za za at hwz
 have HZ:=hid (⟨hwz,hbz,hfz⟩:_∧_∧_)
 clear hxb hr0 hw1 hX hR hb hwz hbz hfz
 go_enter Tryz.func13,Tryz.ntmps13
 go_upto_region 1 with fail
 rw[←HW.out.2.1,←HW.out.1,←HW.out.2.2]
 go_wp2
 rw[←HZ.out.1]
 obtain⟨v0,v1,v2,v3,v4,v5,v6,v7,v8⟩:=zZ HZ.out.2.1
 refine bodyPost_ret (v:= .agg #[.int .i64 sec,.int .i64 fr,.int .i64 sd,.float .f64 en,.slice dp dn dc,.slice pp pn pc,.slice lp ln lc,.slice ip im ic,.slice ap an ac]) (by simp[results,Tryz.results13,go_sem,v0,v1,v2,v3,v4,v5,v6,v7,v8]) rfl ⟨rfl,HZ.out.2.2⟩
theorem aT2 {m:Mdl} (h:aSM m=true):m.lgt:=by
 unfold aSM at h
 simp only[Bool.and_eq_true,decide_eq_true_eq,List.all_eq_true]at h
 obtain⟨⟨h1,h2,h3,h4⟩,h5,h6⟩:=h
 exact⟨h1,h2,h3,h4,h5,h6⟩
structure LtS (x:ScV):Prop where
 n:x.ats.length≤1100
 m:aSM x.x.m=true
 a: ∀a∈x.ats,a.keep.length≤200
theorem aTO {W:World} {x:ScV} (hx:aci W x):
  Calls Tryz.prog 11 #[.agg (scC x).toArray] W fun r w'=>(∃b,r= .returned (.bool b)∧(b=true→LtS x))∧Below W.heap.size W w':=by
 obtain⟨lt,hlt⟩: ∃p:Prop,p=LtS x:=⟨_,rfl⟩
 have HLT:Hid (x.ats.length≤1100→aSM x.x.m=true→(∀a∈x.ats,a.keep.length≤200)→lt):=hid fun h1 h2 h3=>by rw[hlt];exact⟨h1,h2,h3⟩
 rw[←hlt]
 obtain⟨sec,fr,⟨sd,en,dp,dn,dc,dl,pp,pn,pc,ps,lp,ln,lc,ls,ip,im,ic,is⟩,ap,an,ac,ats⟩:=x
 clear hlt
 have HLI:Hid (∀W',Below W.heap.size W W'→Calls Tryz.prog 28 #[.agg #[.int .i64 sd,.float .f64 en,.slice dp dn dc,.slice pp pn pc,.slice lp ln lc,.slice ip im ic]] W' fun r w'=>r= .returned (.bool (aSM (MdV.m ⟨sd,en,dp,dn,dc,dl,pp,pn,pc,ps,lp,ln,lc,ls,ip,im,ic,is⟩)))∧Below W'.heap.size W' w'):=hid fun W' hb=>by
  have hm1:qZ W ⟨sd,en,dp,dn,dc,dl,pp,pn,pc,ps,lp,ln,lc,ls,ip,im,ic,is⟩:=hx.m
  exact aT1 (hm1.below hb)
 have han:an=ats.length:=hx.an
 have HA:Hid (∀j,j<an→ ∃(a:AcV) (g o:Nat),ap=some ⟨g,o,none⟩∧ats[j]? =some a∧a.kn=a.keep.length∧(∀W',Below W.heap.size W W'→W'.cell? ⟨g,o+j*5+2,none⟩=some (.slice a.kp a.kn a.kc))):=hid fun j hj=>by
  obtain⟨a,ha⟩: ∃a,ats[j]? =some a:=⟨_,List.getElem?_eq_getElem (by rw[←han];exact hj)⟩
  have hxa:Vw 5 acC W (.slice ap an ac) ats:=hx.a
  obtain⟨g1,o1,f1,k1⟩:=hxa.elt ha
  exact⟨a,g1,o1,f1,ha,(hx.ai a (List.mem_of_getElem? ha)).n,fun W' hb=>k1 W' hb 2 _ rfl⟩
 have HAN:=hid han
 dsimp only at HLT
 clear hx han
 obtain⟨xb,hxb⟩: ∃k,k=W.heap.size:=⟨_,rfl⟩
 obtain⟨W1,hW1⟩: ∃w,w=W.alloc (.cells #[.int .i64 sec,.int .i64 fr,.int .i64 sd,.float .f64 en,.slice dp dn dc,.slice pp pn pc,.slice lp ln lc,.slice ip im ic,.slice ap an ac] 36):=⟨_,rfl⟩
 have hB:Blk W1 xb 36 #[.int .i64 sec,.int .i64 fr,.int .i64 sd,.float .f64 en,.slice dp dn dc,.slice pp pn pc,.slice lp ln lc,.slice ip im ic,.slice ap an ac]:=by rw[hW1,hxb];exact Blk.new _ _ _
 have HB:=hid (⟨hB,(by rw[hW1];exact(Below.refl _ W).alloc (Nat.le_refl _) _:Below W.heap.size W W1),hxb,hW1⟩:_∧_∧_∧_)
 have HC:Hid (∀w,Below W1.heap.size W1 w→Blk w xb 36 #[.int .i64 sec,.int .i64 fr,.int .i64 sd,.float .f64 en,.slice dp dn dc,.slice pp pn pc,.slice lp ln lc,.slice ip im ic,.slice ap an ac]∧Below W.heap.size W w):=hid fun w hb=>⟨HB.out.1.below hb HB.out.1.lt,HB.out.2.1.trans (hb.mono HB.out.2.1.size)⟩
 obtain⟨x0,x1,x2,x3,x4,x5,x6,x7,x8⟩:=zZ hB
 clear hB hxb hW1
 show Calls _ _ #[.agg #[.int .i64 sec,.int .i64 fr,.int .i64 sd,.float .f64 en,.slice dp dn dc,.slice pp pn pc,.slice lp ln lc,.slice ip im ic,.slice ap an ac]] _ _
 by_cases hn:an≤1100
 case neg=>
  have hni:(1100:Int)<(an:Int):=by omega
  clear hn
  go_enter Tryz.func11,Tryz.ntmps11
  go_upto_region 1 with fail
  rw[←HB.out.2.2.1,←HB.out.2.2.2]
  go_wp2
  go_ret
  exact⟨⟨false,rfl,fun h=>by cases h⟩,HB.out.2.1⟩
 case pos=>
 have hni: ¬(1100:Int)<(an:Int):=by omega
 have hnz:(an:Int)≤1100:=by omega
 have HF:=hid (HLI.out W1 HB.out.2.1)
 obtain⟨lb,hlb⟩: ∃b,b=aSM (MdV.m ⟨sd,en,dp,dn,dc,dl,pp,pn,pc,ps,lp,ln,lc,ls,ip,im,ic,is⟩):=⟨_,rfl⟩
 rw[←hlb]at HF HLT
 clear hn hlb HLI
 go_enter Tryz.func11,Tryz.ntmps11
 go_upto_region 1 with fail
 rw[←HB.out.2.2.1,←HB.out.2.2.2]
 go_wp2_with fail
 (with_reducible refine HF.out.mono ?_)
 rintro r w2 ⟨rfl,hb2⟩
 have HB2:=hid hb2
 clear hb2 HF x0 x1 x2 x3 x4 x5 x6 x7 x8
 cases lb
 case false=>
  go_wp2
  go_ret
  exact⟨⟨false,rfl,fun h=>by cases h⟩,(HC.out _ HB2.out).2⟩
 case true=>
 have x8:=(zZ (HC.out _ HB2.out).1).2.2.2.2.2.2.2.2
 go_wp2_with fail
 go_loopg [3] an (fun gg s3 wr=> ∃j:Nat,j≤an∧an-j≤gg∧s3= .int .i64 j∧wr=w2∧Hid (∀a∈ats.take j,a.keep.length≤200))
 case atStart=>exact⟨0,by omega,by omega,rfl,rfl,hid fun a h=>by simp at h⟩
 case round=>
  obtain⟨j,hj,hgg,rfl,rfl,HI⟩:=hrel
  by_cases hje:j<an
  ·obtain⟨a,g,oo,rfl,ha,hka,hc⟩:=HA.out j hje
   have hji:(j:Int)<(an:Int):=by omega
   have c0:=hc _ (HC.out _ HB2.out).2
   have HJ:=hid (⟨hje,ha,hka⟩:_∧_∧_)
   by_cases hk:a.kn≤200
   ·have hk2: ¬(200:Int)<(a.kn:Int):=by omega
    have HN:Hid (∀a∈ats.take (j+1),a.keep.length≤200):=hid fun z hz=>by
     rw[List.take_add_one,HJ.out.2.1,List.mem_append]at hz
     rcases hz with hz|hz
     ·exact HI.out z hz
     ·simp only[Option.toList_some,List.mem_singleton]at hz
      rw[hz,←HJ.out.2.2]
      exact hk
    clear ha hka hc hk hje
    go_wp2
    go_roundg (an- (j+1))
    case measure=>have:=HJ.out.1;omega
    case rel=>exact⟨j+1,by have:=HJ.out.1;omega,by omega,by go_num,rfl,HN⟩
   ·have hk2:(200:Int)<(a.kn:Int):=by omega
    clear ha hka hc hk hje
    go_wp2
    go_ret
    exact⟨⟨false,rfl,fun h=>by cases h⟩,(HC.out _ HB2.out).2⟩
  ·have hji: ¬(j:Int)<(an:Int):=by omega
   have HZ:Hid lt:=hid (HLT.out (by have:=HAN.out;omega) (by trivial) (by
    have:=HI.out
    rw[List.take_of_length_le (by rw[←HAN.out];omega)]at this
    exact this))
   go_wp2
   go_ret
   exact⟨.inr ⟨rfl,HZ.out⟩,(HC.out _ HB2.out).2⟩
structure NmS (x:ScV):Prop where
 m:x.x.m.ok
 s:okZ x.sec
 f:okZ x.fr
 a: ∀a∈x.ats,okZ a.n∧okZ a.torn∧okZ a.bytes
theorem aUN {W:World} {x:ScV} (hx:aci W x) (hn:NmS x) (hl:LtS x):ScW W x:=⟨hx,⟨hn.m,aT2 hl.m⟩,fun a ha=>⟨by have:=hl.a a ha;omega,hn.a a ha⟩,hl.n,hn.s,hn.f⟩
theorem aTb (hA:ace) {W:World} {x:ScV} (hx:aci W x) (hn:NmS x):Calls Tryz.prog 4 #[.agg (scC x).toArray] W fun r w'=>r= .returned (.bool true)∧Below W.heap.size W w':=by
 have HA:Hid (∀w,Calls Tryz.prog 6 #[] w fun e w'=>e= .returned (.bool true)∧Below w.heap.size w w'):=hid hA
 have HLI:Hid (∀w,Below W.heap.size W w→Calls Tryz.prog 11 #[.agg (scC x).toArray] w fun r w'=>(∃b,r= .returned (.bool b)∧(b=true→LtS x))∧Below w.heap.size w w'):=hid fun w hb=>aTO (hx.below hb)
 have HSW:Hid (∀w,Below W.heap.size W w→LtS x→Calls Tryz.prog 12 #[.agg (scC x).toArray] w fun r w'=>r= .returned (.tuple #[.string (S (jz x.s)),.int .i64 (xx x.s)])∧Below w.heap.size w w'):=hid fun w hb hl=>aTQ (aUN (hx.below hb) hn hl)
 have HRW:Hid (∀w,Below W.heap.size W w→LtS x→Calls Tryz.prog 14 #[.agg (scC x).toArray] w fun r w'=>r= .returned (.tuple #[.string (S (jz x.s)),.int .i64 (xx x.s)])∧Below w.heap.size w w'):=hid fun w hb hl=>aTP (aUN (hx.below hb) hn hl)
 obtain⟨lt,hlt⟩: ∃p:Prop,p=LtS x:=⟨_,rfl⟩
 rw[←hlt]at HLI HSW HRW
 obtain⟨B,hBB⟩: ∃B,B=jz x.s:=⟨_,rfl⟩
 obtain⟨E,hEE⟩: ∃E,E=xx x.s:=⟨_,rfl⟩
 rw[←hBB,←hEE]at HSW HRW
 obtain⟨sec,fr,⟨sd,en,dp,dn,dc,dl,pp,pn,pc,ps,lp,ln,lc,ls,ip,im,ic,is⟩,ap,an,ac,ats⟩:=x
 clear hlt hBB hEE hA hx hn
 have HTO:Hid (∀w,Calls Tryz.prog 13 #[.agg #[.int .i64 sec,.int .i64 fr,.int .i64 sd,.float .f64 en,.slice dp dn dc,.slice pp pn pc,.slice lp ln lc,.slice ip im ic,.slice ap an ac]] w fun r w'=>r= .returned (.agg #[.int .i64 sec,.int .i64 fr,.int .i64 sd,.float .f64 en,.slice dp dn dc,.slice pp pn pc,.slice lp ln lc,.slice ip im ic,.slice ap an ac])∧Below w.heap.size w w'):=hid fun w=>aU7 _ _ _ _ _ _ _ _ _ _ _ _ _ _ _ _ _ _ _ _
 change Hid (∀w,Below W.heap.size W w→Calls Tryz.prog 11 #[.agg #[.int .i64 sec,.int .i64 fr,.int .i64 sd,.float .f64 en,.slice dp dn dc,.slice pp pn pc,.slice lp ln lc,.slice ip im ic,.slice ap an ac]] w fun r w'=>(∃b,r= .returned (.bool b)∧(b=true→lt))∧Below w.heap.size w w')at HLI
 change Hid (∀w,Below W.heap.size W w→lt→Calls Tryz.prog 12 #[.agg #[.int .i64 sec,.int .i64 fr,.int .i64 sd,.float .f64 en,.slice dp dn dc,.slice pp pn pc,.slice lp ln lc,.slice ip im ic,.slice ap an ac]] w fun r w'=>r= .returned (.tuple #[.string (S B),.int .i64 E])∧Below w.heap.size w w')at HSW
 change Hid (∀w,Below W.heap.size W w→lt→Calls Tryz.prog 14 #[.agg #[.int .i64 sec,.int .i64 fr,.int .i64 sd,.float .f64 en,.slice dp dn dc,.slice pp pn pc,.slice lp ln lc,.slice ip im ic,.slice ap an ac]] w fun r w'=>r= .returned (.tuple #[.string (S B),.int .i64 E])∧Below w.heap.size w w')at HRW
 obtain⟨xb,hxb⟩: ∃k,k=W.heap.size:=⟨_,rfl⟩
 obtain⟨W1,hW1⟩: ∃w,w=W.alloc (.cells #[.int .i64 sec,.int .i64 fr,.int .i64 sd,.float .f64 en,.slice dp dn dc,.slice pp pn pc,.slice lp ln lc,.slice ip im ic,.slice ap an ac] 36):=⟨_,rfl⟩
 have hB:Blk W1 xb 36 #[.int .i64 sec,.int .i64 fr,.int .i64 sd,.float .f64 en,.slice dp dn dc,.slice pp pn pc,.slice lp ln lc,.slice ip im ic,.slice ap an ac]:=by rw[hW1,hxb];exact Blk.new _ _ _
 have HB:=hid (⟨hB,(by rw[hW1];exact(Below.refl _ W).alloc (Nat.le_refl _) _:Below W.heap.size W W1),hxb,hW1⟩:_∧_∧_∧_)
 have HC:Hid (∀w,Below W1.heap.size W1 w→Blk w xb 36 #[.int .i64 sec,.int .i64 fr,.int .i64 sd,.float .f64 en,.slice dp dn dc,.slice pp pn pc,.slice lp ln lc,.slice ip im ic,.slice ap an ac]∧Below W.heap.size W w):=hid fun w hb=>⟨HB.out.1.below hb HB.out.1.lt,HB.out.2.1.trans (hb.mono HB.out.2.1.size)⟩
 obtain⟨x0,x1,x2,x3,x4,x5,x6,x7,x8⟩:=zZ hB
 have HF:=hid (HLI.out W1 HB.out.2.1)
 clear hB hxb hW1 HLI
 show Calls _ _ #[.agg #[.int .i64 sec,.int .i64 fr,.int .i64 sd,.float .f64 en,.slice dp dn dc,.slice pp pn pc,.slice lp ln lc,.slice ip im ic,.slice ap an ac]] _ _
 go_enter Tryz.func4,Tryz.ntmps4
 go_upto_region 1 with fail
 rw[←HB.out.2.2.1,←HB.out.2.2.2]
 go_wp2_with fail
 (with_reducible refine HF.out.mono ?_)
 rintro r w2 ⟨⟨b,rfl,hb⟩,hb2⟩
 have HB2:=hid hb2
 have HBL:=hid hb
 clear hb hb2 HF x0 x1 x2 x3 x4 x5 x6 x7 x8
 cases b
 case false=>
  go_wp2_with fail
  (with_reducible refine(HA.out _).mono ?_)
  rintro r w3 ⟨rfl,hb3⟩
  have HZ:=hid (HC.out _ (HB2.out.trans (hb3.mono HB2.out.size))).2
  go_wp2
  go_ret
  exact⟨rfl,HZ.out⟩
 case true=>
 have HLT:=hid (HBL.out rfl)
 obtain⟨x0,x1,x2,x3,x4,x5,x6,x7,x8⟩:=zZ (HC.out _ HB2.out).1
 go_wp2_with fail
 (with_reducible refine(HTO.out _).mono ?_)
 rintro r w3 ⟨rfl,hb3⟩
 have HB3:=hid (HB2.out.trans (hb3.mono HB2.out.size))
 clear hb3 x0 x1 x2 x3 x4 x5 x6 x7 x8
 have HF:=hid (HSW.out _ (HC.out _ HB3.out).2 HLT.out)
 go_wp2_with fail
 (with_reducible refine HF.out.mono ?_)
 rintro r w4 ⟨rfl,hb4⟩
 have HB4:=hid (HB3.out.trans (hb4.mono HB3.out.size))
 clear hb4 HF
 obtain⟨x0,x1,x2,x3,x4,x5,x6,x7,x8⟩:=zZ (HC.out _ HB4.out).1
 have HF:=hid (HRW.out _ (HC.out _ HB4.out).2 HLT.out)
 go_wp2_with fail
 (with_reducible refine HF.out.mono ?_)
 rintro r w5 ⟨rfl,hb5⟩
 have HB5:=hid (HB4.out.trans (hb5.mono HB4.out.size))
 clear hb5 HF x0 x1 x2 x3 x4 x5 x6 x7 x8
 go_wp2_with fail
 (with_reducible refine(HA.out _).mono ?_)
 rintro r w6 ⟨rfl,hb6⟩
 have HB6:=hid (HB5.out.trans (hb6.mono HB5.out.size))
 clear hb6
 go_wp2
 go_ret
 exact⟨rfl,(HC.out _ HB6.out).2⟩
end
section
open Go.ChangeShapes Go.WideShapes Go.ChangeAt Go.RowKit Go.Deep
theorem aUT:Tryz.prog.cellsOf 4=1:=by kernel_rfl
theorem aUp:Tryz.prog.cellsOf 49=1:=by kernel_rfl
theorem aTF:Tryz.prog.cellsOf 51=3:=by kernel_rfl
theorem aTy:Tryz.prog.cellsOf 53=5:=by kernel_rfl
theorem aTS:Tryz.prog.cellsOf 30=1:=by kernel_rfl
theorem aTt:Tryz.prog.cellsOf 36=9:=by kernel_rfl
section
variable {H:Type} {enc:TypeId×Value→H} {w:World} {spare:Nat→Bool} {held:Bool} {fuel:Nat} {cs:List Value} {x:DataW H×List MemPlace}
theorem aUx (h:DataW.trod enc Tryz.prog w 0 spare held fuel 4 cs=some x): ∃z:Bool,cs=boC z∧True:=by
 cases fuel with
 |zero=>cases h
 | succ n=>
  rcases cs with _| ⟨c,_| ⟨c2,t⟩⟩
  ·simp[DataW.trod,Tryz.underlying4]at h
  ·obtain⟨z,rfl⟩:=aT0 Tryz.underlying4 h
   exact⟨z,rfl,trivial⟩
  ·cases c<;>simp[DataW.trod,Tryz.underlying4]at h
theorem aUw (h:DataW.trod enc Tryz.prog w 0 spare held fuel 53 cs=some x): ∃a:AcV,cs=acC a∧acd w a∧okZ a.n∧okZ a.torn∧okZ a.bytes:=by
 cases fuel with
 |zero=>cases h
 | succ n=>
  obtain⟨hl,hf⟩:=xi Tryz.underlying53 h
  rw[aTy]at hl
  match cs,hl with
  | [c0,c1,c2,c3,c4],_=>
   simp[ql,aTF]at hf
   obtain⟨⟨_,_,h0⟩,⟨_,_,h1⟩,⟨_,_,h2⟩⟩:=hf
   obtain⟨z0,rfl,w0⟩:=yy Tryz.underlying3 h0
   obtain⟨z1,rfl,w1⟩:=yy Tryz.underlying3 h1
   cases n with
   |zero=>cases h2
   |succ n=>
    obtain⟨_,hf2⟩:=xi Tryz.underlying51 h2
    simp[ql,aUp]at hf2
    obtain⟨⟨_,_,k0⟩,⟨_,_,k1⟩,⟨_,_,k2⟩⟩:=hf2
    obtain⟨p,m,c,l,e,a1,a2,a3⟩:=yb (R:=fun _:Bool=>True) false Tryz.underlying49 aUT (by decide) XW (fun _ _ _ h=>aUx h) k0
    obtain⟨z3,rfl,w3⟩:=yy Tryz.underlying3 k1
    obtain⟨z4,rfl,w4⟩:=yy Tryz.underlying3 k2
    injection e with e _
    subst e
    exact⟨⟨z0,z1,p,m,c,l,z3,z4⟩,rfl,⟨a1,a2⟩,q8 w1,q8 w3,q8 w4⟩
theorem aS1 (h:DataW.trod enc Tryz.prog w 0 spare held fuel 36 cs=some x): ∃s:ScV,cs=scC s∧aci w s∧NmS s:=by
 cases fuel with
 |zero=>cases h
 | succ n=>
  obtain⟨hl,hf⟩:=xi Tryz.underlying36 h
  rw[aTt]at hl
  match cs,hl with
  | [c0,c1,c2,c3,c4,c5,c6,c7,c8],_=>
   simp[ql,aS4,aTS]at hf
   obtain⟨⟨_,_,h0⟩,⟨_,_,h1⟩,⟨_,_,h2⟩,⟨_,_,h3⟩⟩:=hf
   obtain⟨z0,rfl,w0⟩:=yy Tryz.underlying3 h0
   obtain⟨z1,rfl,w1⟩:=yy Tryz.underlying3 h1
   obtain⟨m,he,hm,hk⟩:=aTM h2
   obtain⟨p,k,c,l,e,a1,a2,a3⟩:=yb (R:=fun a:AcV=>acd w a∧okZ a.n∧okZ a.torn∧okZ a.bytes) ⟨0,0,none,0,0,[],0,0⟩ Tryz.underlying30 aTy (by decide) J0 (fun _ _ _ h=>aUw h) h3
   injection e with e _
   subst e
   refine⟨⟨z0,z1,m,p,k,c,l⟩,?_,⟨hm,a2,a1,fun a ha=>(a3 a ha).1⟩,⟨?_,q8 w0,q8 w1,fun a ha=>(a3 a ha).2⟩⟩
   ·show _=Value.int .i64 z0:: .int .i64 z1::(mdC m++[.slice p k c])
    rw[←he]
    rfl
   ·refine⟨hk.seed,hk.en,hk.dl,fun p hp y hy=>?_,fun p hp=>?_,hk.is⟩
    ·obtain⟨q,hq,rfl⟩:=List.mem_map.1 hp
     exact hk.ps q hq y hy
    ·obtain⟨q,hq,rfl⟩:=List.mem_map.1 hp
     exact hk.ls q hq
end
end
end Go.Proofs.YtcdiljebkpikbaaGreat
