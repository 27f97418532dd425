/- Parts of the proof: Sey Sfd Owa Sfe. -/
import Derived.Laws.IdiomCopy
import Derived.Laws.AppendOwn
import Derived.Lib.ConvBytes
import Derived.Lib.SmallJoins
import Derived.Deep.AppendSrc
import Derived.Test.YtcdiljebkpikbaaGreatS10
import Derived.Test.YtcdiljebkpikbaaGreatS11
import Derived.Test.YtcdiljebkpikbaaGreatU31
import Derived.Test.YtcdiljebkpikbaaGreatU32
import Derived.Test.YtcdiljebkpikbaaGreatU33
import Derived.Test.YtcdiljebkpikbaaGreatU34
import Derived.Test.YtcdiljebkpikbaaGreatU37
import Derived.Test.YtcdiljebkpikbaaGreatU39
import Derived.Test.YtcdiljebkpikbaaGreatU40
import Derived.Test.YtcdiljebkpikbaaGreatU41
set_option linter.all false
set_option maxRecDepth 100000
set_option maxHeartbeats 64000000
namespace Go.Proofs.YtcdiljebkpikbaaGreat
section
open Go.RowKit Go.Lib
theorem aWd {w:World} {g:Nat} {T:TypeId} {a b c d e f i j k:Value} (h:Blk w g T #[a,b,c,d,e,f,i,j,k]):w.cell? ⟨g,0,none⟩=some a∧w.cell? ⟨g,1,none⟩=some b:=⟨(zZ h).1,(zZ h).2.1⟩
theorem aVY:({ data:= #[119,111,114,108,100] } :ByteArray)=S [119,111,114,108,100]:=rfl
theorem WtI.below {B wb:Nat} {w w':World} {p:Option Addr} {n c:Nat} {b:Bs} {k:Int} (h:WtI B wb w p n c b k) (hb:Below w.heap.size w w'):WtI B wb w' p n c b k:=⟨h.bk.below hb h.bk.lt,h.nl,h.o.below hb,h.lo⟩
structure ScW (W:World) (x:ScV):Prop where
 i:aci W x
 m:x.x.nice
 a: ∀a∈x.ats,a.fine
 n:x.ats.length≤1100
 s:okZ x.sec
 f:okZ x.fr
theorem ScW.below {W W':World} {x:ScV} (h:ScW W x) (hb:Below W.heap.size W W'):ScW W' x:=⟨h.i.below hb,h.m,h.a,h.n,h.s,h.f⟩
theorem aTa {W:World} {x:ScV} (hx:ScW W x):
  Calls Tryz.prog 12 #[.agg (scC x).toArray] W fun r w'=>r= .returned (.tuple #[.string (S (qk x.s)),.int .i64 (qc x.s)])∧Below W.heap.size W w':=by
 obtain⟨X,hX⟩: ∃X,X=x.s:=⟨_,rfl⟩
 rw[←hX]
 obtain⟨sec,fr,⟨sd,en,dp,dn,dc,dl,pp,pn,pc,ps,lp,ln,lc,ls,ip,im,ic,is⟩,ap,an,ac,ats⟩:=x
 have HPU:Hid (∀W',Below W.heap.size W W'→Calls Tryz.prog 29 #[.agg #[.int .i64 sd,.float .f64 en,.slice dp dn dc,.slice pp pn pc,.slice lp ln lc,.slice ip im ic]] W' fun r w'=>r= .returned (.tuple #[.string (S (if yM X.m=true then aTe X.m else [])),.int .i64 (if yM X.m=true then 0 else 15)])∧Below W'.heap.size W' w'):=hid fun W' hb=>by
  have hm1:qZ W ⟨sd,en,dp,dn,dc,dl,pp,pn,pc,ps,lp,ln,lc,ls,ip,im,ic,is⟩:=hx.i.m
  have hm2:MdV.nice ⟨sd,en,dp,dn,dc,dl,pp,pn,pc,ps,lp,ln,lc,ls,ip,im,ic,is⟩:=hx.m
  have h0:=aVm (hm1.below hb) hm2
  have e:X.m=MdV.m ⟨sd,en,dp,dn,dc,dl,pp,pn,pc,ps,lp,ln,lc,ls,ip,im,ic,is⟩:=by rw[hX];rfl
  rw[e]
  exact h0
 have HD1:Hid (∀w,Calls Tryz.prog 32 #[.int .i64 sec] w (DgP w (Xb X.sec))):=hid fun w=>by rw[hX];exact aST hx.s w
 have HD2:Hid (∀w,Calls Tryz.prog 32 #[.int .i64 fr] w (DgP w (Xb X.fr))):=hid fun w=>by rw[hX];exact aST hx.f w
 have HWI:Hid (∀w g,Blk w g 3 #[.int .i64 sec,.int .i64 fr]→Calls Tryz.prog 30 #[.slice (some ⟨g,0,none⟩) 2 2] w fun e w'=>e= .returned (.bool (YH X.sec&&YH X.fr))∧w=w'):=hid fun w g hb=>by
  have:=aTb [sec,fr] (some ⟨g,0,none⟩) 2 2 rfl (by simp) (by simp) w (Vw.of_own YG (aTX (B:=0) (l:=[sec,fr]) YG hb (Nat.zero_le _) (by simp)) rfl)
  rw[hX]
  simpa[ScV.s]using this
 have HL:Hid (X.m.lgt∧X.acts.length=an∧an≤1100):=hid ⟨by rw[hX];exact hx.m.lgt,by rw[hX];show(ats.map AcV.ac).length=_;rw[List.length_map];exact hx.i.an.symm,by have:=hx.n;have h2:an=ats.length:=hx.i.an;have:ats.length≤1100:=hx.n;omega⟩
 have HA:Hid (∀j,j<an→ ∃(a:AcV) (g o:Nat),ap=some ⟨g,o,none⟩∧X.acts[j]? =some a.ac∧a.fine∧(∀W',Below W.heap.size W W'→(W'.cell? ⟨g,o+j*5,none⟩=some (.int .i64 a.kind)∧W'.cell? ⟨g,o+j*5+1,none⟩=some (.int .i64 a.n)∧W'.cell? ⟨g,o+j*5+2,none⟩=some (.slice a.kp a.kn a.kc)∧W'.cell? ⟨g,o+j*5+3,none⟩=some (.int .i64 a.torn)∧W'.cell? ⟨g,o+j*5+4,none⟩=some (.int .i64 a.bytes))∧acd W' a)):=hid fun j hj=>by
  have han:an=ats.length:=hx.i.an
  obtain⟨a,ha⟩: ∃a,ats[j]? =some a:=⟨_,List.getElem?_eq_getElem (by rw[←han];exact hj)⟩
  have hxa:Vw 5 acC W (.slice ap an ac) ats:=hx.i.a
  obtain⟨g1,o1,f1,k1⟩:=hxa.elt ha
  have ma:=List.mem_of_getElem? ha
  exact⟨a,g1,o1,f1,by rw[hX];show(ats.map AcV.ac)[j]? =_;rw[List.getElem?_map,ha];rfl,hx.a a ma,fun W' hb=>⟨⟨k1 W' hb 0 _ rfl,k1 W' hb 1 _ rfl,k1 W' hb 2 _ rfl,k1 W' hb 3 _ rfl,k1 W' hb 4 _ rfl⟩,(hx.i.ai a ma).below hb⟩⟩
 clear hx hX
 obtain⟨xb,hxb⟩: ∃k,k=W.heap.size:=⟨_,rfl⟩
 obtain⟨W1,hW1⟩: ∃w,w=W.alloc (.cells #[.int .i64 sec,.int .i64 fr,.int .i64 sd,.float .f64 en,.slice dp dn dc,.slice pp pn pc,.slice lp ln lc,.slice ip im ic,.slice ap an ac] 32):=⟨_,rfl⟩
 have hB:Blk W1 xb 32 #[.int .i64 sec,.int .i64 fr,.int .i64 sd,.float .f64 en,.slice dp dn dc,.slice pp pn pc,.slice lp ln lc,.slice ip im ic,.slice ap an ac]:=by rw[hW1,hxb];exact Blk.new _ _ _
 have HB:=hid (⟨hB,(by rw[hW1];exact(Below.refl _ W).alloc (Nat.le_refl _) _:Below W.heap.size W W1),hxb,hW1⟩:_∧_∧_∧_)
 have HF:=hid (HPU.out W1 HB.out.2.1)
 obtain⟨x0,x1,x2,x3,x4,x5,x6,x7,x8⟩:=zZ hB
 clear hB hxb hW1 HPU
 show Calls _ _ #[.agg #[.int .i64 sec,.int .i64 fr,.int .i64 sd,.float .f64 en,.slice dp dn dc,.slice pp pn pc,.slice lp ln lc,.slice ip im ic,.slice ap an ac]] _ _
 cases hc:yM X.m
 case false=>
  rw[hc]at HF
  simp only[Bool.false_eq_true,if_false]at HF
  rw[(aTR hc).1,(aTR hc).2]
  clear hc HA HL HD1 HD2 HWI
  go_enter Tryz.func12,Tryz.ntmps12
  go_upto_region 1 with fail
  rw[←HB.out.2.2.1,←HB.out.2.2.2]
  go_wp2_with fail
  (with_reducible refine HF.out.mono ?_)
  rintro r w2 ⟨rfl,hb2⟩
  have HB2:=hid (HB.out.2.1.trans (hb2.mono HB.out.2.1.size))
  clear hb2 HF
  go_wp2
  go_ret2
  exact⟨rfl,HB2.out⟩
 case true=>
 rw[hc]at HF
 simp only[if_true]at HF
 obtain⟨mb,hmb⟩: ∃b,b=(YH X.sec&&YH X.fr):=⟨_,rfl⟩
 rw[←hmb]at HWI
 have HWE:Hid (qc X=2∧qk X=[]∨True):=hid (.inr trivial)
 have HC:=hid (⟨hc,hmb⟩:_∧_)
 have HLM:=hid (aTz HL.out.1)
 have HHX:Hid (∀w,Calls Tryz.prog 33 #[.string (S (aTe X.m))] w (DgP w (aTG (aTe X.m)))):=hid fun w=>aVJ _ HLM.out w
 obtain⟨lm,hlm⟩: ∃l,l=aTe X.m:=⟨_,rfl⟩
 rw[←hlm]at HF HHX
 have HLQ:=hid hlm
 clear hc hmb hlm
 go_enter Tryz.func12,Tryz.ntmps12
 go_upto_region 1 with fail
 rw[←HB.out.2.2.1,←HB.out.2.2.2]
 go_wp2_with fail
 (with_reducible refine HF.out.mono ?_)
 rintro r w2 ⟨rfl,hb2⟩
 have HB2:=hid (⟨HB.out.1.below hb2 HB.out.1.lt,HB.out.2.1.trans (hb2.mono HB.out.2.1.size)⟩:_∧_)
 clear hb2 HF x0 x1 x2 x3 x4 x5 x6 x7 x8
 obtain⟨x0,x1,x2,x3,x4,x5,x6,x7,x8⟩:=zZ HB2.out.1
 obtain⟨gi,hgi⟩: ∃k,k=w2.heap.size:=⟨_,rfl⟩
 obtain⟨w3,hw3⟩: ∃w,w=w2.alloc (.cells #[.int .i64 sec,.int .i64 fr] 3):=⟨_,rfl⟩
 have HG:=hid (HWI.out w3 gi (by rw[hw3,hgi];exact Blk.new _ _ _))
 have hb3:Below w2.heap.size w2 w3:=by rw[hw3];exact(Below.refl _ _).alloc (Nat.le_refl _) _
 have HB3:=hid (⟨HB2.out.1.below hb3 HB2.out.1.lt,HB2.out.2.trans (hb3.mono HB2.out.2.size)⟩:_∧_)
 have HW3:=hid (⟨hgi,hw3⟩:_∧_)
 clear hgi hw3 hb3 HWI
 go_wp2_with fail
 rw[←HW3.out.1,←HW3.out.2]
 (with_reducible refine HG.out.mono ?_)
 rintro r w4 ⟨rfl,rfl⟩
 clear HG HW3 x0 x1 x2 x3 x4 x5 x6 x7 x8
 obtain⟨x0,x1,x2,x3,x4,x5,x6,x7,x8⟩:=zZ HB3.out.1
 cases mb
 case false=>
  go_wp2
  go_ret2
  have hE:=aUe HC.out.1 (.inl HC.out.2.symm)
  rw[hE.1,hE.2]
  exact⟨rfl,HB3.out.2⟩
 case true=>
 obtain⟨wb,hwb⟩: ∃k,k=w3.heap.size:=⟨_,rfl⟩
 obtain⟨w4,hw4⟩: ∃w,w=w3.alloc (.cells #[.slice none 0 0,.int .i64 0] 75):=⟨_,rfl⟩
 have hK:Blk w4 wb 75 #[.slice none 0 0,.int .i64 0]:=by rw[hw4,hwb];exact Blk.new _ _ _
 have hb4:Below w3.heap.size w3 w4:=by rw[hw4];exact(Below.refl _ _).alloc (Nat.le_refl _) _
 have HB4:=hid (⟨HB3.out.1.below hb4 HB3.out.1.lt,HB3.out.2.trans (hb4.mono HB3.out.2.size)⟩:_∧_)
 have HWT:Hid (WtI W.heap.size wb w4 none 0 0 [] 0):=hid ⟨hK,rfl,OB.nil _ _,by rw[hwb];exact HB3.out.2.size⟩
 have HW4:=hid (⟨hwb,hw4⟩:_∧_)
 clear hwb hw4 hK hb4 x0 x1 x2 x3 x4 x5 x6 x7 x8
 go_upto_region 7 with fail
 rw[←HW4.out.1,←HW4.out.2]
 have HM:=hid (Bool.and_eq_true_iff.1 HC.out.2.symm)
 have HLE:=hid (aVi HL.out.1 HM.out.1 HM.out.2)
 have HHW:Hid (aU9 X=[[119,111,114,108,100],Xb X.sec,Xb X.fr,aTG lm]):=hid (by rw[HLQ.out];rfl)
 obtain⟨s1,hs1⟩: ∃s,s=Xb X.sec:=⟨_,rfl⟩
 obtain⟨s2,hs2⟩: ∃s,s=Xb X.fr:=⟨_,rfl⟩
 obtain⟨s3,hs3⟩: ∃s,s=aTG lm:=⟨_,rfl⟩
 rw[←hs1]at HD1 HHW
 rw[←hs2]at HD2 HHW
 rw[←hs3]at HHX HHW
 clear hs1 hs2 hs3
 obtain⟨x0,x1,x2,x3,x4,x5,x6,x7,x8⟩:=zZ HB4.out.1
 refine zB (fun W'=>W'.cell? ⟨xb,0,none⟩=some (.int .i64 sec)∧W'.cell? ⟨xb,1,none⟩=some (.int .i64 fr)) 10 (by kernel_rfl) ⟨x0,x1⟩ (fun hHeld=>?_)
 have HX:=hid (Below.refl w4.heap.size w4).drew
 clear x0 x1 x2 x3 x4 x5 x6 x7 x8
 refine eT 0 hHeld ?_;(try simp only[Act.put,sEa,sEb,sEc]);refine eT 1 hHeld ?_;(try simp only[Act.put,sEa,sEb,sEc]);refine eT 2 hHeld ?_;(try simp only[Act.put,sEa,sEb,sEc]);refine eT 4 hHeld ?_;(try simp only[Act.put,sEa,sEb,sEc]);refine eT 5 hHeld ?_;(try simp only[Act.put,sEa,sEb,sEc]);refine eT 7 hHeld ?_;(try simp only[Act.put,sEa,sEb,sEc])
 refine eR 3 (fun K hK=>?_)
 go_simp
 (with_reducible refine(HD1.out _).mono ?_)
 rintro r v3 ⟨rfl,hb⟩
 have HX:=hid (HX.out.trans (hb.mono HX.out.size))
 clear hb
 refine hK.out _ _ (aWd (HB4.out.1.below HX.out HB4.out.1.lt)) (fun hHeld=>?_)
 clear hK K
 (try simp only[Act.put,sEa,sEb,sEc])
 refine eR 6 (fun K hK=>?_)
 go_simp
 (with_reducible refine(HD2.out _).mono ?_)
 rintro r v6 ⟨rfl,hb⟩
 have HX:=hid (HX.out.trans (hb.mono HX.out.size))
 clear hb
 refine hK.out _ _ (aWd (HB4.out.1.below HX.out HB4.out.1.lt)) (fun hHeld=>?_)
 clear hK K
 (try simp only[Act.put,sEa,sEb,sEc])
 refine eR 8 (fun K hK=>?_)
 go_simp
 (with_reducible refine(HHX.out _).mono ?_)
 rintro r v8 ⟨rfl,hb⟩
 have HX:=hid (HX.out.trans (hb.mono HX.out.size))
 clear hb
 refine hK.out _ _ (aWd (HB4.out.1.below HX.out HB4.out.1.lt)) (fun hHeld=>?_)
 clear hK K
 (try simp only[Act.put,sEa,sEb,sEc])
 refine eR 9 (fun K hK=>?_)
 go_simp
 obtain⟨v5,hw⟩: ∃w,w=World.alloc v8 (.cells #[.string (S [119,111,114,108,100]),.string (S s1),.string (S s2),.string (S s3)] 9):=⟨_,rfl⟩
 have H6:Hid (Blk v5 (World.heap v8).size 9 #[.string (S [119,111,114,108,100]),.string (S s1),.string (S s2),.string (S s3)]):=hid (by rw[hw];exact Blk.new _ _ _)
 have hb:Below (World.heap v8).size v8 v5:=by rw[hw];exact(Below.refl _ _).alloc (Nat.le_refl _) _
 change Shut _ at hK
 rw[aVY,←hw]
 have HX:=hid (HX.out.trans (hb.mono HX.out.size))
 clear hb hw
 refine hK.out _ _ (aWd (HB4.out.1.below HX.out HB4.out.1.lt)) (fun hHeld=>?_)
 clear hK K
 (try simp only[Act.put,sEa,sEb,sEc])
 refine eL (fun K hK=>?_)
 go_simp
 have HP:=hid (aUd (ws:=aU9 X) (HWT.out.below HX.out) (Nat.le_trans HB4.out.2.size HX.out.size) (by rw[HHW.out];exact H6.out) (by rw[HHW.out];simp) (by have:=HLE.out;simpa using(by omega:(abI (aU9 X)).length≤900000)) (by decide))
 have HN:Hid ((aU9 X).length=4):=hid (by rw[HHW.out];rfl)
 rw[HN.out]at HP
 (with_reducible refine HP.out.mono ?_)
 rintro r w6 ⟨rfl,⟨p6,n6,c6,hw6⟩,hl6⟩
 refine hK.out _ _ ?_
 clear hK K
 (try simp only[Act.put,sEa,sEb,sEc])
 have HB6:=hid (HB4.out.2.trans ((HX.out.mono HB4.out.2.size).trans hl6.b))
 have HI0:Hid (WtI W.heap.size wb w6 p6 n6 c6 (abI (aU9 X)++[10]++aSU (X.acts.take 0)) ((0:Nat)+1)∧Below W.heap.size W w6∧ ∀a∈X.acts.take 0,okA a=true):=hid ⟨by simpa[aSU]using hw6,HB6.out,fun a h=>by simp at h⟩
 have hc3:w6.cell? ⟨xb,8,none⟩=some (.slice ap an ac):=(zZ (hl6.t _ _ _ (by decide) (by decide) (HB4.out.1.below HX.out HB4.out.1.lt))).2.2.2.2.2.2.2.2
 clear HP hw6 hl6 HWT HX H6 HD1 HD2 HHX
 have hnl:(an:Int)≤1100:=by have:=HL.out.2.2;omega
 go_wp2_with fail
 go_loopg [45] an (fun gg s45 wr=> ∃(j:Nat) (p:Option Addr) (n c:Nat),j≤an∧an-j≤gg∧s45= .int .i64 j∧Hid (WtI W.heap.size wb wr p n c (abI (aU9 X)++[10]++aSU (X.acts.take j)) (j+1)∧Below W.heap.size W wr∧ ∀a∈X.acts.take j,okA a=true))
 case atStart=>exact⟨0,p6,n6,c6,by omega,by omega,rfl,HI0⟩
 case round=>
  obtain⟨j,p,n,c,hj,hgg,rfl,HI⟩:=hrel
  clear hc3
  by_cases hje:j<an
  ·obtain⟨a,g,oo,rfl,hXa,hfi,hcc⟩:=HA.out j hje
   have hji:(j:Int)<(an:Int):=by omega
   obtain⟨⟨c0,c1,c2,c3,c4⟩,haa⟩:=hcc wr HI.out.2.1
   have HJ:=hid (⟨hje,hXa,hfi,haa⟩:_∧_∧_∧_)
   clear hje hXa hfi hcc haa
   go_wp2_with fail
   obtain⟨wq,hwq⟩: ∃w,w=wr.alloc (.cells #[.int .i64 a.kind,.int .i64 a.n,.slice a.kp a.kn a.kc,.int .i64 a.torn,.int .i64 a.bytes] 53):=⟨_,rfl⟩
   have hbq:Below wr.heap.size wr wq:=by rw[hwq];exact(Below.refl _ _).alloc (Nat.le_refl _) _
   rw[←hwq]
   have HF:=hid (aTP (HJ.out.2.2.2.below hbq) HJ.out.2.2.1.1 HJ.out.2.2.1.2.1 HJ.out.2.2.1.2.2.1 HJ.out.2.2.1.2.2.2)
   have HBQ:=hid hbq
   clear hwq hbq c0 c1 c2 c3 c4
   (with_reducible refine HF.out.mono ?_)
   intro r w9 hW
   obtain⟨p9,n9,c9,rfl,hok,hb9⟩:=hW
   have HB9:=hid (HBQ.out.trans (hb9.mono HBQ.out.size))
   obtain⟨ob,hob⟩: ∃b,b=okA a.ac:=⟨_,rfl⟩
   rw[←hob]at hok⊢
   have HOB:=hid hob
   clear hob hb9 HF
   cases ob
   case' false=>
    clear hok
    have hE:=hid (aUe HC.out.1 (.inr (List.all_eq_false.2 ⟨a.ac,List.mem_of_getElem? HJ.out.2.1,by rw[←HOB.out];decide⟩)))
    go_wp2
    go_ret2
    rw[hE.out.1,hE.out.2]
    exact⟨rfl,HI.out.2.1.trans (HB9.out.mono HI.out.2.1.size)⟩
   obtain⟨g9,rfl,hn9,rfl,hk9⟩:=hok rfl
   have HP:=hid (aUd (ws:=aos a.ac) (HI.out.1.below HB9.out) (Nat.le_trans HI.out.2.1.size HB9.out.size) hk9 (by have:=aVx a.ac;omega) (by
    have q1:=HLE.out
    have q2:=aUo HI.out.2.2
    have q3:=aTw HOB.out.symm
    have q4:=HL.out.2.2
    have q5:=HJ.out.1
    rw[List.length_take]at q2
    simp only[List.length_append,List.length_cons,List.length_nil]
    omega) ⟨by omega,by have:=HJ.out.1;have:=HL.out.2.2;omega⟩)
   rw[←hn9]at HP
   clear hk9 hn9 hok
   go_wp2_with fail
   (with_reducible refine HP.out.mono ?_)
   rintro r w10 ⟨rfl,⟨p10,n10,c10,hw10⟩,hl10⟩
   have HN:Hid (WtI W.heap.size wb w10 p10 n10 c10 (abI (aU9 X)++[10]++aSU (X.acts.take (j+1))) (((j+1:Nat):Int)+1)∧Below W.heap.size W w10∧ ∀a∈X.acts.take (j+1),okA a=true):=hid ⟨by
    rw[aTV HJ.out.2.1,aTf HOB.out.symm]
    simpa only[List.append_assoc,Int.natCast_add,Int.natCast_one]using hw10,HI.out.2.1.trans ((HB9.out.mono HI.out.2.1.size).trans hl10.b),fun z hz=>by
    rw[List.take_add_one,HJ.out.2.1,List.mem_append]at hz
    rcases hz with hz|hz
    ·exact HI.out.2.2 z hz
    ·simp only[Option.toList_some,List.mem_singleton]at hz
     rw[hz]
     exact HOB.out.symm⟩
   clear HP hw10 hl10
   go_wp2
   go_roundg (an- (j+1))
   case measure=>have:=HJ.out.1;omega
   case rel=>exact⟨j+1,p10,n10,c10,by have:=HJ.out.1;omega,by omega,by go_num,HN⟩
  ·have hj2:j=an:=by omega
   have hji: ¬(j:Int)<(an:Int):=by omega
   have c0:wr.cell? ⟨wb,0,none⟩=some (.slice p n c):=HI.out.1.bk.cell 0
   have c1:wr.cell? ⟨wb,1,none⟩=some (.int .i64 ((j:Int)+1)):=HI.out.1.bk.cell 1
   have hta:X.acts.take j=X.acts:=List.take_of_length_le (by rw[HL.out.2.1];omega)
   have HAL:Hid (X.acts.all okA=true):=hid (List.all_eq_true.2 (by rw[←hta];exact HI.out.2.2))
   have hconv:=Xj HI.out.1.o
   have HTX:Hid (abI (aU9 X)++[10]++aSU (X.acts.take j)=aTB X):=hid (by rw[hta];rfl)
   rw[HTX.out]at hconv
   have HJA:=hid (⟨hj2,hta⟩:_∧_)
   clear hj2 hta hje
   by_cases h4:1024<an+2
   ·have hE:=hid (aU7 HC.out.1 HC.out.2.symm HAL.out (by rw[HL.out.2.1];exact h4))
    have h5:(1024:Int)<(j:Int)+1+1:=by have:=HJA.out.1;omega
    clear hconv
    go_wp2
    go_ret2
    rw[hE.out.1,hE.out.2]
    exact⟨rfl,HI.out.2.1⟩
   ·have hE:=hid (aVA HC.out.1 HC.out.2.symm HAL.out (by rw[HL.out.2.1];exact h4))
    have h5: ¬(1024:Int)<(j:Int)+1+1:=by have:=HJA.out.1;omega
    go_wp2
    go_ret2
    rw[hE.out.1,hE.out.2]
    exact⟨rfl,HI.out.2.1⟩
end
section
open Go.RowKit Go.Lib
theorem aVW (sec fr sd:Int) (en:Nat) (dp:Option Addr) (dn dc:Nat) (pp:Option Addr) (pn pc:Nat) (lp:Option Addr) (ln lc:Nat) (ip:Option Addr) (im ic:Nat) (ap:Option Addr) (an ac:Nat) (W:World):
  Calls Tryz.prog 13 #[.agg #[.int .i64 sec,.int .i64 fr,.int .i64 sd,.float .f64 en,.slice dp dn dc,.slice pp pn pc,.slice lp ln lc,.slice ip im ic,.slice ap an ac]] W fun r w'=>r= .returned (.agg #[.int .i64 sec,.int .i64 fr,.int .i64 sd,.float .f64 en,.slice dp dn dc,.slice pp pn pc,.slice lp ln lc,.slice ip im ic,.slice ap an ac])∧Below W.heap.size W w':=by
 obtain⟨xb,hxb⟩: ∃k,k=W.heap.size:=⟨_,rfl⟩
 obtain⟨r0,hr0⟩: ∃k,k=W.heap.size+1:=⟨_,rfl⟩
 obtain⟨w1,hw1⟩: ∃w,w=(W.alloc (.cells #[.int .i64 sec,.int .i64 fr,.int .i64 sd,.float .f64 en,.slice dp dn dc,.slice pp pn pc,.slice lp ln lc,.slice ip im ic,.slice ap an ac] 36)).alloc (.cells #[.int .i64 0,.int .i64 0,.int .i64 0,.float .f64 0,.slice none 0 0,.slice none 0 0,.slice none 0 0,.slice none 0 0,.slice none 0 0] 32):=⟨_,rfl⟩
 have hX:Blk w1 xb 36 #[.int .i64 sec,.int .i64 fr,.int .i64 sd,.float .f64 en,.slice dp dn dc,.slice pp pn pc,.slice lp ln lc,.slice ip im ic,.slice ap an ac]:=by rw[hw1,hxb];exact(Blk.new _ _ _).alloc _
 have hR:Blk w1 r0 32 #[.int .i64 0,.int .i64 0,.int .i64 0,.float .f64 0,.slice none 0 0,.slice none 0 0,.slice none 0 0,.slice none 0 0,.slice none 0 0]:=by
  have:=Blk.new (W.alloc (.cells #[.int .i64 sec,.int .i64 fr,.int .i64 sd,.float .f64 en,.slice dp dn dc,.slice pp pn pc,.slice lp ln lc,.slice ip im ic,.slice ap an ac] 36)) 32 #[.int .i64 0,.int .i64 0,.int .i64 0,.float .f64 0,.slice none 0 0,.slice none 0 0,.slice none 0 0,.slice none 0 0,.slice none 0 0]
  rw[World.size_alloc]at this
  rw[hw1,hr0]
  exact this
 have hb:Below W.heap.size W w1:=by rw[hw1];exact((Below.refl _ W).alloc (Nat.le_refl _) _).alloc (by simp) _
 obtain⟨x0,x1,x2,x3,x4,x5,x6,x7,x8⟩:=zZ hX
 obtain⟨z0,z1,z2,z3,z4,z5,z6,z7,z8⟩:=zZ hR
 obtain⟨y0,y1,y2,y3,y4,y5,y6,y7,y8,zlt⟩:=yA hR
 obtain⟨wz,hwz,hbz,hfz,-⟩:=zS hb hR (by omega) [.int .i64 sec,.int .i64 fr,.int .i64 sd,.float .f64 en,.slice dp dn dc,.slice pp pn pc,.slice lp ln lc,.slice ip im ic,.slice ap an ac] rfl
 have HW:=hid (⟨hxb,hr0,hw1⟩:_∧_∧_)
 unfold za za za za za za za za za za at hwz
 have HZ:=hid (⟨hwz,hbz,hfz⟩:_∧_∧_)
 clear hxb hr0 hw1 hX hR hb hwz hbz hfz
 go_enter Tryz.func13,Tryz.ntmps13
 go_upto_region 1 with fail
 rw[←HW.out.2.1,←HW.out.1,←HW.out.2.2]
 go_wp2
 rw[←HZ.out.1]
 obtain⟨v0,v1,v2,v3,v4,v5,v6,v7,v8⟩:=zZ HZ.out.2.1
 refine bodyPost_ret (v:= .agg #[.int .i64 sec,.int .i64 fr,.int .i64 sd,.float .f64 en,.slice dp dn dc,.slice pp pn pc,.slice lp ln lc,.slice ip im ic,.slice ap an ac]) (by simp[results,Tryz.results13,go_sem,v0,v1,v2,v3,v4,v5,v6,v7,v8]) rfl ⟨rfl,HZ.out.2.2⟩
theorem aUN {m:Mdl} (h:aS2 m=true):m.lgt:=by
 unfold aS2 at h
 simp only[Bool.and_eq_true,decide_eq_true_eq,List.all_eq_true]at h
 obtain⟨⟨h1,h2,h3,h4⟩,h5,h6⟩:=h
 exact⟨h1,h2,h3,h4,h5,h6⟩
structure LtS (x:ScV):Prop where
 n:x.ats.length≤1100
 m:aS2 x.x.m=true
 a: ∀a∈x.ats,a.keep.length≤200
theorem aUu {W:World} {x:ScV} (hx:aci W x):
  Calls Tryz.prog 11 #[.agg (scC x).toArray] W fun r w'=>(∃b,r= .returned (.bool b)∧(b=true→LtS x))∧Below W.heap.size W w':=by
 obtain⟨lt,hlt⟩: ∃p:Prop,p=LtS x:=⟨_,rfl⟩
 have HLT:Hid (x.ats.length≤1100→aS2 x.x.m=true→(∀a∈x.ats,a.keep.length≤200)→lt):=hid fun h1 h2 h3=>by rw[hlt];exact⟨h1,h2,h3⟩
 rw[←hlt]
 obtain⟨sec,fr,⟨sd,en,dp,dn,dc,dl,pp,pn,pc,ps,lp,ln,lc,ls,ip,im,ic,is⟩,ap,an,ac,ats⟩:=x
 clear hlt
 have HLI:Hid (∀W',Below W.heap.size W W'→Calls Tryz.prog 28 #[.agg #[.int .i64 sd,.float .f64 en,.slice dp dn dc,.slice pp pn pc,.slice lp ln lc,.slice ip im ic]] W' fun r w'=>r= .returned (.bool (aS2 (MdV.m ⟨sd,en,dp,dn,dc,dl,pp,pn,pc,ps,lp,ln,lc,ls,ip,im,ic,is⟩)))∧Below W'.heap.size W' w'):=hid fun W' hb=>by
  have hm1:qZ W ⟨sd,en,dp,dn,dc,dl,pp,pn,pc,ps,lp,ln,lc,ls,ip,im,ic,is⟩:=hx.m
  exact aUM (hm1.below hb)
 have han:an=ats.length:=hx.an
 have HA:Hid (∀j,j<an→ ∃(a:AcV) (g o:Nat),ap=some ⟨g,o,none⟩∧ats[j]? =some a∧a.kn=a.keep.length∧(∀W',Below W.heap.size W W'→W'.cell? ⟨g,o+j*5+2,none⟩=some (.slice a.kp a.kn a.kc))):=hid fun j hj=>by
  obtain⟨a,ha⟩: ∃a,ats[j]? =some a:=⟨_,List.getElem?_eq_getElem (by rw[←han];exact hj)⟩
  have hxa:Vw 5 acC W (.slice ap an ac) ats:=hx.a
  obtain⟨g1,o1,f1,k1⟩:=hxa.elt ha
  exact⟨a,g1,o1,f1,ha,(hx.ai a (List.mem_of_getElem? ha)).n,fun W' hb=>k1 W' hb 2 _ rfl⟩
 have HAN:=hid han
 dsimp only at HLT
 clear hx han
 obtain⟨xb,hxb⟩: ∃k,k=W.heap.size:=⟨_,rfl⟩
 obtain⟨W1,hW1⟩: ∃w,w=W.alloc (.cells #[.int .i64 sec,.int .i64 fr,.int .i64 sd,.float .f64 en,.slice dp dn dc,.slice pp pn pc,.slice lp ln lc,.slice ip im ic,.slice ap an ac] 36):=⟨_,rfl⟩
 have hB:Blk W1 xb 36 #[.int .i64 sec,.int .i64 fr,.int .i64 sd,.float .f64 en,.slice dp dn dc,.slice pp pn pc,.slice lp ln lc,.slice ip im ic,.slice ap an ac]:=by rw[hW1,hxb];exact Blk.new _ _ _
 have HB:=hid (⟨hB,(by rw[hW1];exact(Below.refl _ W).alloc (Nat.le_refl _) _:Below W.heap.size W W1),hxb,hW1⟩:_∧_∧_∧_)
 have HC:Hid (∀w,Below W1.heap.size W1 w→Blk w xb 36 #[.int .i64 sec,.int .i64 fr,.int .i64 sd,.float .f64 en,.slice dp dn dc,.slice pp pn pc,.slice lp ln lc,.slice ip im ic,.slice ap an ac]∧Below W.heap.size W w):=hid fun w hb=>⟨HB.out.1.below hb HB.out.1.lt,HB.out.2.1.trans (hb.mono HB.out.2.1.size)⟩
 obtain⟨x0,x1,x2,x3,x4,x5,x6,x7,x8⟩:=zZ hB
 clear hB hxb hW1
 show Calls _ _ #[.agg #[.int .i64 sec,.int .i64 fr,.int .i64 sd,.float .f64 en,.slice dp dn dc,.slice pp pn pc,.slice lp ln lc,.slice ip im ic,.slice ap an ac]] _ _
 by_cases hn:an≤1100
 case neg=>
  have hni:(1100:Int)<(an:Int):=by omega
  clear hn
  go_enter Tryz.func11,Tryz.ntmps11
  go_upto_region 1 with fail
  rw[←HB.out.2.2.1,←HB.out.2.2.2]
  go_wp2
  go_ret
  exact⟨⟨false,rfl,fun h=>by cases h⟩,HB.out.2.1⟩
 case pos=>
 have hni: ¬(1100:Int)<(an:Int):=by omega
 have hnz:(an:Int)≤1100:=by omega
 have HF:=hid (HLI.out W1 HB.out.2.1)
 obtain⟨lb,hlb⟩: ∃b,b=aS2 (MdV.m ⟨sd,en,dp,dn,dc,dl,pp,pn,pc,ps,lp,ln,lc,ls,ip,im,ic,is⟩):=⟨_,rfl⟩
 rw[←hlb]at HF HLT
 clear hn hlb HLI
 go_enter Tryz.func11,Tryz.ntmps11
 go_upto_region 1 with fail
 rw[←HB.out.2.2.1,←HB.out.2.2.2]
 go_wp2_with fail
 (with_reducible refine HF.out.mono ?_)
 rintro r w2 ⟨rfl,hb2⟩
 have HB2:=hid hb2
 clear hb2 HF x0 x1 x2 x3 x4 x5 x6 x7 x8
 cases lb
 case false=>
  go_wp2
  go_ret
  exact⟨⟨false,rfl,fun h=>by cases h⟩,(HC.out _ HB2.out).2⟩
 case true=>
 have x8:=(zZ (HC.out _ HB2.out).1).2.2.2.2.2.2.2.2
 go_wp2_with fail
 go_loopg [3] an (fun gg s3 wr=> ∃j:Nat,j≤an∧an-j≤gg∧s3= .int .i64 j∧wr=w2∧Hid (∀a∈ats.take j,a.keep.length≤200))
 case atStart=>exact⟨0,by omega,by omega,rfl,rfl,hid fun a h=>by simp at h⟩
 case round=>
  obtain⟨j,hj,hgg,rfl,rfl,HI⟩:=hrel
  by_cases hje:j<an
  ·obtain⟨a,g,oo,rfl,ha,hka,hc⟩:=HA.out j hje
   have hji:(j:Int)<(an:Int):=by omega
   have c0:=hc _ (HC.out _ HB2.out).2
   have HJ:=hid (⟨hje,ha,hka⟩:_∧_∧_)
   by_cases hk:a.kn≤200
   ·have hk2: ¬(200:Int)<(a.kn:Int):=by omega
    have HN:Hid (∀a∈ats.take (j+1),a.keep.length≤200):=hid fun z hz=>by
     rw[List.take_add_one,HJ.out.2.1,List.mem_append]at hz
     rcases hz with hz|hz
     ·exact HI.out z hz
     ·simp only[Option.toList_some,List.mem_singleton]at hz
      rw[hz,←HJ.out.2.2]
      exact hk
    clear ha hka hc hk hje
    go_wp2
    go_roundg (an- (j+1))
    case measure=>have:=HJ.out.1;omega
    case rel=>exact⟨j+1,by have:=HJ.out.1;omega,by omega,by go_num,rfl,HN⟩
   ·have hk2:(200:Int)<(a.kn:Int):=by omega
    clear ha hka hc hk hje
    go_wp2
    go_ret
    exact⟨⟨false,rfl,fun h=>by cases h⟩,(HC.out _ HB2.out).2⟩
  ·have hji: ¬(j:Int)<(an:Int):=by omega
   have HZ:Hid lt:=hid (HLT.out (by have:=HAN.out;omega) (by trivial) (by
    have:=HI.out
    rw[List.take_of_length_le (by rw[←HAN.out];omega)]at this
    exact this))
   go_wp2
   go_ret
   exact⟨.inr ⟨rfl,HZ.out⟩,(HC.out _ HB2.out).2⟩
structure NmS (x:ScV):Prop where
 m:x.x.m.ok
 s:okZ x.sec
 f:okZ x.fr
 a: ∀a∈x.ats,okZ a.n∧okZ a.torn∧okZ a.bytes
theorem aV5 {W:World} {x:ScV} (hx:aci W x) (hn:NmS x) (hl:LtS x):ScW W x:=⟨hx,⟨hn.m,aUN hl.m⟩,fun a ha=>⟨by have:=hl.a a ha;omega,hn.a a ha⟩,hl.n,hn.s,hn.f⟩
end
section
open Go.ChangeShapes Go.WideShapes Go.ChangeAt Go.RowKit Go.Deep
theorem aVD:Tryz.prog.cellsOf 4=1:=by kernel_rfl
theorem aVd:Tryz.prog.cellsOf 49=1:=by kernel_rfl
theorem aUf:Tryz.prog.cellsOf 51=3:=by kernel_rfl
theorem aT7:Tryz.prog.cellsOf 53=5:=by kernel_rfl
theorem aUz:Tryz.prog.cellsOf 30=1:=by kernel_rfl
theorem aTT:Tryz.prog.cellsOf 36=9:=by kernel_rfl
section
variable {H:Type} {enc:TypeId×Value→H} {w:World} {spare:Nat→Bool} {held:Bool} {fuel:Nat} {cs:List Value} {x:DataW H×List MemPlace}
theorem aVo (h:DataW.trod enc Tryz.prog w 0 spare held fuel 4 cs=some x): ∃z:Bool,cs=boC z∧True:=by
 cases fuel with
 |zero=>cases h
 | succ n=>
  rcases cs with _| ⟨c,_| ⟨c2,t⟩⟩
  ·simp[DataW.trod,Tryz.underlying4]at h
  ·obtain⟨z,rfl⟩:=aUL Tryz.underlying4 h
   exact⟨z,rfl,trivial⟩
  ·cases c<;>simp[DataW.trod,Tryz.underlying4]at h
theorem aVn (h:DataW.trod enc Tryz.prog w 0 spare held fuel 53 cs=some x): ∃a:AcV,cs=acC a∧acd w a∧okZ a.n∧okZ a.torn∧okZ a.bytes:=by
 cases fuel with
 |zero=>cases h
 | succ n=>
  obtain⟨hl,hf⟩:=aSM Tryz.underlying53 h
  rw[aT7]at hl
  match cs,hl with
  | [c0,c1,c2,c3,c4],_=>
   simp[aSR,aUf]at hf
   obtain⟨⟨_,_,h0⟩,⟨_,_,h1⟩,⟨_,_,h2⟩⟩:=hf
   obtain⟨z0,rfl,w0⟩:=qp Tryz.underlying3 h0
   obtain⟨z1,rfl,w1⟩:=qp Tryz.underlying3 h1
   cases n with
   |zero=>cases h2
   |succ n=>
    obtain⟨_,hf2⟩:=aSM Tryz.underlying51 h2
    simp[aSR,aVd]at hf2
    obtain⟨⟨_,_,k0⟩,⟨_,_,k1⟩,⟨_,_,k2⟩⟩:=hf2
    obtain⟨p,m,c,l,e,a1,a2,a3⟩:=ql (R:=fun _:Bool=>True) false Tryz.underlying49 aVD (by decide) XW (fun _ _ _ h=>aVo h) k0
    obtain⟨z3,rfl,w3⟩:=qp Tryz.underlying3 k1
    obtain⟨z4,rfl,w4⟩:=qp Tryz.underlying3 k2
    injection e with e _
    subst e
    exact⟨⟨z0,z1,p,m,c,l,z3,z4⟩,rfl,⟨a1,a2⟩,aSS w1,aSS w3,aSS w4⟩
theorem aTl (h:DataW.trod enc Tryz.prog w 0 spare held fuel 36 cs=some x): ∃s:ScV,cs=scC s∧aci w s∧NmS s:=by
 cases fuel with
 |zero=>cases h
 | succ n=>
  obtain⟨hl,hf⟩:=aSM Tryz.underlying36 h
  rw[aTT]at hl
  match cs,hl with
  | [c0,c1,c2,c3,c4,c5,c6,c7,c8],_=>
   simp[aSR,aTq,aUz]at hf
   obtain⟨⟨_,_,h0⟩,⟨_,_,h1⟩,⟨_,_,h2⟩,⟨_,_,h3⟩⟩:=hf
   obtain⟨z0,rfl,w0⟩:=qp Tryz.underlying3 h0
   obtain⟨z1,rfl,w1⟩:=qp Tryz.underlying3 h1
   obtain⟨m,he,hm,hk⟩:=aUq h2
   obtain⟨p,k,c,l,e,a1,a2,a3⟩:=ql (R:=fun a:AcV=>acd w a∧okZ a.n∧okZ a.torn∧okZ a.bytes) ⟨0,0,none,0,0,[],0,0⟩ Tryz.underlying30 aT7 (by decide) J0 (fun _ _ _ h=>aVn h) h3
   injection e with e _
   subst e
   refine⟨⟨z0,z1,m,p,k,c,l⟩,?_,⟨hm,a2,a1,fun a ha=>(a3 a ha).1⟩,⟨?_,aSS w0,aSS w1,fun a ha=>(a3 a ha).2⟩⟩
   ·show _=Value.int .i64 z0:: .int .i64 z1::(mdC m++[.slice p k c])
    rw[←he]
    rfl
   ·refine⟨hk.seed,hk.en,hk.dl,fun p hp y hy=>?_,fun p hp=>?_,hk.is⟩
    ·obtain⟨q,hq,rfl⟩:=List.mem_map.1 hp
     exact hk.ps q hq y hy
    ·obtain⟨q,hq,rfl⟩:=List.mem_map.1 hp
     exact hk.ls q hq
end
end
section
open Go.RowKit Go.Lib
theorem aVf (k:Nat): ∀n,n<10^(k+1)→(Zl n).length≤k+1:=by
 induction k with
 |zero=>
  intro n h
  rw[V8 (by simpa using h)]
  simp
 | succ k ih=>
  intro n h
  by_cases h1:n<10
  ·rw[V8 h1];simp
  ·rw[agw h1,List.length_append]
   have:=ih (n / 10) (Nat.div_lt_of_lt_mul (by rw[Nat.pow_succ]at h;omega))
   simp only[List.length_cons,List.length_nil]
   omega
theorem aTh {x:Int} (h:YH x=true):(Xb x).length≤13:=by
 obtain⟨h1,h2,h3⟩:=aam h
 rw[h1]
 exact aVf 12 _ (Nat.lt_of_le_of_lt h2 (by decide))
theorem aTc {a:Ac} (h:okA a=true):(abI (aos a)).length≤110:=by
 have k1:=aUI a.kind
 by_cases h3:a.kind=3
 ·rw[aos,if_pos h3]
  simp only[abI]
  omega
 ·by_cases h7:a.kind=7
  ·obtain⟨h1,h2,h4⟩:=aR2 h7 h
   rw[aos,if_neg h3,if_pos h7]
   have q1:=af2 a.keep
   have q2:=aTh h1
   have q3:=aTh h2
   simp only[abI,List.length_append,List.length_cons]
   omega
  ·rw[aos,if_neg h3,if_neg h7]
   have q1:=aTh (aR4 h3 h7 h)
   simp only[abI,List.length_append,List.length_cons]
   omega
theorem aTM {l:List Ac} (h: ∀a∈l,okA a=true):(aSU l).length≤111*l.length:=by
 unfold aSU
 induction l with
 |nil=>simp
 |cons a l ih=>
  have q:=ih fun x hx=>h x (List.mem_cons_of_mem _ hx)
  have q1:=aTc (h a (List.mem_cons_self ..))
  rw[←aTf (h a (List.mem_cons_self ..))]at q1
  rw[List.flatMap_cons,List.length_append,List.length_append,List.length_cons,List.length_cons]
  simp only[List.length_nil]
  omega
theorem aUn {m:Mdl} (h:yM m=true):(aTe m).length≤8000:=by
 unfold yM X1 at h
 simp only[Bool.and_eq_true,decide_eq_true_eq,List.all_eq_true]at h
 obtain⟨⟨hc,_⟩,_,hp,hl,_⟩:=h
 have h1:=jz (f:=agP) (k:=8) (n:=8) (l:=m.dl) (by omega) (fun x _=>by rw[qw];omega)
 have h2:=jz (f:=abK aRU) (k:=1544) (n:=4) (l:=m.pr) (by omega) (fun p hq=>jz (k:=32) (n:=48) (aUc (hp p hq)) (fun x _=>by rw[aTK];omega))
 have h3:=jz (f:=aUU) (k:=80) (n:=6) (l:=m.lp) (by omega) (fun x hx=>by
  have hz:=hl x hx
  unfold lpB at hz
  simp only[decide_eq_true_eq]at hz
  have:=jz (f:=X6) (k:=8) (n:=8) (l:=x.2) hz.2.2 (fun y _=>by rw[aAY];omega)
  unfold aUU
  rw[List.length_append,aAY]
  omega)
 have h4:=jz (f:=aRT) (k:=24) (n:=16) (l:=m.ini) (by omega) (fun x _=>by rw[aTj];omega)
 unfold aTe
 simp only[List.length_append,aAY,qw]
 omega
theorem aTv {s:Scr} (h4: ∀a∈s.acts,okA a=true):zv 10 (aTB s)=abI (aSW s)::(s.acts.map kH++[[]]):=by
 unfold aTB Kc
 rw[aVB]
 show zv 10 (abI (aSW s)++10::_)=_
 rw[abU (aTk (aS3 s)),aTt h4]
theorem aTF {s:Scr} (h:qc s=0):(qk s).length≤250000∧(zv 10 (qk s)).length≤100000∧ ∀l∈zv 10 (qk s),l.length≤45000:=by
 obtain⟨h1,h2,h3,h4,h5⟩:=aS5 h
 have hw:qk s=aTB s:=by unfold qk;rw[if_pos h]
 have q1:=aTh h2
 have q2:=aTh h3
 have q3:=aUa (aTe s.m)
 have q4:=aUn h1
 have q5:=aTM h4
 have hh:(abI (aSW s)).length≤20000:=by
  unfold aSW
  simp only[abI,List.length_append,List.length_cons,List.length_nil]
  omega
 rw[hw]
 refine⟨?_,?_,?_⟩
 ·have e:aTB s=abI (aSW s)++[10]++aSU s.acts:=rfl
  rw[e,List.length_append,List.length_append]
  simp only[List.length_cons,List.length_nil]
  omega
 ·rw[aTv h4]
  simp only[List.length_cons,List.length_append,List.length_map,List.length_nil]
  omega
 ·rw[aTv h4]
  intro l hl
  rcases List.mem_cons.1 hl with rfl|hl
  ·omega
  ·rcases List.mem_append.1 hl with hl|hl
   ·obtain⟨a,ha,rfl⟩:=List.mem_map.1 hl
    have:=aTc (h4 a ha)
    rw[←aTf (h4 a ha)]at this
    omega
   ·rw[List.mem_singleton.1 hl]
    exact Nat.zero_le _
def Ac.fine (a:Ac):Prop:=a.keep.length≤64∧okZ a.n∧okZ a.torn∧okZ a.bytes
theorem aTW {n:Nat} (h:n≤1099511627776):okZ (n:Int):=⟨by omega,by omega⟩
theorem aUp:okZ 0:=⟨by omega,by omega⟩
theorem aUy {ws:List Bs} {a:Ac} (h:xD ws=some a):a.fine:=by
 unfold xD at h
 simp only[]at h
 generalize zh (ws.getD 0 [])=k at h
 split at h
 ·cases h
 ·split at h
  ·split at h
   ·injection h with h;subst h;exact⟨Nat.zero_le _,aUp,aUp,aUp⟩
   ·cases h
  ·split at h
   ·split at h
    ·split at h
     ·next e1 e2 e3=>
      injection h with h;subst h
      exact⟨ab8 e1,aUp,aTW (aBz e2),aTW (aBz e3)⟩
     ·cases h
    ·cases h
   ·split at h
    ·split at h
     ·next e1=>
      injection h with h;subst h
      exact⟨Nat.zero_le _,aTW (aBz e1),aUp,aUp⟩
     ·cases h
    ·cases h
theorem aVg {n:Nat} {l:List Bs} : ∀ {i:Nat} {st:Option Scr} {x:Scr},(∀s,st=some s→ ∀a∈s.acts,a.fine)→goL n i st l= .ok x→ ∀a∈x.acts,a.fine:=by
 induction l with
 |nil=>
  intro i st x hs h
  cases st with
  |none=>simp[goL]at h
  |some s=>unfold goL at h;injection h with h;subst h;exact hs _ rfl
 | cons p r ih=>
  intro i st x hs h
  rw[X8]at h
  split at h
  ·exact ih hs h
  ·split at h
   ·cases h
   ·cases st with
    |none=>
     simp only[]at h
     split at h
     ·cases h
     ·next e=>exact ih (fun s e' a ha=>by injection e' with e';subst e';rw[abx e]at ha;cases ha) h
    | some s=>
     simp only[]at h
     split at h
     ·cases h
     ·next e=>
      refine ih (fun s' e' a ha=>?_) h
      injection e' with e'
      subst e'
      rcases List.mem_append.1 ha with ha|ha
      ·exact hs s rfl a ha
      ·rw[List.mem_singleton.1 ha]
       exact aUy e
theorem aUr {t:Bs} {x:Scr} (h:qW t= .ok x): ∀a∈x.acts,a.fine:=by
 unfold qW at h
 split at h
 ·cases h
 ·exact aVg (fun s e=>by cases e) h
theorem aVs {W:World} {t:Bs} {x:ScV} (hx:aci W x) (h:qW t= .ok x.s):ScW W x:=by
 have hg:=abS h
 have hf:=aUr h
 have hl:=ahu h
 have e:x.s.acts=x.ats.map AcV.ac:=rfl
 rw[e]at hf
 rw[e,List.length_map]at hl
 refine⟨hx,⟨hg.gm,agd hg.gc⟩,fun a ha=>?_,by omega,Qh hg.gs,Qh hg.gf⟩
 obtain⟨k1,k2,k3,k4⟩:=hf a.ac (List.mem_map.2 ⟨a,ha,rfl⟩)
 exact⟨by have:a.keep.length≤64:=k1;omega,k2,k3,k4⟩
theorem aVR {t:Bs} (ht:t.length≤20000) (W:World):Calls Tryz.prog 7 #[.string (S t)] W fun r w'=> ∃(x:ScV) (i e:Int),r= .returned (.tuple #[.agg (scC x).toArray,.int .i64 i,.int .i64 e])∧aci w' x∧(e=0→ScW w' x∧x.s.m.ok∧(qc x.s=0∨qc x.s=11)∧ScS x∧ ∀a∈x.ats,okA a.ac=true)∧Below W.heap.size W w':=by
 refine(ab5 t (by omega) W).mono ?_
 rintro r w' ⟨x,i,e,hr,hp,hx,hb⟩
 refine⟨x,i,e,hr,hx,fun he=>?_,hb⟩
 have hs:=aaQ hx hp
 cases h:qW t with
 |full=>rw[h]at hp;have:=hp.2.1;omega
 |line n=>rw[h]at hp;have:=hp.2.1;omega
 |ok z=>
  rw[h]at hp
  have hz:z=x.s:=hp.2.2.symm
  rw[hz]at h
  have hg:=abS h
  exact⟨aVs hx h,hg.gm,aT4 hg,hs.1,hs.2⟩
theorem aTZ {s:Scr} (hm:s.m.ok) (h:qc s=0) (W:World):Calls Tryz.prog 7 #[.string (S (qk s))] W fun r w'=> ∃y:ScV,r= .returned (.tuple #[.agg (scC y).toArray,.int .i64 0,.int .i64 0])∧aci w' y∧ahW y.s s=true∧ahW s y.s=true∧ScS y∧(∀a∈y.ats,okA a.ac=true)∧Below W.heap.size W w':=by
 obtain⟨k1,k2,k3⟩:=aTF h
 refine(ab6 _ k1 k2 k3 W).mono ?_
 rintro r w' ⟨x,i,e,hr,hp,hx,hb⟩
 obtain⟨z,hz,s1,s2⟩:=aUs hm h
 have hs:=aaQ hx hp
 rw[hz]at hp
 obtain⟨e1,e2,e3⟩:=hp
 subst e1 e2
 rw[←e3]at s1 s2
 exact⟨x,hr,hx,s1,s2,hs.1,hs.2,hb⟩
end
end Go.Proofs.YtcdiljebkpikbaaGreat
