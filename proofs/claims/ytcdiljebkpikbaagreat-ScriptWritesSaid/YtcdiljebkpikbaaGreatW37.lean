/- Parts of the proof: Sey Sfb Ybw. -/
import Derived.Laws.IdiomCopy
import Derived.Laws.AppendOwn
import Derived.Lib.ConvBytes
import Derived.Lib.SmallJoins
import Derived.Deep.AppendSrc
import Derived.Test.YtcdiljebkpikbaaGreatS10
import Derived.Test.YtcdiljebkpikbaaGreatS11
import Derived.Test.YtcdiljebkpikbaaGreatW31
import Derived.Test.YtcdiljebkpikbaaGreatW32
import Derived.Test.YtcdiljebkpikbaaGreatW33
import Derived.Test.YtcdiljebkpikbaaGreatW35
import Derived.Test.YtcdiljebkpikbaaGreatW36
set_option linter.all false
set_option maxRecDepth 100000
set_option maxHeartbeats 64000000
namespace Go.Proofs.YtcdiljebkpikbaaGreat
section
open Go.RowKit Go.Lib
theorem aVq {w:World} {g:Nat} {T:TypeId} {a b c d e f i j k:Value} (h:Blk w g T #[a,b,c,d,e,f,i,j,k]):w.cell? ⟨g,0,none⟩=some a∧w.cell? ⟨g,1,none⟩=some b:=⟨(zZ h).1,(zZ h).2.1⟩
theorem aVd:({ data:= #[119,111,114,108,100] } :ByteArray)=S [119,111,114,108,100]:=rfl
theorem WtI.below {B wb:Nat} {w w':World} {p:Option Addr} {n c:Nat} {b:Bs} {k:Int} (h:WtI B wb w p n c b k) (hb:Below w.heap.size w w'):WtI B wb w' p n c b k:=⟨h.bk.below hb h.bk.lt,h.nl,h.o.below hb,h.lo⟩
structure ScW (W:World) (x:ScV):Prop where
 i:aci W x
 m:x.x.nice
 a: ∀a∈x.ats,a.fine
 n:x.ats.length≤1100
 s:okZ x.sec
 f:okZ x.fr
theorem ScW.below {W W':World} {x:ScV} (h:ScW W x) (hb:Below W.heap.size W W'):ScW W' x:=⟨h.i.below hb,h.m,h.a,h.n,h.s,h.f⟩
theorem aTQ {W:World} {x:ScV} (hx:ScW W x):
  Calls Tryz.prog 12 #[.agg (scC x).toArray] W fun r w'=>r= .returned (.tuple #[.string (S (jz x.s)),.int .i64 (xx x.s)])∧Below W.heap.size W w':=by
 obtain⟨X,hX⟩: ∃X,X=x.s:=⟨_,rfl⟩
 rw[←hX]
 obtain⟨sec,fr,⟨sd,en,dp,dn,dc,dl,pp,pn,pc,ps,lp,ln,lc,ls,ip,im,ic,is⟩,ap,an,ac,ats⟩:=x
 have HPU:Hid (∀W',Below W.heap.size W W'→Calls Tryz.prog 29 #[.agg #[.int .i64 sd,.float .f64 en,.slice dp dn dc,.slice pp pn pc,.slice lp ln lc,.slice ip im ic]] W' fun r w'=>r= .returned (.tuple #[.string (S (if yM X.m=true then aS7 X.m else [])),.int .i64 (if yM X.m=true then 0 else 15)])∧Below W'.heap.size W' w'):=hid fun W' hb=>by
  have hm1:qZ W ⟨sd,en,dp,dn,dc,dl,pp,pn,pc,ps,lp,ln,lc,ls,ip,im,ic,is⟩:=hx.i.m
  have hm2:MdV.nice ⟨sd,en,dp,dn,dc,dl,pp,pn,pc,ps,lp,ln,lc,ls,ip,im,ic,is⟩:=hx.m
  have h0:=aUv (hm1.below hb) hm2
  have e:X.m=MdV.m ⟨sd,en,dp,dn,dc,dl,pp,pn,pc,ps,lp,ln,lc,ls,ip,im,ic,is⟩:=by rw[hX];rfl
  rw[e]
  exact h0
 have HD1:Hid (∀w,Calls Tryz.prog 32 #[.int .i64 sec] w (DgP w (Xb X.sec))):=hid fun w=>by rw[hX];exact kb hx.s w
 have HD2:Hid (∀w,Calls Tryz.prog 32 #[.int .i64 fr] w (DgP w (Xb X.fr))):=hid fun w=>by rw[hX];exact kb hx.f w
 have HWI:Hid (∀w g,Blk w g 3 #[.int .i64 sec,.int .i64 fr]→Calls Tryz.prog 30 #[.slice (some ⟨g,0,none⟩) 2 2] w fun e w'=>e= .returned (.bool (YH X.sec&&YH X.fr))∧w=w'):=hid fun w g hb=>by
  have:=aSV [sec,fr] (some ⟨g,0,none⟩) 2 2 rfl (by simp) (by simp) w (Vw.of_own YG (aTf (B:=0) (l:=[sec,fr]) YG hb (Nat.zero_le _) (by simp)) rfl)
  rw[hX]
  simpa[ScV.s]using this
 have HL:Hid (X.m.lgt∧X.acts.length=an∧an≤1100):=hid ⟨by rw[hX];exact hx.m.lgt,by rw[hX];show(ats.map AcV.ac).length=_;rw[List.length_map];exact hx.i.an.symm,by have:=hx.n;have h2:an=ats.length:=hx.i.an;have:ats.length≤1100:=hx.n;omega⟩
 have HA:Hid (∀j,j<an→ ∃(a:AcV) (g o:Nat),ap=some ⟨g,o,none⟩∧X.acts[j]? =some a.ac∧a.fine∧(∀W',Below W.heap.size W W'→(W'.cell? ⟨g,o+j*5,none⟩=some (.int .i64 a.kind)∧W'.cell? ⟨g,o+j*5+1,none⟩=some (.int .i64 a.n)∧W'.cell? ⟨g,o+j*5+2,none⟩=some (.slice a.kp a.kn a.kc)∧W'.cell? ⟨g,o+j*5+3,none⟩=some (.int .i64 a.torn)∧W'.cell? ⟨g,o+j*5+4,none⟩=some (.int .i64 a.bytes))∧acd W' a)):=hid fun j hj=>by
  have han:an=ats.length:=hx.i.an
  obtain⟨a,ha⟩: ∃a,ats[j]? =some a:=⟨_,List.getElem?_eq_getElem (by rw[←han];exact hj)⟩
  have hxa:Vw 5 acC W (.slice ap an ac) ats:=hx.i.a
  obtain⟨g1,o1,f1,k1⟩:=hxa.elt ha
  have ma:=List.mem_of_getElem? ha
  exact⟨a,g1,o1,f1,by rw[hX];show(ats.map AcV.ac)[j]? =_;rw[List.getElem?_map,ha];rfl,hx.a a ma,fun W' hb=>⟨⟨k1 W' hb 0 _ rfl,k1 W' hb 1 _ rfl,k1 W' hb 2 _ rfl,k1 W' hb 3 _ rfl,k1 W' hb 4 _ rfl⟩,(hx.i.ai a ma).below hb⟩⟩
 clear hx hX
 obtain⟨xb,hxb⟩: ∃k,k=W.heap.size:=⟨_,rfl⟩
 obtain⟨W1,hW1⟩: ∃w,w=W.alloc (.cells #[.int .i64 sec,.int .i64 fr,.int .i64 sd,.float .f64 en,.slice dp dn dc,.slice pp pn pc,.slice lp ln lc,.slice ip im ic,.slice ap an ac] 32):=⟨_,rfl⟩
 have hB:Blk W1 xb 32 #[.int .i64 sec,.int .i64 fr,.int .i64 sd,.float .f64 en,.slice dp dn dc,.slice pp pn pc,.slice lp ln lc,.slice ip im ic,.slice ap an ac]:=by rw[hW1,hxb];exact Blk.new _ _ _
 have HB:=hid (⟨hB,(by rw[hW1];exact(Below.refl _ W).alloc (Nat.le_refl _) _:Below W.heap.size W W1),hxb,hW1⟩:_∧_∧_∧_)
 have HF:=hid (HPU.out W1 HB.out.2.1)
 obtain⟨x0,x1,x2,x3,x4,x5,x6,x7,x8⟩:=zZ hB
 clear hB hxb hW1 HPU
 show Calls _ _ #[.agg #[.int .i64 sec,.int .i64 fr,.int .i64 sd,.float .f64 en,.slice dp dn dc,.slice pp pn pc,.slice lp ln lc,.slice ip im ic,.slice ap an ac]] _ _
 cases hc:yM X.m
 case false=>
  rw[hc]at HF
  simp only[Bool.false_eq_true,if_false]at HF
  rw[(aSP hc).1,(aSP hc).2]
  clear hc HA HL HD1 HD2 HWI
  go_enter Tryz.func12,Tryz.ntmps12
  go_upto_region 1 with fail
  rw[←HB.out.2.2.1,←HB.out.2.2.2]
  go_wp2_with fail
  (with_reducible refine HF.out.mono ?_)
  rintro r w2 ⟨rfl,hb2⟩
  have HB2:=hid (HB.out.2.1.trans (hb2.mono HB.out.2.1.size))
  clear hb2 HF
  go_wp2
  go_ret2
  exact⟨rfl,HB2.out⟩
 case true=>
 rw[hc]at HF
 simp only[if_true]at HF
 obtain⟨mb,hmb⟩: ∃b,b=(YH X.sec&&YH X.fr):=⟨_,rfl⟩
 rw[←hmb]at HWI
 have HWE:Hid (xx X=2∧jz X=[]∨True):=hid (.inr trivial)
 have HC:=hid (⟨hc,hmb⟩:_∧_)
 have HLM:=hid (aSN HL.out.1)
 have HHX:Hid (∀w,Calls Tryz.prog 33 #[.string (S (aS7 X.m))] w (DgP w (aTr (aS7 X.m)))):=hid fun w=>aUW _ HLM.out w
 obtain⟨lm,hlm⟩: ∃l,l=aS7 X.m:=⟨_,rfl⟩
 rw[←hlm]at HF HHX
 have HLQ:=hid hlm
 clear hc hmb hlm
 go_enter Tryz.func12,Tryz.ntmps12
 go_upto_region 1 with fail
 rw[←HB.out.2.2.1,←HB.out.2.2.2]
 go_wp2_with fail
 (with_reducible refine HF.out.mono ?_)
 rintro r w2 ⟨rfl,hb2⟩
 have HB2:=hid (⟨HB.out.1.below hb2 HB.out.1.lt,HB.out.2.1.trans (hb2.mono HB.out.2.1.size)⟩:_∧_)
 clear hb2 HF x0 x1 x2 x3 x4 x5 x6 x7 x8
 obtain⟨x0,x1,x2,x3,x4,x5,x6,x7,x8⟩:=zZ HB2.out.1
 obtain⟨gi,hgi⟩: ∃k,k=w2.heap.size:=⟨_,rfl⟩
 obtain⟨w3,hw3⟩: ∃w,w=w2.alloc (.cells #[.int .i64 sec,.int .i64 fr] 3):=⟨_,rfl⟩
 have HG:=hid (HWI.out w3 gi (by rw[hw3,hgi];exact Blk.new _ _ _))
 have hb3:Below w2.heap.size w2 w3:=by rw[hw3];exact(Below.refl _ _).alloc (Nat.le_refl _) _
 have HB3:=hid (⟨HB2.out.1.below hb3 HB2.out.1.lt,HB2.out.2.trans (hb3.mono HB2.out.2.size)⟩:_∧_)
 have HW3:=hid (⟨hgi,hw3⟩:_∧_)
 clear hgi hw3 hb3 HWI
 go_wp2_with fail
 rw[←HW3.out.1,←HW3.out.2]
 (with_reducible refine HG.out.mono ?_)
 rintro r w4 ⟨rfl,rfl⟩
 clear HG HW3 x0 x1 x2 x3 x4 x5 x6 x7 x8
 obtain⟨x0,x1,x2,x3,x4,x5,x6,x7,x8⟩:=zZ HB3.out.1
 cases mb
 case false=>
  go_wp2
  go_ret2
  have hE:=aSQ HC.out.1 (.inl HC.out.2.symm)
  rw[hE.1,hE.2]
  exact⟨rfl,HB3.out.2⟩
 case true=>
 obtain⟨wb,hwb⟩: ∃k,k=w3.heap.size:=⟨_,rfl⟩
 obtain⟨w4,hw4⟩: ∃w,w=w3.alloc (.cells #[.slice none 0 0,.int .i64 0] 75):=⟨_,rfl⟩
 have hK:Blk w4 wb 75 #[.slice none 0 0,.int .i64 0]:=by rw[hw4,hwb];exact Blk.new _ _ _
 have hb4:Below w3.heap.size w3 w4:=by rw[hw4];exact(Below.refl _ _).alloc (Nat.le_refl _) _
 have HB4:=hid (⟨HB3.out.1.below hb4 HB3.out.1.lt,HB3.out.2.trans (hb4.mono HB3.out.2.size)⟩:_∧_)
 have HWT:Hid (WtI W.heap.size wb w4 none 0 0 [] 0):=hid ⟨hK,rfl,OB.nil _ _,by rw[hwb];exact HB3.out.2.size⟩
 have HW4:=hid (⟨hwb,hw4⟩:_∧_)
 clear hwb hw4 hK hb4 x0 x1 x2 x3 x4 x5 x6 x7 x8
 go_upto_region 7 with fail
 rw[←HW4.out.1,←HW4.out.2]
 have HM:=hid (Bool.and_eq_true_iff.1 HC.out.2.symm)
 have HLE:=hid (aTA HL.out.1 HM.out.1 HM.out.2)
 have HHW:Hid (aTJ X=[[119,111,114,108,100],Xb X.sec,Xb X.fr,aTr lm]):=hid (by rw[HLQ.out];rfl)
 obtain⟨s1,hs1⟩: ∃s,s=Xb X.sec:=⟨_,rfl⟩
 obtain⟨s2,hs2⟩: ∃s,s=Xb X.fr:=⟨_,rfl⟩
 obtain⟨s3,hs3⟩: ∃s,s=aTr lm:=⟨_,rfl⟩
 rw[←hs1]at HD1 HHW
 rw[←hs2]at HD2 HHW
 rw[←hs3]at HHX HHW
 clear hs1 hs2 hs3
 obtain⟨x0,x1,x2,x3,x4,x5,x6,x7,x8⟩:=zZ HB4.out.1
 refine zB (fun W'=>W'.cell? ⟨xb,0,none⟩=some (.int .i64 sec)∧W'.cell? ⟨xb,1,none⟩=some (.int .i64 fr)) 10 (by kernel_rfl) ⟨x0,x1⟩ (fun hHeld=>?_)
 have HX:=hid (Below.refl w4.heap.size w4).drew
 clear x0 x1 x2 x3 x4 x5 x6 x7 x8
 refine eT 0 hHeld ?_;(try simp only[Act.put,sEa,sEb,sEc]);refine eT 1 hHeld ?_;(try simp only[Act.put,sEa,sEb,sEc]);refine eT 2 hHeld ?_;(try simp only[Act.put,sEa,sEb,sEc]);refine eT 4 hHeld ?_;(try simp only[Act.put,sEa,sEb,sEc]);refine eT 5 hHeld ?_;(try simp only[Act.put,sEa,sEb,sEc]);refine eT 7 hHeld ?_;(try simp only[Act.put,sEa,sEb,sEc])
 refine eR 3 (fun K hK=>?_)
 go_simp
 (with_reducible refine(HD1.out _).mono ?_)
 rintro r v3 ⟨rfl,hb⟩
 have HX:=hid (HX.out.trans (hb.mono HX.out.size))
 clear hb
 refine hK.out _ _ (aVq (HB4.out.1.below HX.out HB4.out.1.lt)) (fun hHeld=>?_)
 clear hK K
 (try simp only[Act.put,sEa,sEb,sEc])
 refine eR 6 (fun K hK=>?_)
 go_simp
 (with_reducible refine(HD2.out _).mono ?_)
 rintro r v6 ⟨rfl,hb⟩
 have HX:=hid (HX.out.trans (hb.mono HX.out.size))
 clear hb
 refine hK.out _ _ (aVq (HB4.out.1.below HX.out HB4.out.1.lt)) (fun hHeld=>?_)
 clear hK K
 (try simp only[Act.put,sEa,sEb,sEc])
 refine eR 8 (fun K hK=>?_)
 go_simp
 (with_reducible refine(HHX.out _).mono ?_)
 rintro r v8 ⟨rfl,hb⟩
 have HX:=hid (HX.out.trans (hb.mono HX.out.size))
 clear hb
 refine hK.out _ _ (aVq (HB4.out.1.below HX.out HB4.out.1.lt)) (fun hHeld=>?_)
 clear hK K
 (try simp only[Act.put,sEa,sEb,sEc])
 refine eR 9 (fun K hK=>?_)
 go_simp
 obtain⟨v5,hw⟩: ∃w,w=World.alloc v8 (.cells #[.string (S [119,111,114,108,100]),.string (S s1),.string (S s2),.string (S s3)] 9):=⟨_,rfl⟩
 have H6:Hid (Blk v5 (World.heap v8).size 9 #[.string (S [119,111,114,108,100]),.string (S s1),.string (S s2),.string (S s3)]):=hid (by rw[hw];exact Blk.new _ _ _)
 have hb:Below (World.heap v8).size v8 v5:=by rw[hw];exact(Below.refl _ _).alloc (Nat.le_refl _) _
 change Shut _ at hK
 rw[aVd,←hw]
 have HX:=hid (HX.out.trans (hb.mono HX.out.size))
 clear hb hw
 refine hK.out _ _ (aVq (HB4.out.1.below HX.out HB4.out.1.lt)) (fun hHeld=>?_)
 clear hK K
 (try simp only[Act.put,sEa,sEb,sEc])
 refine eL (fun K hK=>?_)
 go_simp
 have HP:=hid (aTD (ws:=aTJ X) (HWT.out.below HX.out) (Nat.le_trans HB4.out.2.size HX.out.size) (by rw[HHW.out];exact H6.out) (by rw[HHW.out];simp) (by have:=HLE.out;simpa using(by omega:(abI (aTJ X)).length≤900000)) (by decide))
 have HN:Hid ((aTJ X).length=4):=hid (by rw[HHW.out];rfl)
 rw[HN.out]at HP
 (with_reducible refine HP.out.mono ?_)
 rintro r w6 ⟨rfl,⟨p6,n6,c6,hw6⟩,hl6⟩
 refine hK.out _ _ ?_
 clear hK K
 (try simp only[Act.put,sEa,sEb,sEc])
 have HB6:=hid (HB4.out.2.trans ((HX.out.mono HB4.out.2.size).trans hl6.b))
 have HI0:Hid (WtI W.heap.size wb w6 p6 n6 c6 (abI (aTJ X)++[10]++xp (X.acts.take 0)) ((0:Nat)+1)∧Below W.heap.size W w6∧ ∀a∈X.acts.take 0,okA a=true):=hid ⟨by simpa[xp]using hw6,HB6.out,fun a h=>by simp at h⟩
 have hc3:w6.cell? ⟨xb,8,none⟩=some (.slice ap an ac):=(zZ (hl6.t _ _ _ (by decide) (by decide) (HB4.out.1.below HX.out HB4.out.1.lt))).2.2.2.2.2.2.2.2
 clear HP hw6 hl6 HWT HX H6 HD1 HD2 HHX
 have hnl:(an:Int)≤1100:=by have:=HL.out.2.2;omega
 go_wp2_with fail
 go_loopg [45] an (fun gg s45 wr=> ∃(j:Nat) (p:Option Addr) (n c:Nat),j≤an∧an-j≤gg∧s45= .int .i64 j∧Hid (WtI W.heap.size wb wr p n c (abI (aTJ X)++[10]++xp (X.acts.take j)) (j+1)∧Below W.heap.size W wr∧ ∀a∈X.acts.take j,okA a=true))
 case atStart=>exact⟨0,p6,n6,c6,by omega,by omega,rfl,HI0⟩
 case round=>
  obtain⟨j,p,n,c,hj,hgg,rfl,HI⟩:=hrel
  clear hc3
  by_cases hje:j<an
  ·obtain⟨a,g,oo,rfl,hXa,hfi,hcc⟩:=HA.out j hje
   have hji:(j:Int)<(an:Int):=by omega
   obtain⟨⟨c0,c1,c2,c3,c4⟩,haa⟩:=hcc wr HI.out.2.1
   have HJ:=hid (⟨hje,hXa,hfi,haa⟩:_∧_∧_∧_)
   clear hje hXa hfi hcc haa
   go_wp2_with fail
   obtain⟨wq,hwq⟩: ∃w,w=wr.alloc (.cells #[.int .i64 a.kind,.int .i64 a.n,.slice a.kp a.kn a.kc,.int .i64 a.torn,.int .i64 a.bytes] 53):=⟨_,rfl⟩
   have hbq:Below wr.heap.size wr wq:=by rw[hwq];exact(Below.refl _ _).alloc (Nat.le_refl _) _
   rw[←hwq]
   have HF:=hid (aTp (HJ.out.2.2.2.below hbq) HJ.out.2.2.1.1 HJ.out.2.2.1.2.1 HJ.out.2.2.1.2.2.1 HJ.out.2.2.1.2.2.2)
   have HBQ:=hid hbq
   clear hwq hbq c0 c1 c2 c3 c4
   (with_reducible refine HF.out.mono ?_)
   intro r w9 hW
   obtain⟨p9,n9,c9,rfl,hok,hb9⟩:=hW
   have HB9:=hid (HBQ.out.trans (hb9.mono HBQ.out.size))
   obtain⟨ob,hob⟩: ∃b,b=okA a.ac:=⟨_,rfl⟩
   rw[←hob]at hok⊢
   have HOB:=hid hob
   clear hob hb9 HF
   cases ob
   case' false=>
    clear hok
    have hE:=hid (aSQ HC.out.1 (.inr (List.all_eq_false.2 ⟨a.ac,List.mem_of_getElem? HJ.out.2.1,by rw[←HOB.out];decide⟩)))
    go_wp2
    go_ret2
    rw[hE.out.1,hE.out.2]
    exact⟨rfl,HI.out.2.1.trans (HB9.out.mono HI.out.2.1.size)⟩
   obtain⟨g9,rfl,hn9,rfl,hk9⟩:=hok rfl
   have HP:=hid (aTD (ws:=aos a.ac) (HI.out.1.below HB9.out) (Nat.le_trans HI.out.2.1.size HB9.out.size) hk9 (by have:=aUJ a.ac;omega) (by
    have q1:=HLE.out
    have q2:=aS8 HI.out.2.2
    have q3:=aSW HOB.out.symm
    have q4:=HL.out.2.2
    have q5:=HJ.out.1
    rw[List.length_take]at q2
    simp only[List.length_append,List.length_cons,List.length_nil]
    omega) ⟨by omega,by have:=HJ.out.1;have:=HL.out.2.2;omega⟩)
   rw[←hn9]at HP
   clear hk9 hn9 hok
   go_wp2_with fail
   (with_reducible refine HP.out.mono ?_)
   rintro r w10 ⟨rfl,⟨p10,n10,c10,hw10⟩,hl10⟩
   have HN:Hid (WtI W.heap.size wb w10 p10 n10 c10 (abI (aTJ X)++[10]++xp (X.acts.take (j+1))) (((j+1:Nat):Int)+1)∧Below W.heap.size W w10∧ ∀a∈X.acts.take (j+1),okA a=true):=hid ⟨by
    rw[aS0 HJ.out.2.1,aTe HOB.out.symm]
    simpa only[List.append_assoc,Int.natCast_add,Int.natCast_one]using hw10,HI.out.2.1.trans ((HB9.out.mono HI.out.2.1.size).trans hl10.b),fun z hz=>by
    rw[List.take_add_one,HJ.out.2.1,List.mem_append]at hz
    rcases hz with hz|hz
    ·exact HI.out.2.2 z hz
    ·simp only[Option.toList_some,List.mem_singleton]at hz
     rw[hz]
     exact HOB.out.symm⟩
   clear HP hw10 hl10
   go_wp2
   go_roundg (an- (j+1))
   case measure=>have:=HJ.out.1;omega
   case rel=>exact⟨j+1,p10,n10,c10,by have:=HJ.out.1;omega,by omega,by go_num,HN⟩
  ·have hj2:j=an:=by omega
   have hji: ¬(j:Int)<(an:Int):=by omega
   have c0:wr.cell? ⟨wb,0,none⟩=some (.slice p n c):=HI.out.1.bk.cell 0
   have c1:wr.cell? ⟨wb,1,none⟩=some (.int .i64 ((j:Int)+1)):=HI.out.1.bk.cell 1
   have hta:X.acts.take j=X.acts:=List.take_of_length_le (by rw[HL.out.2.1];omega)
   have HAL:Hid (X.acts.all okA=true):=hid (List.all_eq_true.2 (by rw[←hta];exact HI.out.2.2))
   have hconv:=Xj HI.out.1.o
   have HTX:Hid (abI (aTJ X)++[10]++xp (X.acts.take j)=aUI X):=hid (by rw[hta];rfl)
   rw[HTX.out]at hconv
   have HJA:=hid (⟨hj2,hta⟩:_∧_)
   clear hj2 hta hje
   by_cases h4:1024<an+2
   ·have hE:=hid (aTq HC.out.1 HC.out.2.symm HAL.out (by rw[HL.out.2.1];exact h4))
    have h5:(1024:Int)<(j:Int)+1+1:=by have:=HJA.out.1;omega
    clear hconv
    go_wp2
    go_ret2
    rw[hE.out.1,hE.out.2]
    exact⟨rfl,HI.out.2.1⟩
   ·have hE:=hid (aTE HC.out.1 HC.out.2.symm HAL.out (by rw[HL.out.2.1];exact h4))
    have h5: ¬(1024:Int)<(j:Int)+1+1:=by have:=HJA.out.1;omega
    go_wp2
    go_ret2
    rw[hE.out.1,hE.out.2]
    exact⟨rfl,HI.out.2.1⟩
end
section
open Go.RowKit Go.Lib
theorem aTk {α:Type} {f:α→Bs} {l:List α} {j:Nat} {z:α} (h:l[j]? =some z):(l.drop j).flatMap f=f z++(l.drop (j+1)).flatMap f:=by
 have hj:j<l.length:=by
  rw[List.getElem?_eq_some_iff]at h
  exact h.1
 rw[List.drop_eq_getElem_cons hj,List.flatMap_cons]
 rw[List.getElem?_eq_getElem hj]at h
 injection h with h
 rw[h]
theorem aUn {b s r T:Bs} (h:b++(s++r)=T) (hT:T.length≤45000):b.length+s.length≤45000:=by
 rw[←h]at hT
 simp only[List.length_append]at hT
 omega
theorem aVu {w:World} {g:Nat} {T:TypeId} {a b c d e f:Value} (h:Blk w g T #[a,b,c,d,e,f]):w.cell? ⟨g,0,none⟩=some a∧w.cell? ⟨g,1,none⟩=some b∧w.cell? ⟨g,2,none⟩=some c∧w.cell? ⟨g,3,none⟩=some d∧w.cell? ⟨g,4,none⟩=some e∧w.cell? ⟨g,5,none⟩=some f:=⟨h.cell 0,h.cell 1,h.cell 2,h.cell 3,h.cell 4,h.cell 5⟩
structure aVt (W:World) (dp:Option Addr) (dn:Nat) (dl:List Nat) (pp:Option Addr) (pn:Nat) (ps:List Prg) (lp:Option Addr) (ln:Nat) (ls:List LpR) (ip:Option Addr) (im:Nat) (is:List Ini):Prop where
 ed:dn=dl.length
 ep:pn=ps.length
 el:ln=ls.length
 ei:im=is.length
 d: ∀j,j<dn→ ∃d g o,dp=some ⟨g,o,none⟩∧dl[j]? =some d∧d<18446744073709551616∧ ∀W',Below W.heap.size W W'→W'.cell? ⟨g,o+j,none⟩=some (.float .f64 d)
 p: ∀j,j<pn→ ∃(q:Prg) (g o:Nat),pp=some ⟨g,o,none⟩∧ps[j]? =some q∧q.n=q.l.length∧q.n≤1000∧(∀W',Below W.heap.size W W'→W'.cell? ⟨g,o+j,none⟩=some (.slice q.p q.n q.c))∧
  ∀i,i<q.n→ ∃(y:In) (b r:Nat),q.p=some ⟨b,r,none⟩∧q.l[i]? =some y∧y.ok∧ ∀W',Below W.heap.size W W'→W'.cell? ⟨b,r+i*4,none⟩=some (.int .i64 y.op)∧W'.cell? ⟨b,r+i*4+1,none⟩=some (.int .i64 y.a)∧W'.cell? ⟨b,r+i*4+2,none⟩=some (.int .i64 y.b)∧W'.cell? ⟨b,r+i*4+3,none⟩=some (.int .i64 y.c)
 l: ∀j,j<ln→ ∃(q:LpR) (g o:Nat),lp=some ⟨g,o,none⟩∧ls[j]? =some q∧okZ q.k∧q.n=q.l.length∧q.n≤1000∧(∀z∈q.l,okZ z)∧ ∀W',Below W.heap.size W W'→W'.cell? ⟨g,o+j*2,none⟩=some (.int .i64 q.k)∧W'.cell? ⟨g,o+j*2+1,none⟩=some (.slice q.p q.n q.c)∧Vw 1 wdC W' (.slice q.p q.n q.c) q.l
 i: ∀j,j<im→ ∃(y:Ini) (g o:Nat),ip=some ⟨g,o,none⟩∧is[j]? =some y∧y.ok∧ ∀W',Below W.heap.size W W'→W'.cell? ⟨g,o+j*3,none⟩=some (.float .f64 y.t)∧W'.cell? ⟨g,o+j*3+1,none⟩=some (.int .i64 y.dst)∧W'.cell? ⟨g,o+j*3+2,none⟩=some (.int .i64 y.pay)
theorem aVg {W:World} {x:MdV} (hm:qZ W x) (hx:x.nice):aVt W x.dp x.dn x.dl x.pp x.pn x.ps x.lp x.ln x.ls x.ip x.im x.is:=by
 obtain⟨q1,q2,q3,q4,q5,q6⟩:=hx.qn hm
 refine⟨hm.dn,hm.pn,hm.ln,hm.im,fun j hj=>?_,fun j hj=>?_,fun j hj=>?_,fun j hj=>?_⟩
 ·obtain⟨d,hd⟩: ∃d,x.dl[j]? =some d:=⟨_,List.getElem?_eq_getElem (by rw[←hm.dn];exact hj)⟩
  obtain⟨b,o,e,k⟩:=hm.d.elt hd
  exact⟨d,b,o,e,hd,hx.ok.dl d (List.mem_of_getElem? hd),fun W' hb=>by have:=k W' hb 0 _ rfl;rw[Nat.mul_one]at this;exact this⟩
 ·obtain⟨q,hq⟩: ∃q,x.ps[j]? =some q:=⟨_,List.getElem?_eq_getElem (by rw[←hm.pn];exact hj)⟩
  obtain⟨b,o,e,k⟩:=hm.p.elt hq
  have mq:=List.mem_of_getElem? hq
  refine⟨q,b,o,e,hq,(hm.pi q mq).1,q5 q mq,fun W' hb=>by have:=k W' hb 0 _ rfl;rw[Nat.mul_one]at this;exact this,fun i hi=>?_⟩
  obtain⟨y,hy⟩: ∃y,q.l[i]? =some y:=⟨_,List.getElem?_eq_getElem (by rw[←(hm.pi q mq).1];exact hi)⟩
  obtain⟨b,o,e,k⟩:=(hm.pi q mq).2.elt hy
  exact⟨y,b,o,e,hy,hx.ok.pr q.l (List.mem_map.2 ⟨q,mq,rfl⟩) y (List.mem_of_getElem? hy),fun W' hb=>⟨k W' hb 0 _ rfl,k W' hb 1 _ rfl,k W' hb 2 _ rfl,k W' hb 3 _ rfl⟩⟩
 ·obtain⟨q,hq⟩: ∃q,x.ls[j]? =some q:=⟨_,List.getElem?_eq_getElem (by rw[←hm.ln];exact hj)⟩
  obtain⟨b,o,e,k⟩:=hm.l.elt hq
  have mq:=List.mem_of_getElem? hq
  have ok:=hx.ok.lp (q.k,q.l) (List.mem_map.2 ⟨q,mq,rfl⟩)
  exact⟨q,b,o,e,hq,ok.1,(hm.li q mq).1,q6 q mq,ok.2,fun W' hb=>⟨k W' hb 0 _ rfl,k W' hb 1 _ rfl,(hm.li q mq).2.below hb⟩⟩
 ·obtain⟨y,hy⟩: ∃y,x.is[j]? =some y:=⟨_,List.getElem?_eq_getElem (by rw[←hm.im];exact hj)⟩
  obtain⟨b,o,e,k⟩:=hm.i.elt hy
  exact⟨y,b,o,e,hy,hx.ok.ini y (List.mem_of_getElem? hy),fun W' hb=>⟨k W' hb 0 _ rfl,k W' hb 1 _ rfl,k W' hb 2 _ rfl⟩⟩
theorem aTN {W:World} {x:MdV} (hm:qZ W x) (hx:x.nice):
  Calls Tryz.prog 39 #[.agg (mdC x).toArray] W fun r w'=>r= .returned (.string (S (aS7 x.m)))∧Below W.heap.size W w':=by
 have HM:=hid (aVg hm hx)
 have HLT:=hid (aSN hx.lgt)
 have HTE:Hid (aUM x=aS7 x.m):=hid (aTu x)
 have HOK:Hid (okZ x.seed∧x.en<18446744073709551616):=hid ⟨hx.ok.seed,hx.ok.en⟩
 obtain⟨q1,q2,q3,q4,_,_⟩:=hx.qn hm
 obtain⟨sd,en,dp,dn,dc,dl,pp,pn,pc,ps,lp,ln,lc,ls,ip,im,ic,is⟩:=x
 dsimp only at q1 q2 q3 q4
 have HM:Hid (aVt W dp dn dl pp pn ps lp ln ls ip im is):=HM
 have HOK:Hid (okZ sd∧en<18446744073709551616):=HOK
 obtain⟨T,hT⟩: ∃T,T=aS7 (MdV.m ⟨sd,en,dp,dn,dc,dl,pp,pn,pc,ps,lp,ln,lc,ls,ip,im,ic,is⟩):=⟨_,rfl⟩
 rw[←hT]at HLT HTE⊢
 obtain⟨R3,hR3⟩: ∃R,R=abK aRT is:=⟨_,rfl⟩
 obtain⟨R2,hR2⟩: ∃R,R=abK vw ls++R3:=⟨_,rfl⟩
 obtain⟨R1,hR1⟩: ∃R,R=abK (fun q:Prg=>abK aRU q.l) ps++R2:=⟨_,rfl⟩
 have HT:Hid (X6 sd++agP en++X6 dn++((dl.drop 0).flatMap agP++R1)=T):=hid (by
  rw[←HTE.out,hR1,hR2,hR3,HM.out.ed]
  unfold aUM
  show _=X6 sd++agP en++abK agP dl++abK (fun q:Prg=>abK aRU q.l) ps++abK vw ls++abK aRT is
  simp only[abK,List.drop_zero,List.append_assoc])
 have HR1:=hid hR1
 have HR2:=hid hR2
 have HR3:=hid hR3
 obtain⟨xb,hxb⟩: ∃k,k=W.heap.size:=⟨_,rfl⟩
 obtain⟨W1,hW1⟩: ∃w,w=W.alloc (.cells #[.int .i64 sd,.float .f64 en,.slice dp dn dc,.slice pp pn pc,.slice lp ln lc,.slice ip im ic] 29):=⟨_,rfl⟩
 have hB:Blk W1 xb 29 #[.int .i64 sd,.float .f64 en,.slice dp dn dc,.slice pp pn pc,.slice lp ln lc,.slice ip im ic]:=by rw[hW1,hxb];exact Blk.new _ _ _
 have HB:=hid (⟨hB,(by rw[hW1];exact(Below.refl _ W).alloc (Nat.le_refl _) _:Below W.heap.size W W1),hxb,hW1⟩:_∧_∧_∧_)
 have HC:Hid (∀w,Below W1.heap.size W1 w→(w.cell? ⟨xb,0,none⟩=some (.int .i64 sd)∧w.cell? ⟨xb,1,none⟩=some (.float .f64 en)∧w.cell? ⟨xb,2,none⟩=some (.slice dp dn dc)∧w.cell? ⟨xb,3,none⟩=some (.slice pp pn pc)∧w.cell? ⟨xb,4,none⟩=some (.slice lp ln lc)∧w.cell? ⟨xb,5,none⟩=some (.slice ip im ic))∧Below W.heap.size W w):=hid fun w hb=>⟨aVu (HB.out.1.below hb HB.out.1.lt),HB.out.2.1.trans (hb.mono HB.out.2.1.size)⟩
 obtain⟨x0,x1,x2,x3,x4,x5⟩:=aVu hB
 clear hB hxb hW1 hm hx hT hR1 hR2 hR3 HTE
 show Calls _ _ #[.agg #[.int .i64 sd,.float .f64 en,.slice dp dn dc,.slice pp pn pc,.slice lp ln lc,.slice ip im ic]] _ _
 have HI1:=hid (fun (z:Int) (h:okZ z) w=>aUL z h.1 h.2 w)
 have HF1:=hid (fun (d:Nat) (h:d<18446744073709551616) w=>aTv d h w)
 have HIN:Hid (∀w g m (l:List Int),Blk w g 3 (yv wdC l).toArray→m=l.length→l.length≤1000→(∀z∈l,okZ z)→Calls Tryz.prog 78 #[.slice (some ⟨g,0,none⟩) m m] w fun r w'=>r= .returned (.string (S (l.flatMap X6)))∧Below w.heap.size w w'):=hid fun w g m l hg hm hl hz=>by
  subst hm
  exact aS2 (Vw.of_own YG (aTf (B:=0) YG hg (Nat.zero_le _) hl) rfl) rfl hl hz
 have HNZ:Hid (∀n:Nat,n≤1000→okZ (n:Int)):=hid fun n h=>⟨by omega,by omega⟩
 go_enter Tryz.func39,Tryz.ntmps39
 go_upto_region 1 with fail
 rw[←HB.out.2.2.1,←HB.out.2.2.2]
 obtain⟨s1,hs1⟩: ∃s,s=X6 sd:=⟨_,rfl⟩
 obtain⟨s2,hs2⟩: ∃s,s=agP en:=⟨_,rfl⟩
 obtain⟨s3,hs3⟩: ∃s,s=X6 (dn:Int):=⟨_,rfl⟩
 have HK1:=hid (HI1.out sd HOK.out.1)
 have HK2:=hid (HF1.out en HOK.out.2)
 have HK3:=hid (HI1.out dn (HNZ.out _ q1))
 rw[←hs1,←hs2,←hs3]at HT
 rw[←hs1]at HK1
 rw[←hs2]at HK2
 rw[←hs3]at HK3
 have HQ:Hid (s1.length+s2.length+s3.length≤45000):=hid (by
  have:=HLT.out
  rw[←HT.out]at this
  simp only[List.length_append]at this
  omega)
 have hq1: ¬9223372036854775807<s1.length+s2.length:=by have:=HQ.out;omega
 have hq2: ¬9223372036854775807<s1.length+s2.length+s3.length:=by have:=HQ.out;omega
 clear hs1 hs2 hs3
 refine zB (fun W'=>W'.cell? ⟨xb,0,none⟩=some (.int .i64 sd)∧W'.cell? ⟨xb,1,none⟩=some (.float .f64 en)∧W'.cell? ⟨xb,2,none⟩=some (.slice dp dn dc)) 12 (by kernel_rfl) ⟨x0,x1,x2⟩ (fun hHeld=>?_)
 have HX:=hid (Below.refl W1.heap.size W1).drew
 clear x0 x1 x2 x3 x4 x5
 refine eT 0 hHeld ?_;(try simp only[Act.put,sEa,sEb,sEc]);refine eT 1 hHeld ?_;(try simp only[Act.put,sEa,sEb,sEc]);refine eT 3 hHeld ?_;(try simp only[Act.put,sEa,sEb,sEc]);refine eT 4 hHeld ?_;(try simp only[Act.put,sEa,sEb,sEc]);refine eT 7 hHeld ?_;(try simp only[Act.put,sEa,sEb,sEc]);refine eT 8 hHeld ?_;(try simp only[Act.put,sEa,sEb,sEc]);refine eT 9 hHeld ?_;(try simp only[Act.put,sEa,sEb,sEc])
 refine eR 2 (fun K hK=>?_)
 go_simp
 (with_reducible refine(HK1.out _).mono ?_)
 rintro r v2 ⟨rfl,hb⟩
 have HX:=hid (HX.out.trans (hb.mono HX.out.size))
 clear hb
 obtain⟨⟨x0,x1,x2,_⟩,_⟩:=HC.out _ HX.out
 refine hK.out _ _ ⟨x0,x1,x2⟩ (fun hHeld=>?_)
 clear hK K x0 x1 x2
 (try simp only[Act.put,sEa,sEb,sEc])
 refine eR 5 (fun K hK=>?_)
 go_simp
 (with_reducible refine(HK2.out _).mono ?_)
 rintro r v5 ⟨rfl,hb⟩
 have HX:=hid (HX.out.trans (hb.mono HX.out.size))
 clear hb
 obtain⟨⟨x0,x1,x2,_⟩,_⟩:=HC.out _ HX.out
 refine hK.out _ _ ⟨x0,x1,x2⟩ (fun hHeld=>?_)
 clear hK K x0 x1 x2
 (try simp only[Act.put,sEa,sEb,sEc])
 refine eT 6 hHeld ?_;(try simp only[Act.put,sEa,sEb,sEc])
 refine eR 10 (fun K hK=>?_)
 go_simp
 (with_reducible refine(HK3.out _).mono ?_)
 rintro r v10 ⟨rfl,hb⟩
 have HX:=hid (HX.out.trans (hb.mono HX.out.size))
 clear hb
 obtain⟨⟨x0,x1,x2,_⟩,_⟩:=HC.out _ HX.out
 refine hK.out _ _ ⟨x0,x1,x2⟩ (fun hHeld=>?_)
 clear hK K x0 x1 x2
 (try simp only[Act.put,sEa,sEb,sEc])
 refine eT 11 hHeld ?_;(try simp only[Act.put,sEa,sEb,sEc]);refine eL (fun K hK=>?_);go_simp;refine hK.out _ _ ?_;clear hK K;(try simp only[Act.put,sEa,sEb,sEc])
 obtain⟨b0,hb0⟩: ∃b,b=s1++(s2++s3):=⟨_,rfl⟩
 rw[←hb0]
 have HS0:Hid (b0++((dl.drop 0).flatMap agP++R1)=T∧Below W1.heap.size W1 v10):=hid ⟨by rw[hb0,←HT.out];simp only[List.append_assoc],HX.out⟩
 clear HX HK1 HK2 HK3 hq1 hq2 hHeld hb0
 go_wp2_with fail
 go_loopg [3,4] dn (fun gg s3 s4 wr=> ∃(j:Nat) (b:Bs),j≤dn∧dn-j≤gg∧s3= .string (S b)∧s4= .int .i64 j∧Hid (b++((dl.drop j).flatMap agP++R1)=T∧Below W1.heap.size W1 wr))
 case atStart=>exact⟨0,b0,by omega,by omega,rfl,rfl,HS0⟩
 case round=>
  obtain⟨j,b,hj,hgg,rfl,rfl,HI⟩:=hrel
  obtain⟨⟨_,_,x2,x3,x4,x5⟩,hbw⟩:=HC.out _ HI.out.2
  by_cases hje:j<dn
  ·obtain⟨d,g,oo,rfl,hd,hd2,hc⟩:=HM.out.d j hje
   have hji:(j:Int)<(dn:Int):=by omega
   have c0:=hc wr hbw
   obtain⟨s,hs⟩: ∃s,s=agP d:=⟨_,rfl⟩
   have HF:=HF1.out d hd2 wr
   rw[←hs]at HF
   have HF:=hid HF
   have HT2:Hid (b++(s++((dl.drop (j+1)).flatMap agP++R1))=T):=hid (by rw[←HI.out.1,aTk hd,hs];simp only[List.append_assoc])
   have hq: ¬9223372036854775807<b.length+s.length:=by have:=aUn HT2.out HLT.out;omega
   have HJ:=hid hje
   clear hd hd2 hc hs hbw x3 x4 x5
   go_wp2_with fail
   (with_reducible refine HF.out.mono ?_)
   rintro r w2 ⟨rfl,hb2⟩
   have HN:Hid ((b++s)++((dl.drop (j+1)).flatMap agP++R1)=T∧Below W1.heap.size W1 w2):=hid ⟨by rw[List.append_assoc];exact HT2.out,HI.out.2.trans (hb2.mono HI.out.2.size)⟩
   clear hb2 c0 x2 HF
   go_wp2
   go_roundg (dn- (j+1))
   case measure=>have:=HJ.out;omega
   case rel=>exact⟨j+1,b++s,by have:=HJ.out;omega,by omega,rfl,by go_num,HN⟩
  ·have hji: ¬(j:Int)<(dn:Int):=by omega
   obtain⟨s,hs⟩: ∃s,s=X6 (pn:Int):=⟨_,rfl⟩
   have HT2:Hid (b++(s++((ps.drop 0).flatMap (fun q:Prg=>abK aRU q.l)++R2))=T):=hid (by
    have:=HI.out.1
    rw[List.drop_of_length_le (by rw[←HM.out.ed];omega)]at this
    rw[←this,HR1.out,hs,HM.out.ep]
    simp only[abK,List.drop_zero,List.flatMap_nil,List.nil_append,List.append_nil,List.append_assoc])
   have HF:=HI1.out pn (HNZ.out _ q2) wr
   rw[←hs]at HF
   have HF:=hid HF
   have hq: ¬9223372036854775807<b.length+s.length:=by have:=aUn HT2.out HLT.out;omega
   have HW:=hid HI.out.2
   clear hs hbw HI x4 x5
   go_wp2_with fail
   (with_reducible refine HF.out.mono ?_)
   rintro r w2 ⟨rfl,hb2⟩
   have HS0:Hid ((b++s)++((ps.drop 0).flatMap (fun q:Prg=>abK aRU q.l)++R2)=T∧Below W1.heap.size W1 w2):=hid ⟨by rw[List.append_assoc];exact HT2.out,HW.out.trans (hb2.mono HW.out.size)⟩
   obtain⟨b0,hb0⟩: ∃c,c=b++s:=⟨_,rfl⟩
   rw[←hb0]at HS0
   clear hb2 HF HT2 HW
   go_wp2_with fail
   rw[←hb0]
   clear hb0 hq
   go_loopg [3,5] pn (fun gg s3 s5 wr=> ∃(j:Nat) (b:Bs),j≤pn∧pn-j≤gg∧s3= .string (S b)∧s5= .int .i64 j∧Hid (b++((ps.drop j).flatMap (fun q:Prg=>abK aRU q.l)++R2)=T∧Below W1.heap.size W1 wr))
   case atStart=>exact⟨0,b0,by omega,by omega,rfl,rfl,HS0⟩
   case round=>
    obtain⟨j,b,hj,hgg,rfl,rfl,HI⟩:=hrel
    obtain⟨⟨_,_,x2,x3,x4,x5⟩,hbw⟩:=HC.out _ HI.out.2
    by_cases hje:j<pn
    ·obtain⟨q,g,oo,rfl,hq0,hqn,hqm,hcq,hqi⟩:=HM.out.p j hje
     obtain⟨qp,m,qc,l⟩:=q
     dsimp only at hqn hqm hcq hqi
     have hji:(j:Int)<(pn:Int):=by omega
     have HJ:=hid hje
     have c0:=hcq _ hbw
     obtain⟨s,hs⟩: ∃s,s=X6 (m:Int):=⟨_,rfl⟩
     obtain⟨RR,hRR⟩: ∃R,R=(ps.drop (j+1)).flatMap (fun q:Prg=>abK aRU q.l)++R2:=⟨_,rfl⟩
     have HRR:=hid hRR
     have HML:=hid hqn
     have HT2:Hid (b++(s++((l.drop 0).flatMap aRU++RR))=T):=hid (by
      rw[←HI.out.1,aTk hq0,hs,hRR,hqn]
      simp only[abK,List.drop_zero,List.append_assoc])
     have hq: ¬9223372036854775807<b.length+s.length:=by have:=aUn HT2.out HLT.out;omega
     have HF:=HI1.out m (HNZ.out _ hqm) wr
     rw[←hs]at HF
     have HF:=hid HF
     have HW:=hid HI.out.2
     have HQM:=hid hqm
     clear hs hRR hq0 hqn hbw HI hje x2 x4 x5
     go_wp2_with fail
     (with_reducible refine HF.out.mono ?_)
     rintro r w2 ⟨rfl,hb2⟩
     have HS0:Hid ((b++s)++((l.drop 0).flatMap aRU++RR)=T∧Below W1.heap.size W1 w2):=hid ⟨by rw[List.append_assoc];exact HT2.out,HW.out.trans (hb2.mono HW.out.size)⟩
     obtain⟨b0,hb0⟩: ∃c,c=b++s:=⟨_,rfl⟩
     rw[←hb0]at HS0
     clear hb2 HF HT2 HW c0 x3
     go_wp2_with fail
     rw[←hb0]
     clear hb0 hq
     go_loopg [3,6] m (fun gg s3 s6 wr=> ∃(i:Nat) (b:Bs),i≤m∧m-i≤gg∧s3= .string (S b)∧s6= .int .i64 i∧Hid (b++((l.drop i).flatMap aRU++RR)=T∧Below W1.heap.size W1 wr))
     case atStart=>exact⟨0,b0,by omega,by omega,rfl,rfl,HS0⟩
     case round=>
      obtain⟨i,b,hi,hgg,rfl,rfl,HI⟩:=hrel
      have hml:(m:Int)≤1000:=by have:=HQM.out;omega
      by_cases hie:i<m
      ·obtain⟨y,gy,oy,rfl,hy,hyo,hcy⟩:=hqi i hie
       have hii:(i:Int)<(m:Int):=by omega
       have HIE:=hid hie
       obtain⟨⟨_,_,_,x3,_⟩,hbw⟩:=HC.out _ HI.out.2
       have c0:=hcq _ hbw
       obtain⟨d0,d1,d2,d3⟩:=hcy _ hbw
       obtain⟨s,hs⟩: ∃s,s=[y.op,y.a,y.b,y.c].flatMap X6:=⟨_,rfl⟩
       have HT2:Hid (b++(s++((l.drop (i+1)).flatMap aRU++RR))=T):=hid (by
        rw[←HI.out.1,aTk hy,hs]
        simp only[aRU,List.flatMap_cons,List.flatMap_nil,List.append_nil,List.append_assoc])
       have hq: ¬9223372036854775807<b.length+s.length:=by have:=aUn HT2.out HLT.out;omega
       have HFI:Hid (∀w g,Blk w g 3 #[.int .i64 y.op,.int .i64 y.a,.int .i64 y.b,.int .i64 y.c]→Calls Tryz.prog 78 #[.slice (some ⟨g,0,none⟩) 4 4] w fun r w'=>r= .returned (.string (S s))∧Below w.heap.size w w'):=hid fun w g hg=>by
        rw[hs]
        exact HIN.out w g 4 [y.op,y.a,y.b,y.c] hg rfl (by simp) (by simpa using(show okZ y.op∧okZ y.a∧okZ y.b∧okZ y.c from hyo))
       have HX:=hid HI.out.2
       obtain⟨w4,hw4⟩: ∃w,w=wr.alloc (.cells #[.int .i64 y.op,.int .i64 y.a,.int .i64 y.b,.int .i64 y.c] 84):=⟨_,rfl⟩
       obtain⟨w5,hw5⟩: ∃w,w=w4.alloc (.cells #[.int .i64 y.op,.int .i64 y.a,.int .i64 y.b,.int .i64 y.c] 3):=⟨_,rfl⟩
       obtain⟨g4,hg4⟩: ∃g,g=wr.heap.size+1:=⟨_,rfl⟩
       have HF:=hid (HFI.out w5 g4 (by
        have e:w4.heap.size=wr.heap.size+1:=by rw[hw4];simp
        rw[hw5,hg4,←e]
        exact Blk.new _ _ _))
       have hb5:Below wr.heap.size wr w5:=by rw[hw5,hw4];exact((Below.refl _ _).alloc (Nat.le_refl _) _).alloc (by simp) _
       have HX:=hid (HX.out.trans (hb5.mono HX.out.size))
       have HW4:=hid (⟨hg4,hw5,hw4⟩:_∧_∧_)
       clear hs hyo hcy hbw HI hie hy hb5 hw4 hw5 hg4
       go_wp2_with fail
       rw[←HW4.out.2.2,←HW4.out.2.1,←HW4.out.1]
       (with_reducible refine HF.out.mono ?_)
       rintro r w6 ⟨rfl,hb⟩
       have HN:Hid ((b++s)++((l.drop (i+1)).flatMap aRU++RR)=T∧Below W1.heap.size W1 w6):=hid ⟨by rw[List.append_assoc];exact HT2.out,HX.out.trans (hb.mono HX.out.size)⟩
       clear hb HF HX HFI c0 d0 d1 d2 d3 x3 HW4
       go_wp2
       go_roundg (m- (i+1))
       case measure=>have:=HIE.out;omega
       case rel=>exact⟨i+1,b++s,by have:=HIE.out;omega,by omega,rfl,by go_num,HN⟩
      ·have hii: ¬(i:Int)<(m:Int):=by omega
       obtain⟨⟨_,_,_,x3,_⟩,hbw⟩:=HC.out _ HI.out.2
       have c0:=hcq _ hbw
       have HN:Hid (b++((ps.drop (j+1)).flatMap (fun q:Prg=>abK aRU q.l)++R2)=T∧Below W1.heap.size W1 wr):=hid ⟨by
        have:=HI.out.1
        rw[List.drop_of_length_le (by rw[←HML.out];omega),HRR.out]at this
        simpa using this,HI.out.2⟩
       clear HI hbw
       go_wp2
       go_roundg (pn- (j+1))
       case measure=>have:=HJ.out;omega
       case rel=>exact⟨j+1,b,by have:=HJ.out;omega,by omega,rfl,by go_num,HN⟩
    ·have hji: ¬(j:Int)<(pn:Int):=by omega
     obtain⟨s,hs⟩: ∃s,s=X6 (ln:Int):=⟨_,rfl⟩
     have HT2:Hid (b++(s++((ls.drop 0).flatMap vw++R3))=T):=hid (by
      have:=HI.out.1
      rw[List.drop_of_length_le (by rw[←HM.out.ep];omega)]at this
      rw[←this,HR2.out,hs,HM.out.el]
      simp only[abK,List.drop_zero,List.flatMap_nil,List.nil_append,List.append_nil,List.append_assoc])
     have HF:=HI1.out ln (HNZ.out _ q3) wr
     rw[←hs]at HF
     have HF:=hid HF
     have hq: ¬9223372036854775807<b.length+s.length:=by have:=aUn HT2.out HLT.out;omega
     have HW:=hid HI.out.2
     clear hs hbw HI x2 x5
     go_wp2_with fail
     (with_reducible refine HF.out.mono ?_)
     rintro r w2 ⟨rfl,hb2⟩
     have HS0:Hid ((b++s)++((ls.drop 0).flatMap vw++R3)=T∧Below W1.heap.size W1 w2):=hid ⟨by rw[List.append_assoc];exact HT2.out,HW.out.trans (hb2.mono HW.out.size)⟩
     obtain⟨b0,hb0⟩: ∃c,c=b++s:=⟨_,rfl⟩
     rw[←hb0]at HS0
     clear hb2 HF HT2 HW
     go_wp2_with fail
     rw[←hb0]
     clear hb0 hq
     go_loopg [3,8] ln (fun gg s3 s8 wr=> ∃(j:Nat) (b:Bs),j≤ln∧ln-j≤gg∧s3= .string (S b)∧s8= .int .i64 j∧Hid (b++((ls.drop j).flatMap vw++R3)=T∧Below W1.heap.size W1 wr))
     case atStart=>exact⟨0,b0,by omega,by omega,rfl,rfl,HS0⟩
     case round=>
      obtain⟨j,b,hj,hgg,rfl,rfl,HI⟩:=hrel
      obtain⟨⟨_,_,x2,x3,x4,x5⟩,hbw⟩:=HC.out _ HI.out.2
      by_cases hje:j<ln
      ·obtain⟨q,g,oo,rfl,hq0,hqk,hqn,hqm,hqz,hc⟩:=HM.out.l j hje
       have hji:(j:Int)<(ln:Int):=by omega
       have HJ:=hid hje
       obtain⟨s,hs⟩: ∃s,s=[q.k,(q.n:Int)].flatMap X6:=⟨_,rfl⟩
       obtain⟨s',hs'⟩: ∃s,s=q.l.flatMap X6:=⟨_,rfl⟩
       have HT2:Hid (b++(s++(s'++((ls.drop (j+1)).flatMap vw++R3)))=T):=hid (by
        rw[←HI.out.1,aTk hq0,hs,hs',hqn]
        simp only[vw,aU1,abK,List.flatMap_cons,List.flatMap_nil,List.append_nil,List.append_assoc])
       have hq: ¬9223372036854775807<b.length+s.length:=by have:=aUn HT2.out HLT.out;omega
       have hq2: ¬9223372036854775807<b.length+s.length+s'.length:=by
        have:=aUn (b:=b++s) (by rw[List.append_assoc];exact HT2.out) HLT.out
        rw[List.length_append]at this
        omega
       have HFI:Hid (∀w g,Blk w g 3 #[.int .i64 q.k,.int .i64 q.n]→Calls Tryz.prog 78 #[.slice (some ⟨g,0,none⟩) 2 2] w fun r w'=>r= .returned (.string (S s))∧Below w.heap.size w w'):=hid fun w g hg=>by
        rw[hs]
        exact HIN.out w g 2 [q.k,(q.n:Int)] hg rfl (by simp) (by simpa using⟨hqk,HNZ.out _ hqm⟩)
       have HFQ:Hid (∀w,Below W1.heap.size W1 w→Calls Tryz.prog 78 #[.slice q.p q.n q.c] w fun r w'=>r= .returned (.string (S s'))∧Below w.heap.size w w'):=hid fun w hb=>by
        rw[hs']
        exact aS2 (hc w (HC.out w hb).2).2.2 hqn (by omega) hqz
       have HS:Hid (∀w,Below W1.heap.size W1 w→w.cell? ⟨xb,4,none⟩=some (.slice (some ⟨g,oo,none⟩) ln lc)∧w.cell? ⟨g,oo+j*2,none⟩=some (.int .i64 q.k)∧w.cell? ⟨g,oo+j*2+1,none⟩=some (.slice q.p q.n q.c)):=hid fun w hb=>⟨(HC.out w hb).1.2.2.2.2.1,(hc w (HC.out w hb).2).1,(hc w (HC.out w hb).2).2.1⟩
       have HX0:=hid HI.out.2
       have HX:=hid HX0.out.drew
       clear hs hs' hq0 hqk hqn hqm hqz hc hbw x2 x3 x5 HI hje
       go_upto_region 20 with fail
       clear x4
       refine zB (fun w=>w.cell? ⟨xb,4,none⟩=some (.slice (some ⟨g,oo,none⟩) ln lc)∧w.cell? ⟨g,oo+j*2,none⟩=some (.int .i64 q.k)∧w.cell? ⟨g,oo+j*2+1,none⟩=some (.slice q.p q.n q.c)) 25 (by kernel_rfl) (HS.out _ HX.out) (fun hHeld=>?_)
       refine eT 0 hHeld ?_;(try simp only[Act.put,sEa,sEb,sEc]);refine eT 1 hHeld ?_;(try simp only[Act.put,sEa,sEb,sEc]);refine eT 2 hHeld ?_;(try simp only[Act.put,sEa,sEb,sEc]);refine eT 3 hHeld ?_;(try simp only[Act.put,sEa,sEb,sEc]);refine eT 4 hHeld ?_;(try simp only[Act.put,sEa,sEb,sEc]);refine eT 5 hHeld ?_;(try simp only[Act.put,sEa,sEb,sEc]);refine eT 6 hHeld ?_;(try simp only[Act.put,sEa,sEb,sEc]);refine eT 7 hHeld ?_;(try simp only[Act.put,sEa,sEb,sEc]);refine eT 8 hHeld ?_;(try simp only[Act.put,sEa,sEb,sEc]);refine eT 9 hHeld ?_;(try simp only[Act.put,sEa,sEb,sEc]);refine eT 10 hHeld ?_;(try simp only[Act.put,sEa,sEb,sEc]);refine eT 11 hHeld ?_;(try simp only[Act.put,sEa,sEb,sEc]);refine eT 12 hHeld ?_;(try simp only[Act.put,sEa,sEb,sEc]);refine eT 13 hHeld ?_;(try simp only[Act.put,sEa,sEb,sEc]);refine eT 17 hHeld ?_;(try simp only[Act.put,sEa,sEb,sEc]);refine eT 18 hHeld ?_;(try simp only[Act.put,sEa,sEb,sEc]);refine eT 19 hHeld ?_;(try simp only[Act.put,sEa,sEb,sEc]);refine eT 20 hHeld ?_;(try simp only[Act.put,sEa,sEb,sEc]);refine eT 21 hHeld ?_;(try simp only[Act.put,sEa,sEb,sEc]);refine eT 22 hHeld ?_;(try simp only[Act.put,sEa,sEb,sEc])
       refine eR 14 (fun K hK=>?_)
       go_simp
       obtain⟨v14,hw⟩: ∃w,w=World.drew (World.alloc wr (.cells #[.int .i64 q.k,.int .i64 q.n] 3)):=⟨_,rfl⟩
       have HG:Hid (Blk v14 (World.heap wr).size 3 #[.int .i64 q.k,.int .i64 q.n]):=hid (by rw[hw];exact Blk.new _ _ _)
       have hb:Below (World.heap wr).size wr v14:=by rw[hw];exact((Below.refl _ _).alloc (Nat.le_refl _) _).drew
       rw[←hw]
       have HX:=hid (HX0.out.trans (hb.mono HX0.out.size))
       clear hb hw
       refine hK.out _ _ (HS.out _ HX.out) (fun hHeld=>?_)
       clear hK K
       (try simp only[Act.put,sEa,sEb,sEc])
       refine eR 15 (fun K hK=>?_)
       go_simp
       (with_reducible refine(HFI.out _ _ HG.out).mono ?_)
       rintro r v15 ⟨rfl,hb⟩
       have HX:=hid (HX.out.trans (hb.mono HX.out.size))
       clear hb
       refine hK.out _ _ (HS.out _ HX.out) (fun hHeld=>?_)
       clear hK K
       (try simp only[Act.put,sEa,sEb,sEc])
       refine eT 16 hHeld ?_;(try simp only[Act.put,sEa,sEb,sEc])
       refine eR 23 (fun K hK=>?_)
       go_simp
       (with_reducible refine(HFQ.out _ HX.out).mono ?_)
       rintro r v23 ⟨rfl,hb⟩
       have HX:=hid (HX.out.trans (hb.mono HX.out.size))
       clear hb
       refine hK.out _ _ (HS.out _ HX.out) (fun hHeld=>?_)
       clear hK K
       (try simp only[Act.put,sEa,sEb,sEc])
       refine eT 24 hHeld ?_;(try simp only[Act.put,sEa,sEb,sEc]);refine eL (fun K hK=>?_);go_simp;refine hK.out _ _ ?_;clear hK K;(try simp only[Act.put,sEa,sEb,sEc])
       have HN:Hid ((b++(s++s'))++((ls.drop (j+1)).flatMap vw++R3)=T∧Below W1.heap.size W1 v23):=hid ⟨by rw[List.append_assoc,List.append_assoc];exact HT2.out,HX.out⟩
       clear HX HS HFQ HFI
       go_wp2
       go_roundg (ln- (j+1))
       case measure=>have:=HJ.out;omega
       case rel=>exact⟨j+1,b++(s++s'),by have:=HJ.out;omega,by omega,rfl,by go_num,HN⟩
      ·have hji: ¬(j:Int)<(ln:Int):=by omega
       obtain⟨s,hs⟩: ∃s,s=X6 (im:Int):=⟨_,rfl⟩
       have HT2:Hid (b++(s++((is.drop 0).flatMap aRT++[]))=T):=hid (by
        have:=HI.out.1
        rw[List.drop_of_length_le (by rw[←HM.out.el];omega)]at this
        rw[←this,HR3.out,hs,HM.out.ei]
        simp only[abK,List.drop_zero,List.flatMap_nil,List.nil_append,List.append_nil,List.append_assoc])
       have HF:=HI1.out im (HNZ.out _ q4) wr
       rw[←hs]at HF
       have HF:=hid HF
       have hq: ¬9223372036854775807<b.length+s.length:=by have:=aUn HT2.out HLT.out;omega
       have HW:=hid HI.out.2
       clear hs hbw HI x2 x3
       go_wp2_with fail
       (with_reducible refine HF.out.mono ?_)
       rintro r w2 ⟨rfl,hb2⟩
       have HS0:Hid ((b++s)++((is.drop 0).flatMap aRT++[])=T∧Below W1.heap.size W1 w2):=hid ⟨by rw[List.append_assoc];exact HT2.out,HW.out.trans (hb2.mono HW.out.size)⟩
       obtain⟨b0,hb0⟩: ∃c,c=b++s:=⟨_,rfl⟩
       rw[←hb0]at HS0
       clear hb2 HF HT2 HW
       go_wp2_with fail
       rw[←hb0]
       clear hb0 hq
       go_loopg [3,9] im (fun gg s3 s9 wr=> ∃(j:Nat) (b:Bs),j≤im∧im-j≤gg∧s3= .string (S b)∧s9= .int .i64 j∧Hid (b++((is.drop j).flatMap aRT++[])=T∧Below W1.heap.size W1 wr))
       case atStart=>exact⟨0,b0,by omega,by omega,rfl,rfl,HS0⟩
       case round=>
        obtain⟨j,b,hj,hgg,rfl,rfl,HI⟩:=hrel
        obtain⟨⟨_,_,x2,x3,x4,x5⟩,hbw⟩:=HC.out _ HI.out.2
        by_cases hje:j<im
        ·obtain⟨y,g,oo,rfl,hy,hyo,hc⟩:=HM.out.i j hje
         have hji:(j:Int)<(im:Int):=by omega
         have HJ:=hid hje
         obtain⟨s,hs⟩: ∃s,s=agP y.t:=⟨_,rfl⟩
         obtain⟨s',hs'⟩: ∃s,s=[y.dst,y.pay].flatMap X6:=⟨_,rfl⟩
         have HT2:Hid (b++(s++(s'++((is.drop (j+1)).flatMap aRT++[])))=T):=hid (by
          rw[←HI.out.1,aTk hy,hs,hs']
          simp only[aRT,List.flatMap_cons,List.flatMap_nil,List.append_nil,List.append_assoc])
         have hq: ¬9223372036854775807<b.length+s.length:=by have:=aUn HT2.out HLT.out;omega
         have hq2: ¬9223372036854775807<b.length+s.length+s'.length:=by
          have:=aUn (b:=b++s) (by rw[List.append_assoc];exact HT2.out) HLT.out
          rw[List.length_append]at this
          omega
         have HF:=HF1.out y.t hyo.1
         rw[←hs]at HF
         have HF:=hid HF
         have HFI:Hid (∀w g,Blk w g 3 #[.int .i64 y.dst,.int .i64 y.pay]→Calls Tryz.prog 78 #[.slice (some ⟨g,0,none⟩) 2 2] w fun r w'=>r= .returned (.string (S s'))∧Below w.heap.size w w'):=hid fun w g hg=>by
          rw[hs']
          exact HIN.out w g 2 [y.dst,y.pay] hg rfl (by simp) (by simpa using hyo.2)
         have HS:Hid (∀w,Below W1.heap.size W1 w→w.cell? ⟨xb,5,none⟩=some (.slice (some ⟨g,oo,none⟩) im ic)∧w.cell? ⟨g,oo+j*3,none⟩=some (.float .f64 y.t)∧w.cell? ⟨g,oo+j*3+1,none⟩=some (.int .i64 y.dst)∧w.cell? ⟨g,oo+j*3+2,none⟩=some (.int .i64 y.pay)):=hid fun w hb=>⟨(HC.out w hb).1.2.2.2.2.2,hc w (HC.out w hb).2⟩
         have HX0:=hid HI.out.2
         have HX:=hid HX0.out.drew
         clear hs hs' hy hyo hc hbw x2 x3 x4 HI hje
         go_upto_region 25 with fail
         clear x5
         refine zB (fun w=>w.cell? ⟨xb,5,none⟩=some (.slice (some ⟨g,oo,none⟩) im ic)∧w.cell? ⟨g,oo+j*3,none⟩=some (.float .f64 y.t)∧w.cell? ⟨g,oo+j*3+1,none⟩=some (.int .i64 y.dst)∧w.cell? ⟨g,oo+j*3+2,none⟩=some (.int .i64 y.pay)) 24 (by kernel_rfl) (HS.out _ HX.out) (fun hHeld=>?_)
         refine eT 0 hHeld ?_;(try simp only[Act.put,sEa,sEb,sEc]);refine eT 1 hHeld ?_;(try simp only[Act.put,sEa,sEb,sEc]);refine eT 2 hHeld ?_;(try simp only[Act.put,sEa,sEb,sEc]);refine eT 3 hHeld ?_;(try simp only[Act.put,sEa,sEb,sEc]);refine eT 4 hHeld ?_;(try simp only[Act.put,sEa,sEb,sEc]);refine eT 5 hHeld ?_;(try simp only[Act.put,sEa,sEb,sEc]);refine eT 6 hHeld ?_;(try simp only[Act.put,sEa,sEb,sEc]);refine eT 9 hHeld ?_;(try simp only[Act.put,sEa,sEb,sEc]);refine eT 10 hHeld ?_;(try simp only[Act.put,sEa,sEb,sEc]);refine eT 11 hHeld ?_;(try simp only[Act.put,sEa,sEb,sEc]);refine eT 12 hHeld ?_;(try simp only[Act.put,sEa,sEb,sEc]);refine eT 13 hHeld ?_;(try simp only[Act.put,sEa,sEb,sEc]);refine eT 14 hHeld ?_;(try simp only[Act.put,sEa,sEb,sEc]);refine eT 15 hHeld ?_;(try simp only[Act.put,sEa,sEb,sEc]);refine eT 16 hHeld ?_;(try simp only[Act.put,sEa,sEb,sEc]);refine eT 17 hHeld ?_;(try simp only[Act.put,sEa,sEb,sEc]);refine eT 18 hHeld ?_;(try simp only[Act.put,sEa,sEb,sEc]);refine eT 19 hHeld ?_;(try simp only[Act.put,sEa,sEb,sEc]);refine eT 20 hHeld ?_;(try simp only[Act.put,sEa,sEb,sEc])
         refine eR2 (i:=7) (j:=21) (by((simp only[gEa,gEb,gEc];try rfl))) (by((simp only[gEa,gEb,gEc];try rfl))) (by kernel_rfl) (by rfl) (fun K hK=>?_) (fun K hK=>?_)
         ·go_simp
          (with_reducible refine(HF.out _).mono ?_)
          rintro r v7 ⟨rfl,hb⟩
          have HX:=hid (HX.out.trans (hb.mono HX.out.size))
          clear hb
          refine hK.out _ _ (HS.out _ HX.out) (fun hHeld=>?_)
          clear hK K
          (try simp only[Act.put,sEa,sEb,sEc])
          refine eT 8 hHeld ?_;(try simp only[Act.put,sEa,sEb,sEc])
          refine eR 21 (fun K hK=>?_)
          go_simp
          obtain⟨v21,hw⟩: ∃w,w=World.alloc v7 (.cells #[.int .i64 y.dst,.int .i64 y.pay] 3):=⟨_,rfl⟩
          have HG:Hid (Blk v21 (World.heap v7).size 3 #[.int .i64 y.dst,.int .i64 y.pay]):=hid (by rw[hw];exact Blk.new _ _ _)
          have hb:Below (World.heap v7).size v7 v21:=by rw[hw];exact(Below.refl _ _).alloc (Nat.le_refl _) _
          rw[←hw]
          have HX:=hid (HX.out.trans (hb.mono HX.out.size))
          clear hb hw
          refine hK.out _ _ (HS.out _ HX.out) (fun hHeld=>?_)
          clear hK K
          (try simp only[Act.put,sEa,sEb,sEc])
          refine eR 22 (fun K hK=>?_)
          go_simp
          (with_reducible refine(HFI.out _ _ HG.out).mono ?_)
          rintro r v22 ⟨rfl,hb⟩
          have HX:=hid (HX.out.trans (hb.mono HX.out.size))
          clear hb
          refine hK.out _ _ (HS.out _ HX.out) (fun hHeld=>?_)
          clear hK K
          (try simp only[Act.put,sEa,sEb,sEc])
          refine eT 23 hHeld ?_;(try simp only[Act.put,sEa,sEb,sEc]);refine eL (fun K hK=>?_);go_simp;refine hK.out _ _ ?_;clear hK K;(try simp only[Act.put,sEa,sEb,sEc])
          have HN:Hid ((b++(s++s'))++((is.drop (j+1)).flatMap aRT++[])=T∧Below W1.heap.size W1 v22):=hid ⟨by rw[List.append_assoc,List.append_assoc];exact HT2.out,HX.out⟩
          clear HX HS HF HFI
          go_wp2
          go_roundg (im- (j+1))
          case measure=>have:=HJ.out;omega
          case rel=>exact⟨j+1,b++(s++s'),by have:=HJ.out;omega,by omega,rfl,by go_num,HN⟩
         ·go_simp
          obtain⟨v21,hw⟩: ∃w,w=World.drew (World.alloc wr (.cells #[.int .i64 y.dst,.int .i64 y.pay] 3)):=⟨_,rfl⟩
          have HG:Hid (Blk v21 (World.heap wr).size 3 #[.int .i64 y.dst,.int .i64 y.pay]):=hid (by rw[hw];exact Blk.new _ _ _)
          have hb:Below (World.heap wr).size wr v21:=by rw[hw];exact((Below.refl _ _).alloc (Nat.le_refl _) _).drew
          rw[←hw]
          have HX:=hid (HX0.out.trans (hb.mono HX0.out.size))
          clear hb hw
          refine hK.out _ _ (HS.out _ HX.out) (fun hHeld=>?_)
          clear hK K
          (try simp only[Act.put,sEa,sEb,sEc])
          refine eR 7 (fun K hK=>?_)
          go_simp
          (with_reducible refine(HF.out _).mono ?_)
          rintro r v7 ⟨rfl,hb⟩
          have HB7:=hid hb
          have HX:=hid (HX.out.trans (hb.mono HX.out.size))
          clear hb
          refine hK.out _ _ (HS.out _ HX.out) (fun hHeld=>?_)
          clear hK K
          (try simp only[Act.put,sEa,sEb,sEc])
          refine eT 8 hHeld ?_;(try simp only[Act.put,sEa,sEb,sEc])
          refine eR 22 (fun K hK=>?_)
          go_simp
          (with_reducible refine(HFI.out _ _ (HG.out.below HB7.out HG.out.lt)).mono ?_)
          rintro r v22 ⟨rfl,hb⟩
          have HX:=hid (HX.out.trans (hb.mono HX.out.size))
          clear hb
          refine hK.out _ _ (HS.out _ HX.out) (fun hHeld=>?_)
          clear hK K
          (try simp only[Act.put,sEa,sEb,sEc])
          refine eT 23 hHeld ?_;(try simp only[Act.put,sEa,sEb,sEc]);refine eL (fun K hK=>?_);go_simp;refine hK.out _ _ ?_;clear hK K;(try simp only[Act.put,sEa,sEb,sEc])
          have HN:Hid ((b++(s++s'))++((is.drop (j+1)).flatMap aRT++[])=T∧Below W1.heap.size W1 v22):=hid ⟨by rw[List.append_assoc,List.append_assoc];exact HT2.out,HX.out⟩
          clear HX HS HF HFI
          go_wp2
          go_roundg (im- (j+1))
          case measure=>have:=HJ.out;omega
          case rel=>exact⟨j+1,b++(s++s'),by have:=HJ.out;omega,by omega,rfl,by go_num,HN⟩
        ·have hji: ¬(j:Int)<(im:Int):=by omega
         have HE:Hid (b=T):=hid (by
          have:=HI.out.1
          rw[List.drop_of_length_le (by rw[←HM.out.ei];omega)]at this
          simpa using this)
         go_wp2
         go_ret
         exact⟨by rw[HE.out];rfl,hbw⟩
end
section
open Go.RowKit Go.Lib
structure Byr (B:Nat) (w:World) (v:Value) (l:Bs):Prop where
 form: ∃g c,v= .slice (some ⟨g,0,none⟩) l.length c∧B≤g∧g<w.heap.size∧l.length≤c∧(∀j u,(cB l)[j]? =some u→w.cell? ⟨g,j,none⟩=some u)∧(∀j,j<c→(w.cell? ⟨g,j,none⟩).isSome=true∧w.frozen? ⟨g,j,none⟩=false)
theorem atP (l:Bs):(cB l).length=l.length:=by simp[cB]
theorem Byr.below {B:Nat} {w w':World} {v:Value} {l:Bs} (h:Byr B w v l) (hb:Below w.heap.size w w'):Byr B w' v l:=by
 obtain⟨g,c,e,h1,h2,h3,h4,h5⟩:=h.form
 refine⟨g,c,e,h1,Nat.lt_of_lt_of_le h2 hb.size,h3,fun j u hu=>(World.cell?_of_block (a:=⟨g,j,none⟩) (hb.block g h2)).trans (h4 j u hu),fun j hj=>?_⟩
 rw[World.cell?_of_block (a:=⟨g,j,none⟩) (hb.block g h2),World.frozen?_of_block (a:=⟨g,j,none⟩) (hb.block g h2)]
 exact h5 j hj
theorem Byr.string {B:Nat} {w:World} {v:Value} {l:Bs} (h:Byr B w v l):(convert 73 9 v).run Tryz.prog w= .ok (.string (S l)) w:=by
 obtain⟨g,c,rfl,_,_,_,h4,_⟩:=h.form
 exact aTj l (fun j u hu=>by rw[Addr.add_mid,Nat.zero_add];exact h4 j u hu) rfl
theorem aVe (w:World) (l:Bs): ∃v W,(convert 9 73 (.string (S l))).run Tryz.prog w= .ok v W∧Byr w.heap.size W v l∧Below w.heap.size w W:=by
 have h:=Go.Lib.run_convert_string_bytes (P:=Tryz.prog) w 9 73 5 (S l) Tryz.underlying9 Tryz.underlying73 Tryz.underlying5
 have hsz:(bytesCells w 5 (S l)).size=grownCap w (S l).size 0 5:=by
  unfold bytesCells
  have:=grownCap_ge w (S l).size 0 5
  have h1:(S l).data.size=(S l).size:=rfl
  rw[Array.size_append,Array.size_map,Array.size_replicate,h1]
  omega
 have hge:=grownCap_ge w (S l).size 0 5
 rw[ja]at h hge hsz
 refine⟨_,_,h,⟨_,_,rfl,Nat.le_refl _,by rw[bytesWorld_size];omega,hge,fun j u hu=>?_,fun j hj=>⟨?_,?_⟩⟩,Go.Joins.below_bytesWorld _ _ _ _ (Nat.le_refl _)⟩
 ·have hj:j<l.length:=by have:=(List.getElem?_eq_some_iff.1 hu).1;rwa[atP]at this
  rw[bytesWorld_cell w 5 (S l) j (by rw[ja];exact hj),show(S l).data.toList=l by simp[S],←hu]
  simp[cB,List.getD,hj]
 ·unfold World.cell?
  simp only[bytesWorld_at_new]
  rw[Array.getElem?_eq_getElem (by rw[hsz];exact hj)]
  rfl
 ·unfold World.frozen?
  simp only[bytesWorld_at_new,Bool.and_eq_false_iff,decide_eq_false_iff_not]
  left
  rw[hsz];omega
theorem aTw {w:World} {B:Nat} {v:Value} {l:Bs} (x:Bs) (hv:Byr B w v l) (hB:B≤w.heap.size) (hl:l.length+x.length≤1000000) (ty:TypeId) {tx:TypeId} {vx:Value} (hsrc:Src Tryz.prog 1 tx vx x.length (cB x) w):
  ∃v' w',(Builtin.append_ #[73,tx] ty #[v,vx]).run Tryz.prog w= .ok v' w'∧Byr B w' v' (l++x)∧Below B w w':=by
 obtain⟨g,c,rfl,h1,h2,h3,h4,h5⟩:=hv.form
 obtain⟨i0,hi0,hz0,hz1,hz2⟩:=info_parts aVa
 by_cases hroom:l.length+x.length≤c
 ·have hr:=run_append_room_src (P:=Tryz.prog) w 73 tx ty 5 i0 Tryz.underlying73 hi0 g 0 l.length c vx x.length (cB x) (by rw[hz1];exact hsrc) hroom
   (fun j hj=>by rw[hz1];exact(h5 _ (by rw[atP]at hj;omega)).1) (fun j hj=>by rw[hz1];exact(h5 _ (by rw[atP]at hj;omega)).2)
  rw[hz1,Nat.mul_one,Nat.zero_add]at hr
  have hsome: ∀j,j<(cB x).length→(w.cell? ⟨g,l.length+j,none⟩).isSome=true:=fun j hj=>(h5 _ (by rw[atP]at hj;omega)).1
  refine⟨_,_,hr,⟨g,c,by rw[List.length_append],h1,?_,by rw[List.length_append];exact hroom,fun j u hu=>?_,fun j hj=>⟨?_,?_⟩⟩,?_⟩
  ·exact Nat.lt_of_lt_of_le h2 (yV g (cB x) l.length w).size
  ·have hcb:cB (l++x)=cB l++cB x:=by simp[cB]
   rw[hcb]at hu
   by_cases hj:j<l.length
   ·rw[World.cell?_setCells_out g (cB x) l.length w _ (fun _ _=>by simp;omega)]
    rw[List.getElem?_append_left (by rw[atP];exact hj)]at hu
    exact h4 j u hu
   ·rw[List.getElem?_append_right (by rw[atP];omega),atP]at hu
    have hlt:=(List.getElem?_eq_some_iff.1 hu).1
    have:=World.cell?_setCells_in g (cB x) l.length w hsome (j-l.length) hlt
    rw[show l.length+(j-l.length)=j by omega]at this
    rw[this,←hu,List.getElem?_eq_getElem hlt]
  ·by_cases hin:l.length≤j∧j<l.length+(cB x).length
   ·have:=World.cell?_setCells_in g (cB x) l.length w hsome (j-l.length) (by omega)
    rw[show l.length+(j-l.length)=j by omega]at this
    rw[this];rfl
   ·rw[atP]at hin
    rw[World.cell?_setCells_out g (cB x) l.length w _ (fun _ _=>by rw[atP];show j<l.length∨l.length+x.length≤j;omega)]
    exact(h5 j hj).1
  ·rw[World.frozen?_setCells];exact(h5 j hj).2
  ·exact(yV g (cB x) l.length w).to_below hB (fun b hb=>by rw[List.mem_singleton.1 hb];exact h1)
 ·have hold:(Builtin.firstCells i0.size l.length (.slice (some ⟨g,0,none⟩) l.length c)).run Tryz.prog w.drew= .ok (cB l).toArray w.drew:=by
   rw[hz1]
   exact run_firstCells_some w.drew 1 l.length ⟨g,0,none⟩ l.length c (cB l) (by rw[atP,Nat.mul_one]) (fun j u hu=>by rw[Addr.add_mid,Nat.zero_add];exact h4 j u hu)
  have hr:=run_append_grow_src (P:=Tryz.prog) w 73 tx ty 5 i0 _ Tryz.underlying73 hi0 hz0 (some ⟨g,0,none⟩) l.length c (cB l) hold vx x.length (cB x) (by rw[hz1];exact hsrc) (by omega) (by omega)
   (growslice_fits (by omega) (by rw[hz2];omega))
  have hge:=grownCap_ge w (l.length+x.length) c 5
  refine⟨_,_,hr,⟨w.heap.size,_,by rw[List.length_append],hB,by simp,by rw[List.length_append];exact hge,fun j u hu=>?_,fun j hj=>⟨?_,World.frozen?_alloc_new w.drew _ _ j⟩⟩,?_⟩
  ·have e1:=World.cell?_alloc_new w.drew (((cB l++cB x).toArray++Builtin.zeroCells (Value.int .u8 0).cells (grownCap w (l.length+x.length) c 5- (l.length+x.length)))) 5 j
   have hcb:cB (l++x)=cB l++cB x:=by simp[cB]
   rw[hcb]at hu
   refine e1.trans ?_
   rw[Array.getElem?_append_left (by simpa using(List.getElem?_eq_some_iff.1 hu).1),List.getElem?_toArray]
   exact hu
  ·have e1:=World.cell?_alloc_new w.drew (((cB l++cB x).toArray++Builtin.zeroCells (Value.int .u8 0).cells (grownCap w (l.length+x.length) c 5- (l.length+x.length)))) 5 j
   have e2:(w.drew.alloc (.cells (((cB l++cB x).toArray++Builtin.zeroCells (Value.int .u8 0).cells (grownCap w (l.length+x.length) c 5- (l.length+x.length)))) 5)).cell? ⟨w.heap.size,j,none⟩=_:=e1
   rw[e2,Array.getElem?_eq_getElem (by
    rw[Array.size_append,size_zeroCells]
    simp[cB,Value.cells]
    omega)]
   rfl
  ·exact(Z0 (Below.refl B w) 1).alloc hB _
theorem aU9 (w:World) (x:Bs):Src Tryz.prog 1 9 (.string (S x)) x.length (cB x) w:=by
 have hsrc:=Src.ofString (P:=Tryz.prog) w (tx:=9) Tryz.underlying9 (S x)
 have hbc:byteCells (S x)=cB x:=by unfold byteCells cB;simp[S]
 rw[hbc,ja]at hsrc
 exact hsrc
theorem aU8 (w:World) (x:UInt8) {z:Int} (hz:z=(x.toNat:Int)):Src Tryz.prog 1 73 (.slice (some ⟨w.heap.size,0,none⟩) 1 1) 1 (cB [x]) (w.alloc (.cells #[.int .u8 z] 5)):=by
 subst hz
 exact Src.ofSlice _ Tryz.underlying73 _ 1 1 (cB [x]) rfl (fun j u hu=>by
  have hb:Blk (w.alloc (.cells #[.int .u8 (x.toNat:Int)] 5)) w.heap.size 5 #[.int .u8 (x.toNat:Int)]:=Blk.new _ _ _
  rw[Addr.add_mid,Nat.zero_add,hb.cell]
  simpa[cB]using hu) (by intro u hu;simp[cB]at hu;subst hu;rfl)
theorem aUl {w:World} {ops:Array Oper} {rest:List Oper} {o:Oper} {a:Act} {Q:Exit→Act→World→Prop} (hgd:o.guard=none) (s x:Operand) (tx:TypeId) {vx:Value}
  (ho:o.op= .call { callee:= .builtin .append,args:= #[s,x],argTypes:= #[73,tx] }) {B:Nat} {v:Value} {l y:Bs} (hv:Byr B w v l) (hB:B≤w.heap.size) (hl:l.length+y.length≤1000000)
  (hsrc:Src Tryz.prog 1 tx vx y.length (cB y) w) (hs:a.eval s=v) (hx:a.eval x=vx) (h: ∀v' w',Byr B w' v' (l++y)→Below B w w'→wpList Tryz.prog ops Q rest (a.put o.dst v') w'):wpList Tryz.prog ops Q (o::rest) a w:=by
 refine wpList_plain hgd fun K hK=>?_
 obtain⟨v',w',hr,h2,h3⟩:=aTw y hv hB hl o.type hsrc
 unfold Oper.wp execOp
 simp only[ho,resolve,invoke,builtin,Sem.run_bind,Sem.run_pure,Result.andThen_ok,List.map_toArray,List.map_cons,List.map_nil,hs,hx,hr]
 exact hK _ _ (h v' w' h2 h3)
theorem Byr.mono {B C:Nat} {w:World} {v:Value} {l:Bs} (h:Byr B w v l) (hC:C≤B):Byr C w v l:=by
 obtain⟨g,c,e,h1,h2⟩:=h.form
 exact⟨g,c,e,Nat.le_trans hC h1,h2⟩
theorem Byr.slice {B:Nat} {w:World} {v:Value} {l:Bs} (h:Byr B w v l): ∃p c,v= .slice p l.length c:=by
 obtain⟨g,c,rfl,_⟩:=h.form
 exact⟨_,_,rfl⟩
end
end Go.Proofs.YtcdiljebkpikbaaGreat
