/- Parts of the proof: Sep Ew. -/
import Derived.Test.YtcdiljebkpikbaaGreatU31
import Derived.Test.YtcdiljebkpikbaaGreatU32
import Derived.Test.YtcdiljebkpikbaaGreatU33
import Derived.Test.YtcdiljebkpikbaaGreatU36
set_option linter.all false
set_option maxRecDepth 100000
set_option maxHeartbeats 64000000
namespace Go.Proofs.YtcdiljebkpikbaaGreat
section
open Go.RowKit Go.Lib
theorem af2 (l:List Bool):(XV l).length≤l.length+1:=by
 unfold XV
 split
 ·simp
 ·simp
theorem X3 {x:Int} (h:YH x=true):(Xb x).length≤100:=by
 obtain⟨h1,h2,h3⟩:=aam h
 rw[h1]
 exact X4 _ (by omega)
theorem Qh {x:Int} (h:YH x=true):okZ x:=by
 obtain⟨h1,h2,h3⟩:=aam h
 unfold okZ
 omega
theorem aCB (s1 s2 s3:Bs):S ([99,114,97,115,104,32]++s1++[32]++s2++[32]++s3)=({ data:= #[99,114,97,115,104,32] } :ByteArray)++S s1++({ data:= #[32] } :ByteArray)++S s2++({ data:= #[32] } :ByteArray)++S s3:=by
 rw[←qz,←qz,←qz,←qz,←qz]
 rfl
theorem aCA (s1 s2:Bs):S (s1++[32]++s2)=S s1++({ data:= #[32] } :ByteArray)++S s2:=by
 rw[←qz,←qz]
 rfl
theorem aMD (k:Nat):(kw k).length≤10:=by
 unfold kw
 split<;>decide
theorem aR2 {a:Ac} (hk:a.kind=7) (h:okA a=true):YH a.torn=true∧YH a.bytes=true∧a.keep.length≤64:=by
 unfold okA at h
 rw[hk]at h
 simpa using h
theorem aR4 {a:Ac} (h3:a.kind≠3) (h7:a.kind≠7) (h:okA a=true):YH a.n=true:=by
 unfold okA at h
 rw[if_neg h3,if_neg h7]at h
 simp only[Bool.and_eq_true]at h
 exact h.2
theorem aR3 {a:Ac} (h:okA a=true):1≤a.kind∧a.kind≤9:=by
 unfold okA at h
 simp only[Bool.and_eq_true,decide_eq_true_eq]at h
 exact h.1
theorem aaZ {W:World} {a:AcV} (ha:acd W a) (h:okA a.ac=true):Calls Tryz.prog 27 #[.agg #[.int .i64 a.kind,.int .i64 a.n,.slice a.kp a.kn a.kc,.int .i64 a.torn,.int .i64 a.bytes]] W fun r w'=>r= .returned (.tuple #[.string (S (kH a.ac)),.bool true])∧Below W.heap.size W w':=by
 obtain⟨kd,n,kp,kn,kc,kl,tt,bb⟩:=a
 obtain⟨k1,k2⟩:=aR3 h
 dsimp only[AcV.ac]at k1 k2
 have HK:=hid (⟨k1,k2⟩:_∧_)
 have hn:=ha.n
 have hv:=ha.k
 dsimp only at hn hv
 have HN:=hid hn
 clear hn
 obtain⟨xb,hxb⟩: ∃k,k=W.heap.size:=⟨_,rfl⟩
 obtain⟨w1,hw1⟩: ∃w,w=W.alloc (.cells #[.int .i64 kd,.int .i64 n,.slice kp kn kc,.int .i64 tt,.int .i64 bb] 53):=⟨_,rfl⟩
 have hB:Blk w1 xb 53 #[.int .i64 kd,.int .i64 n,.slice kp kn kc,.int .i64 tt,.int .i64 bb]:=by rw[hw1,hxb];exact Blk.new _ _ _
 have HB:=hid (⟨hB,(by rw[hw1];exact(Below.refl _ W).alloc (Nat.le_refl _) _:Below W.heap.size W w1),hxb,hw1⟩:_∧_∧_∧_)
 obtain⟨⟨c0,c1,c2,c3,c4⟩,_,_⟩:=yq hB
 clear hB hxb hw1 ha
 by_cases h3:kd=3
 ·subst h3
  have HL:Hid (kH (AcV.ac ⟨3,n,kp,kn,kc,kl,tt,bb⟩)=[114,111,117,110,100]):=hid rfl
  rw[HL.out]
  go_enter Tryz.func27,Tryz.ntmps27
  go_upto_region 1 with fail
  rw[←HB.out.2.2.1,←HB.out.2.2.2]
  go_wp2
  go_ret2
  exact⟨rfl,HB.out.2.1⟩
 ·by_cases h7:kd=7
  ·subst h7
   obtain⟨m1,m2,m3⟩:=aR2 rfl h
   dsimp only[AcV.ac]at m1 m2 m3
   have HLE:=hid (Ki kl kp kn kc HN.out (by omega) w1.drew ((hv.below HB.out.2.1).below (Below.refl w1.heap.size w1).drew))
   have HD1:=hid (fun w=>vl (Qh m1) w)
   have HD2:=hid (fun w=>vl (Qh m2) w)
   have HM1:Hid (∀w,Calls Tryz.prog 36 #[.int .i64 tt] w fun e w'=>e= .returned (.bool true)∧w=w'):=hid fun w=>by rw[←m1];exact QE tt w
   have HM2:Hid (∀w,Calls Tryz.prog 36 #[.int .i64 bb] w fun e w'=>e= .returned (.bool true)∧w=w'):=hid fun w=>by rw[←m2];exact QE bb w
   have l1:=af2 kl
   have l2:=X3 m1
   have l3:=X3 m2
   obtain⟨s1,hs1⟩: ∃s,s=XV kl:=⟨_,rfl⟩
   obtain⟨s2,hs2⟩: ∃s,s=Xb tt:=⟨_,rfl⟩
   obtain⟨s3,hs3⟩: ∃s,s=Xb bb:=⟨_,rfl⟩
   have HL:Hid (kH (AcV.ac ⟨7,n,kp,kn,kc,kl,tt,bb⟩)=[99,114,97,115,104,32]++s1++[32]++s2++[32]++s3):=hid (by
    rw[hs1,hs2,hs3]
    show abI [kw 7,XV kl,Xb tt,Xb bb]=_
    simp[abI,kw])
   obtain⟨sx,hsx⟩: ∃sx,sx=kH (AcV.ac ⟨7,n,kp,kn,kc,kl,tt,bb⟩):=⟨_,rfl⟩
   have HSX:Hid (S sx=({ data:= #[99,114,97,115,104,32] } :ByteArray)++S s1++({ data:= #[32] } :ByteArray)++S s2++({ data:= #[32] } :ByteArray)++S s3):=hid (by rw[hsx,HL.out,aCB])
   rw[←hsx]
   clear hsx HL
   rw[←hs1]at HLE l1
   rw[←hs2]at HD1 l2
   rw[←hs3]at HD2 l3
   have hl1:s1.length≤65:=by omega
   have hkn:(kn:Int)≤64:=by have:=HN.out;omega
   clear hs1 hs2 hs3 m1 m2 l1 h HK hv
   go_enter Tryz.func27,Tryz.ntmps27
   go_upto_region 6 with fail
   rw[←HB.out.2.2.1,←HB.out.2.2.2]
   refine zB (fun W'=>W'.cell? ⟨xb,0,none⟩=some (.int .i64 7)∧W'.cell? ⟨xb,1,none⟩=some (.int .i64 n)∧W'.cell? ⟨xb,2,none⟩=some (.slice kp kn kc)∧W'.cell? ⟨xb,3,none⟩=some (.int .i64 tt)∧W'.cell? ⟨xb,4,none⟩=some (.int .i64 bb)) 35 (by kernel_rfl) ⟨c0,c1,c2,c3,c4⟩ (fun hHeld=>?_)
   have HX:Hid (Below w1.heap.size w1 w1.drew):=hid (Below.refl w1.heap.size w1).drew
   refine eT 0 hHeld ?_;(try simp only[Act.put,sEa,sEb,sEc]);refine eT 1 hHeld ?_;(try simp only[Act.put,sEa,sEb,sEc]);refine eT 2 hHeld ?_;(try simp only[Act.put,sEa,sEb,sEc]);refine eT 6 hHeld ?_;(try simp only[Act.put,sEa,sEb,sEc]);refine eT 7 hHeld ?_;(try simp only[Act.put,sEa,sEb,sEc]);refine eT 8 hHeld ?_;(try simp only[Act.put,sEa,sEb,sEc]);refine eT 12 hHeld ?_;(try simp only[Act.put,sEa,sEb,sEc]);refine eT 13 hHeld ?_;(try simp only[Act.put,sEa,sEb,sEc]);refine eT 14 hHeld ?_;(try simp only[Act.put,sEa,sEb,sEc]);refine eT 17 hHeld ?_;(try simp only[Act.put,sEa,sEb,sEc]);refine eT 18 hHeld ?_;(try simp only[Act.put,sEa,sEb,sEc]);refine eT 19 hHeld ?_;(try simp only[Act.put,sEa,sEb,sEc])
   refine eR 3 (fun K hK=>?_)
   go_simp
   (with_reducible refine(HLE.out).mono ?_)
   rintro r w9 ⟨rfl,rfl⟩
   refine hK.out _ _ hHeld (fun hHeld=>?_)
   clear hK K
   (try simp only[Act.put,sEa,sEb,sEc])
   have q2: ¬9223372036854775807<6+s1.length:=by omega
   have q3: ¬9223372036854775807<6+s1.length+1:=by omega
   have q4: ¬9223372036854775807<6+s1.length+1+s2.length:=by omega
   have q5: ¬9223372036854775807<6+s1.length+1+s2.length+1:=by omega
   have q6: ¬9223372036854775807<6+s1.length+1+s2.length+1+s3.length:=by omega
   refine eT 4 hHeld ?_;(try simp only[Act.put,sEa,sEb,sEc]);refine eT 5 hHeld ?_;(try simp only[Act.put,sEa,sEb,sEc])
   refine eR 9 (fun K hK=>?_)
   go_simp
   (with_reducible refine(HD1.out _).mono ?_)
   rintro r w9 ⟨rfl,hb⟩
   have HX:=hid (HX.out.trans (hb.mono HX.out.size))
   obtain⟨⟨c0,c1,c2,c3,c4⟩,_,_⟩:=yq (HB.out.1.below HX.out HB.out.1.lt)
   clear hb
   refine hK.out _ _ ⟨c0,c1,c2,c3,c4⟩ (fun hHeld=>?_)
   clear hK K
   (try simp only[Act.put,sEa,sEb,sEc])
   refine eT 10 hHeld ?_;(try simp only[Act.put,sEa,sEb,sEc]);refine eT 11 hHeld ?_;(try simp only[Act.put,sEa,sEb,sEc])
   refine eR 15 (fun K hK=>?_)
   go_simp
   (with_reducible refine(HD2.out _).mono ?_)
   rintro r w15 ⟨rfl,hb⟩
   have HX:=hid (HX.out.trans (hb.mono HX.out.size))
   obtain⟨⟨c0,c1,c2,c3,c4⟩,_,_⟩:=yq (HB.out.1.below HX.out HB.out.1.lt)
   clear hb
   refine hK.out _ _ ⟨c0,c1,c2,c3,c4⟩ (fun hHeld=>?_)
   clear hK K
   (try simp only[Act.put,sEa,sEb,sEc])
   refine eT 16 hHeld ?_;(try simp only[Act.put,sEa,sEb,sEc])
   refine eR 20 (fun K hK=>?_)
   go_simp
   (with_reducible refine(HM1.out _).mono ?_)
   rintro r w9 ⟨rfl,rfl⟩
   refine hK.out _ _ hHeld (fun hHeld=>?_)
   clear hK K
   (try simp only[Act.put,sEa,sEb,sEc])
   refine eT 21 hHeld ?_;(try simp only[Act.put,sEa,sEb,sEc]);refine eT 22 hHeld ?_;(try simp only[Act.put,sEa,sEb,sEc]);refine eT 23 hHeld ?_;(try simp only[Act.put,sEa,sEb,sEc]);refine eT 24 hHeld ?_;(try simp only[Act.put,sEa,sEb,sEc])
   refine eR 25 (fun K hK=>?_)
   go_simp
   (with_reducible refine(HM2.out _).mono ?_)
   rintro r w9 ⟨rfl,rfl⟩
   refine hK.out _ _ hHeld (fun hHeld=>?_)
   clear hK K
   (try simp only[Act.put,sEa,sEb,sEc])
   refine eT 26 hHeld ?_;(try simp only[Act.put,sEa,sEb,sEc]);refine eT 27 hHeld ?_;(try simp only[Act.put,sEa,sEb,sEc]);refine eT 28 hHeld ?_;(try simp only[Act.put,sEa,sEb,sEc]);refine eT 29 hHeld ?_;(try simp only[Act.put,sEa,sEb,sEc]);refine eT 30 hHeld ?_;(try simp only[Act.put,sEa,sEb,sEc]);refine eT 31 hHeld ?_;(try simp only[Act.put,sEa,sEb,sEc]);refine eT 32 hHeld ?_;(try simp only[Act.put,sEa,sEb,sEc]);refine eT 33 hHeld ?_;(try simp only[Act.put,sEa,sEb,sEc]);refine eT 34 hHeld ?_;(try simp only[Act.put,sEa,sEb,sEc]);refine eL (fun K hK=>?_);go_simp;refine hK.out _ _ ?_;clear hK K;(try simp only[Act.put,sEa,sEb,sEc])
   go_wp2
   go_ret2
   exact⟨by rw[HSX.out];rfl,HB.out.2.1.trans (HX.out.mono HB.out.2.1.size)⟩
  ·have m1:=aR4 (a:=AcV.ac ⟨kd,n,kp,kn,kc,kl,tt,bb⟩) h3 h7 h
   dsimp only[AcV.ac]at m1
   obtain⟨k,hk⟩: ∃k:Nat,(k:Int)=kd:=⟨kd.toNat,by omega⟩
   subst hk
   have HNM:=hid (aaG k (by omega) w1.drew)
   have HD1:=hid (fun w=>vl (Qh m1) w)
   have HM1:Hid (∀w,Calls Tryz.prog 36 #[.int .i64 n] w fun e w'=>e= .returned (.bool true)∧w=w'):=hid fun w=>by rw[←m1];exact QE n w
   have l2:=X3 m1
   have l1:=aMD k
   obtain⟨s1,hs1⟩: ∃s,s=kw k:=⟨_,rfl⟩
   obtain⟨s2,hs2⟩: ∃s,s=Xb n:=⟨_,rfl⟩
   have HL:Hid (kH (AcV.ac ⟨k,n,kp,kn,kc,kl,tt,bb⟩)=s1++[32]++s2):=hid (by
    rw[hs1,hs2]
    unfold kH aos AcV.ac
    rw[if_pos ⟨k1,k2⟩,if_neg h3,if_neg h7]
    simp[abI,kwI])
   obtain⟨sx,hsx⟩: ∃sx,sx=kH (AcV.ac ⟨k,n,kp,kn,kc,kl,tt,bb⟩):=⟨_,rfl⟩
   have HSX:Hid (S sx=S s1++({ data:= #[32] } :ByteArray)++S s2):=hid (by rw[hsx,HL.out,aCA])
   rw[←hsx]
   clear hsx HL
   rw[←hs1]at HNM l1
   rw[←hs2]at HD1 l2
   have k3:((k:Int)==3)=false:=by rw[beq_eq_false_iff_ne];exact h3
   have k7:((k:Int)==7)=false:=by rw[beq_eq_false_iff_ne];exact h7
   have k4: ¬(k:Int)<1:=by omega
   have k5: ¬9<(k:Int):=by omega
   clear hs1 hs2 m1 h HK hv h3 h7 HN
   go_enter Tryz.func27,Tryz.ntmps27
   go_upto_region 7 with fail
   rw[←HB.out.2.2.1,←HB.out.2.2.2]
   refine zB (fun W'=>W'.cell? ⟨xb,0,none⟩=some (.int .i64 k)∧W'.cell? ⟨xb,1,none⟩=some (.int .i64 n)∧W'.cell? ⟨xb,2,none⟩=some (.slice kp kn kc)∧W'.cell? ⟨xb,3,none⟩=some (.int .i64 tt)∧W'.cell? ⟨xb,4,none⟩=some (.int .i64 bb)) 12 (by kernel_rfl) ⟨c0,c1,c2,c3,c4⟩ (fun hHeld=>?_)
   have HX:Hid (Below w1.heap.size w1 w1.drew):=hid (Below.refl w1.heap.size w1).drew
   refine eT 0 hHeld ?_;(try simp only[Act.put,sEa,sEb,sEc]);refine eT 1 hHeld ?_;(try simp only[Act.put,sEa,sEb,sEc]);refine eT 4 hHeld ?_;(try simp only[Act.put,sEa,sEb,sEc]);refine eT 5 hHeld ?_;(try simp only[Act.put,sEa,sEb,sEc]);refine eT 8 hHeld ?_;(try simp only[Act.put,sEa,sEb,sEc]);refine eT 9 hHeld ?_;(try simp only[Act.put,sEa,sEb,sEc])
   refine eR 2 (fun K hK=>?_)
   go_simp
   (with_reducible refine(HNM.out).mono ?_)
   rintro r w2 ⟨rfl,hb⟩
   have HX:=hid (HX.out.trans (hb.mono HX.out.size))
   obtain⟨⟨c0,c1,c2,c3,c4⟩,_,_⟩:=yq (HB.out.1.below HX.out HB.out.1.lt)
   clear hb
   refine hK.out _ _ ⟨c0,c1,c2,c3,c4⟩ (fun hHeld=>?_)
   clear hK K
   (try simp only[Act.put,sEa,sEb,sEc])
   have q2: ¬9223372036854775807<s1.length+1:=by omega
   have q3: ¬9223372036854775807<s1.length+1+s2.length:=by omega
   refine eT 3 hHeld ?_;(try simp only[Act.put,sEa,sEb,sEc])
   refine eR 6 (fun K hK=>?_)
   go_simp
   (with_reducible refine(HD1.out _).mono ?_)
   rintro r w6 ⟨rfl,hb⟩
   have HX:=hid (HX.out.trans (hb.mono HX.out.size))
   obtain⟨⟨c0,c1,c2,c3,c4⟩,_,_⟩:=yq (HB.out.1.below HX.out HB.out.1.lt)
   clear hb
   refine hK.out _ _ ⟨c0,c1,c2,c3,c4⟩ (fun hHeld=>?_)
   clear hK K
   (try simp only[Act.put,sEa,sEb,sEc])
   refine eT 7 hHeld ?_;(try simp only[Act.put,sEa,sEb,sEc])
   refine eR 10 (fun K hK=>?_)
   go_simp
   (with_reducible refine(HM1.out _).mono ?_)
   rintro r w9 ⟨rfl,rfl⟩
   refine hK.out _ _ hHeld (fun hHeld=>?_)
   clear hK K
   (try simp only[Act.put,sEa,sEb,sEc])
   refine eT 11 hHeld ?_;(try simp only[Act.put,sEa,sEb,sEc]);refine eL (fun K hK=>?_);go_simp;refine hK.out _ _ ?_;clear hK K;(try simp only[Act.put,sEa,sEb,sEc])
   go_wp2
   go_ret2
   exact⟨by rw[HSX.out];rfl,HB.out.2.1.trans (HX.out.mono HB.out.2.1.size)⟩
end
section
open Go.RowKit Go.Lib
section
variable {W:World} {x:MdV}
def aio (x:MdV):Bool:=decide ((1:Int)≤x.ln∧(x.ln:Int)≤6)&&(decide ((1:Int)≤x.pn∧(x.pn:Int)≤4)&&(decide ((1:Int)≤x.dn∧(x.dn:Int)≤8)&&decide ((x.im:Int)≤16)))
theorem abr (x:MdV) (W:World):
  Calls Tryz.prog 106 #[.agg (mdC x).toArray] W fun r w'=>r= .returned (.bool (aio x))∧Below W.heap.size W w':=by
 have HB:=hid ((Below.refl _ W).alloc (Nat.le_refl _) (.cells (mdC x).toArray 29))
 have HW:=hid (fun (n a b:Int) (z:Bool) (h:z=decide (a≤n∧n≤b)) W=>(h▸qG n a b W:Calls Tryz.prog 109 #[.int .i64 n,.int .i64 a,.int .i64 b] W fun r w'=>r= .returned (.bool z)∧W=w'))
 unfold aio
 unfold mdC at HB⊢
 obtain⟨b1,h1⟩: ∃b,b=decide ((1:Int)≤x.ln∧(x.ln:Int)≤6):=⟨_,rfl⟩
 obtain⟨b2,h2⟩: ∃b,b=decide ((1:Int)≤x.pn∧(x.pn:Int)≤4):=⟨_,rfl⟩
 obtain⟨b3,h3⟩: ∃b,b=decide ((1:Int)≤x.dn∧(x.dn:Int)≤8):=⟨_,rfl⟩
 rw[←h1,←h2,←h3]
 have H1:=hid (HW.out _ _ _ _ h1)
 have H2:=hid (HW.out _ _ _ _ h2)
 have H3:=hid (HW.out _ _ _ _ h3)
 clear h1 h2 h3 HW
 cases b1
 all_goals cases b2
 all_goals cases b3
 all_goals
  go_enter Tryz.func106,Tryz.ntmps106
  go_wp2_with (first | ((with_reducible refine(H1.out _).mono ?_);rintro r w' ⟨rfl,rfl⟩) | ((with_reducible refine(H2.out _).mono ?_);rintro r w' ⟨rfl,rfl⟩) | ((with_reducible refine(H3.out _).mono ?_);rintro r w' ⟨rfl,rfl⟩))
  go_ret
  exact⟨rfl,HB.out⟩
theorem aAX {d:Nat} (h:jm d=true):dlB d=false:=by
 unfold dlB fgt
 rw[jC h]
 rfl
def lpR (n:Nat) (q:LpR):Bool:=decide ((0:Int)≤q.k∧q.k≤(n:Int) -1)&&decide ((q.n:Int)≤8)
def aaz (n:Nat) (y:Ini):Bool:= !jm y.t&&decide ((0:Int)≤y.dst∧y.dst≤(n:Int) -1)
theorem aag (h:qZ W x):yM x.m=((aio x&& !jm x.en)&&(x.dl.all dlB&&(x.ps.all (fun q=>xf q.l)&&(x.ls.all (lpR x.pn)&&x.is.all (aaz x.ln))))):=by
 have e1:X1 x.m=(aio x&& !jm x.en):=by
  unfold X1 aio MdV.m
  simp only[List.length_map,←Bool.decide_and]
  congr 1
  rw[←h.pn,←h.ln,←h.dn,←h.im]
  exact decide_eq_decide.2 (by omega)
 have e2:x.m.pr.all xf=x.ps.all (fun q=>xf q.l):=by unfold MdV.m;simp only[List.all_map];rfl
 have e3:x.m.lp.all (lpB x.m.pr.length)=x.ls.all (lpR x.pn):=by
  unfold MdV.m
  simp only[List.all_map,List.length_map]
  rw[Bool.eq_iff_iff,List.all_eq_true,List.all_eq_true]
  have hz: ∀q∈x.ls,((lpB x.ps.length∘fun q=>(q.k,q.l)) q=true↔lpR x.pn q=true):=fun q hq=>by
   unfold lpB lpR
   simp only[Function.comp,←Bool.decide_and,decide_eq_true_eq]
   rw[←(h.li q hq).1,←h.pn]
   omega
  exact⟨fun g q hq=>(hz q hq).1 (g q hq),fun g q hq=>(hz q hq).2 (g q hq)⟩
 have e4:x.m.ini.all (aRS x.m.lp.length)=x.is.all (aaz x.ln):=by
  unfold MdV.m
  simp only[List.length_map]
  rw[←h.ln]
  congr 1
  funext y
  unfold aRS aaz
  congr 1
  exact decide_eq_decide.2 (by omega)
 unfold yM
 rw[e1,e2,e3,e4]
 rfl
theorem abN (h:qZ W x) (hd:x.dn≤1000) (hp:x.pn≤1000) (hl:x.ln≤1000) (hi:x.im≤1000) (hq: ∀q∈x.ps,q.n≤1000):
  Calls Tryz.prog 60 #[.agg (mdC x).toArray] W fun r w'=>r= .returned (.int .i64 (if yM x.m=true then 0 else 15))∧Below W.heap.size W w':=by
 obtain⟨W1,hW1⟩: ∃W1,W1=W.alloc (.cells (mdC x).toArray 29):=⟨_,rfl⟩
 have hb1:Below W.heap.size W W1:=by rw[hW1];exact(Below.refl _ W).alloc (Nat.le_refl _) _
 have hB1:=MdB.new h
 rw[←hW1]at hB1
 obtain⟨e0,he0⟩: ∃e:Int,e=if yM x.m=true then 0 else 15:=⟨_,rfl⟩
 rw[←he0]
 rw[aag h]at he0
 have HE:=hid he0
 obtain⟨dp,hdp⟩: ∃p,p=x.dp:=⟨_,rfl⟩
 obtain⟨pp,hpp⟩: ∃p,p=x.pp:=⟨_,rfl⟩
 obtain⟨lp,hlp⟩: ∃p,p=x.lp:=⟨_,rfl⟩
 obtain⟨ip,hip⟩: ∃p,p=x.ip:=⟨_,rfl⟩
 have HC:Hid (∀W',Below W1.heap.size W1 W'→(W'.cell? ⟨W.heap.size,0,none⟩=some (.int .i64 x.seed)∧W'.cell? ⟨W.heap.size,1,none⟩=some (.float .f64 x.en)∧W'.cell? ⟨W.heap.size,2,none⟩=some (.slice dp x.dn x.dc)∧W'.cell? ⟨W.heap.size,3,none⟩=some (.slice pp x.pn x.pc)∧W'.cell? ⟨W.heap.size,4,none⟩=some (.slice lp x.ln x.lc)∧W'.cell? ⟨W.heap.size,5,none⟩=some (.slice ip x.im x.ic))∧qZ W' x∧Below W.heap.size W W'):=hid fun W' hW=>by
  have:=hB1.below hW
  rw[hdp,hpp,hlp,hip]
  exact⟨this.c,this.2,hb1.trans (hW.mono hb1.size)⟩
 have HCN:=hid (fun W=>abr x W)
 have HNN:=hid (fun b W=>ag2 b W)
 have HH:=hid (⟨h,hq⟩:_∧_)
 have HW1:=hid hW1
 have HD:=hid hdp
 have HP:=hid hpp
 have HL:=hid hlp
 have HI:=hid hip
 unfold mdC at HCN HW1⊢
 rw[←hdp,←hpp,←hlp,←hip]at HCN HW1⊢
 clear h hq hW1 hb1 hB1 he0 hdp hpp hlp hip
 obtain⟨b0,hb0⟩: ∃b,b=aio x:=⟨_,rfl⟩
 obtain⟨n0,hn0⟩: ∃b,b=jm x.en:=⟨_,rfl⟩
 rw[←hb0]at HCN
 have HN0:Hid (∀W',Calls Tryz.prog 107 #[.float .f64 x.en] W' fun e w'=>e= .returned (.bool n0)∧W'=w'):=hid fun W'=>by rw[hn0];exact HNN.out _ W'
 rw[←hb0,←hn0]at HE
 clear hb0 hn0
 go_enter Tryz.func60,Tryz.ntmps60
 go_upto_region 1 with fail
 rw[←HW1.out]
 go_cut [3]from 12 to 19 (fun s3 wc=>s3= .bool (b0&& !n0)∧Hid (Below W1.heap.size W1 wc))
 case first=>
  obtain⟨⟨c0,c1,c2,c3,c4,c5⟩,_,_⟩:=HC.out W1 (Below.refl _ _)
  go_wp2_with fail
  (with_reducible refine(HCN.out _).mono ?_)
  rintro r w1 ⟨rfl,hbw⟩
  clear c0 c1 c2 c3 c4 c5
  obtain⟨⟨c0,c1,c2,c3,c4,c5⟩,_,_⟩:=HC.out w1 hbw
  have HBW:=hid hbw
  clear hbw
  cases b0
  all_goals
   go_wp2_with ((with_reducible refine(HN0.out _).mono ?_);rintro r w' ⟨rfl,rfl⟩)
   go_meet
   case rel=>exact⟨rfl,HBW⟩
 case rest =>
  obtain⟨rfl,HBW⟩:=hcut
  obtain⟨a0,ha0⟩: ∃a,a=(b0&& !n0):=⟨_,rfl⟩
  rw[←ha0]at HE⊢
  clear ha0 HCN HN0
  obtain⟨⟨c0,c1,c2,c3,c4,c5⟩,_,_⟩:=HC.out wc HBW.out
  go_wp2
  go_loopg [3,23] x.dn (fun gg s3 s23 wr=> ∃(j:Nat) (b:Bool),j≤x.dn∧x.dn-j≤gg∧s3= .bool b∧s23= .int .i64 j∧Hid (b=(a0&&(x.dl.take j).all dlB))∧wc=wr)
  case atStart=>exact⟨0,a0,by omega,by omega,rfl,rfl,hid (by simp),rfl⟩
  case round=>
   obtain⟨j,b,hj,hgg,rfl,rfl,HJ,hwr⟩:=hrel
   subst hwr
   by_cases hjn:j<x.dn
   ·obtain⟨d,hd'⟩: ∃d,x.dl[j]? =some d:=⟨_,List.getElem?_eq_getElem (by rw[←HH.out.1.dn];exact hjn)⟩
    obtain⟨g,o,e1,m0⟩:=(HC.out wc HBW.out).2.1.dly hd'
    obtain rfl:dp=some ⟨g,o,none⟩:=HD.out.trans e1
    have hji:(j:Int)<(x.dn:Int):=by omega
    have hjz:(x.dn:Int)≤1000:=by omega
    have HJN:=hid hjn
    have HX:Hid ((x.dl.take (j+1)).all dlB=((x.dl.take j).all dlB&&dlB d)):=hid (zD _ hd')
    clear hd' e1
    cases b with
    |false=>
     go_wp2
     go_roundg (x.dn- (j+1))
     case measure=>omega
     case rel=>exact⟨j+1,false,by have:=HJN.out;omega,by omega,rfl,by go_num,hid (by rw[HX.out,←Bool.and_assoc,←HJ.out];rfl),rfl⟩
    | true=>
     obtain⟨nd,hnd⟩: ∃b,b=jm d:=⟨_,rfl⟩
     have HNd:Hid (∀W',Calls Tryz.prog 107 #[.float .f64 d] W' fun e w'=>e= .returned (.bool nd)∧W'=w'):=hid fun W'=>by rw[hnd];exact HNN.out _ W'
     have HND:=hid hnd
     clear hnd
     cases nd
     ·go_wp2_with ((with_reducible refine(HNd.out _).mono ?_);rintro r w' ⟨rfl,rfl⟩)
      go_roundg (x.dn- (j+1))
      case measure=>omega
      case rel=>exact⟨j+1,dlB d,by have:=HJN.out;omega,by omega,rfl,by go_num,hid (by rw[HX.out,←Bool.and_assoc,←HJ.out];rfl),rfl⟩
     ·go_wp2_with ((with_reducible refine(HNd.out _).mono ?_);rintro r w' ⟨rfl,rfl⟩)
      go_roundg (x.dn- (j+1))
      case measure=>omega
      case rel=>exact⟨j+1,false,by have:=HJN.out;omega,by omega,rfl,by go_num,hid (by rw[HX.out,aAX HND.out.symm,Bool.and_false,Bool.and_false]),rfl⟩
   ·have hji: ¬(j:Int)<(x.dn:Int):=by omega
    have HA1:Hid (b=(a0&&x.dl.all dlB)):=hid (by rw[HJ.out,List.take_of_length_le (by rw[←HH.out.1.dn];omega)])
    clear HJ
    go_wp2
    go_loopg [3,41] x.pn (fun gg s3 s41 wr=> ∃(j:Nat) (b':Bool),j≤x.pn∧x.pn-j≤gg∧s3= .bool b'∧s41= .int .i64 j∧Hid (b'=(b&&(x.ps.take j).all fun q=>xf q.l))∧Hid (Below W1.heap.size W1 wr))
    case atStart=>exact⟨0,b,by omega,by omega,rfl,rfl,hid (by simp),HBW⟩
    case round=>
     obtain⟨j,b',hj,hgg,rfl,rfl,HJ,HBr⟩:=hrel
     by_cases hjn:j<x.pn
     ·obtain⟨q,hq'⟩: ∃q,x.ps[j]? =some q:=⟨_,List.getElem?_eq_getElem (by rw[←HH.out.1.pn];exact hjn)⟩
      obtain⟨⟨_,_,_,k3,_,_⟩,hmr,_⟩:=HC.out wr HBr.out
      obtain⟨g,o,e1,m0⟩:=hmr.prg hq'
      obtain rfl:pp=some ⟨g,o,none⟩:=HP.out.trans e1
      have hqm:=List.mem_of_getElem? hq'
      obtain⟨go,hgo⟩: ∃b,b=xf q.l:=⟨_,rfl⟩
      have HPR:=hid (Kr (hmr.pi q hqm).2 (hmr.pi q hqm).1 (HH.out.2 q hqm))
      rw[←hgo]at HPR
      have hji:(j:Int)<(x.pn:Int):=by omega
      have hjz:(x.pn:Int)≤1000:=by omega
      have HJN:=hid hjn
      have HX:Hid (((x.ps.take (j+1)).all fun q=>xf q.l)=(((x.ps.take j).all fun q=>xf q.l)&&go)):=hid (by rw[hgo];exact zD (fun q:Prg=>xf q.l) hq')
      clear hq' e1 hqm hgo hmr
      cases b' with
      |false=>
       go_wp2
       go_roundg (x.pn- (j+1))
       case measure=>omega
       case rel=>exact⟨j+1,false,by have:=HJN.out;omega,by omega,rfl,by go_num,hid (by rw[HX.out,←Bool.and_assoc,←HJ.out];rfl),HBr⟩
      |true=>
       go_wp2_with fail
       (with_reducible refine HPR.out.mono ?_)
       rintro r w2 ⟨rfl,hb2⟩
       have HB2:=hid (HBr.out.trans (hb2.mono HBr.out.size))
       clear hb2
       go_wp2
       go_roundg (x.pn- (j+1))
       case measure=>omega
       case rel=>exact⟨j+1,go,by have:=HJN.out;omega,by omega,rfl,by go_num,hid (by rw[HX.out,←Bool.and_assoc,←HJ.out];rfl),HB2⟩
     ·have hji: ¬(j:Int)<(x.pn:Int):=by omega
      have HA2:Hid (b'=(b&&x.ps.all fun q=>xf q.l)):=hid (by rw[HJ.out,List.take_of_length_le (by rw[←HH.out.1.pn];omega)])
      obtain⟨⟨k0,k1,k2,k3,k4,k5⟩,_,_⟩:=HC.out wr HBr.out
      clear HJ c0 c1 c2 c3 c4 c5
      obtain⟨w2,rfl⟩: ∃w2,w2=wr:=⟨_,rfl⟩
      have w9:IntKind.i64.wrap ((x.pn:Int) -1)=(x.pn:Int) -1:=by rw[IntKind.wrap_i64];omega
      have w8:IntKind.i64.wrap ((x.ln:Int) -1)=(x.ln:Int) -1:=by rw[IntKind.wrap_i64];omega
      go_wp2
      go_loopg [3,54] x.ln (fun gg s3 s54 wr=> ∃(j:Nat) (c':Bool),j≤x.ln∧x.ln-j≤gg∧s3= .bool c'∧s54= .int .i64 j∧Hid (c'=(b'&&(x.ls.take j).all (lpR x.pn)))∧Hid (Below W1.heap.size W1 wr))
      case atStart=>exact⟨0,b',by omega,by omega,rfl,rfl,hid (by simp),HBr⟩
      case round=>
       obtain⟨j,c',hj,hgg,rfl,rfl,HJ,HBr⟩:=hrel
       by_cases hjn:j<x.ln
       ·obtain⟨q,hq'⟩: ∃q,x.ls[j]? =some q:=⟨_,List.getElem?_eq_getElem (by rw[←HH.out.1.ln];exact hjn)⟩
        obtain⟨g,o,e1,m0,m1⟩:=(HC.out wr HBr.out).2.1.lpr hq'
        obtain rfl:lp=some ⟨g,o,none⟩:=HL.out.trans e1
        obtain⟨wo,hwo⟩: ∃wo,wo=wr.alloc (.cells #[.int .i64 q.k,.slice q.p q.n q.c] 88):=⟨_,rfl⟩
        have hbo:Below W1.heap.size W1 wo:=by rw[hwo];exact HBr.out.alloc HBr.out.size _
        have hBo:Blk wo wr.heap.size 88 #[.int .i64 q.k,.slice q.p q.n q.c]:=by rw[hwo];exact Blk.new wr _ _
        obtain⟨z,hz⟩: ∃z,z=decide ((0:Int)≤q.k∧q.k≤(x.pn:Int) -1):=⟨_,rfl⟩
        have HWI:Hid (∀W',Calls Tryz.prog 109 #[.int .i64 q.k,.int .i64 0,.int .i64 ((x.pn:Int) -1)] W' fun r w'=>r= .returned (.bool z)∧W'=w'):=hid fun W'=>by rw[hz];exact qG _ _ _ W'
        have hji:(j:Int)<(x.ln:Int):=by omega
        have hjz:(x.ln:Int)≤1000:=by omega
        have HJN:=hid hjn
        have HX:Hid ((x.ls.take (j+1)).all (lpR x.pn)=((x.ls.take j).all (lpR x.pn)&&(z&&decide ((q.n:Int)≤8)))):=hid (by rw[hz];exact zD _ hq')
        have HBO:=hid (⟨hwo,hbo,hBo⟩:_∧_∧_)
        clear hq' e1 hz hwo hbo hBo
        cases c' with
        |false=>
         go_wp2
         go_roundg (x.ln- (j+1))
         case measure=>omega
         case rel=>exact⟨j+1,false,by have:=HJN.out;omega,by omega,rfl,by go_num,hid (by rw[HX.out,←Bool.and_assoc,←HJ.out];rfl),hid (by rw[←HBO.out.1];exact HBO.out.2.1)⟩
        | true=>
         obtain⟨⟨k0,k1,k2,k3,k4,k5⟩,_,_⟩:=HC.out wo HBO.out.2.1
         have q0:wo.cell? ⟨wr.heap.size,0,none⟩=some (.int .i64 q.k):=HBO.out.2.2.cell 0
         have q1:wo.cell? ⟨wr.heap.size,1,none⟩=some (.slice q.p q.n q.c):=HBO.out.2.2.cell 1
         go_upto_region 15 with fail
         rw[←HBO.out.1]
         cases z
         all_goals
          go_wp2_with ((with_reducible refine(HWI.out _).mono ?_);rintro r w' ⟨rfl,rfl⟩)
          go_roundg (x.ln- (j+1))
          case measure=>omega
          case rel=>exact⟨j+1,_,by have:=HJN.out;omega,by omega,rfl,by go_num,hid (by rw[HX.out,←Bool.and_assoc,←HJ.out];simp),hid HBO.out.2.1⟩
       ·have hji: ¬(j:Int)<(x.ln:Int):=by omega
        have HA3:Hid (c'=(b'&&x.ls.all (lpR x.pn))):=hid (by rw[HJ.out,List.take_of_length_le (by rw[←HH.out.1.ln];omega)])
        obtain⟨⟨r0,r1,r2,r3,r4,r5⟩,_,_⟩:=HC.out wr HBr.out
        clear HJ k0 k1 k2 k3 k4 k5
        obtain⟨w3,rfl⟩: ∃w3,w3=wr:=⟨_,rfl⟩
        go_wp2
        go_loopg [3,78] x.im (fun gg s3 s78 wr=> ∃(j:Nat) (d':Bool),j≤x.im∧x.im-j≤gg∧s3= .bool d'∧s78= .int .i64 j∧Hid (d'=(c'&&(x.is.take j).all (aaz x.ln)))∧Hid (Below W1.heap.size W1 wr))
        case atStart=>exact⟨0,c',by omega,by omega,rfl,rfl,hid (by simp),HBr⟩
        case round=>
         obtain⟨j,d',hj,hgg,rfl,rfl,HJ,HBr⟩:=hrel
         by_cases hjn:j<x.im
         ·obtain⟨y,hy'⟩: ∃q,x.is[j]? =some q:=⟨_,List.getElem?_eq_getElem (by rw[←HH.out.1.im];exact hjn)⟩
          obtain⟨g,o,e1,m0,m1,m2⟩:=(HC.out wr HBr.out).2.1.ini hy'
          obtain rfl:ip=some ⟨g,o,none⟩:=HI.out.trans e1
          obtain⟨wo,hwo⟩: ∃wo,wo=wr.alloc (.cells #[.float .f64 y.t,.int .i64 y.dst,.int .i64 y.pay] 90):=⟨_,rfl⟩
          have hbo:Below W1.heap.size W1 wo:=by rw[hwo];exact HBr.out.alloc HBr.out.size _
          have hBo:Blk wo wr.heap.size 90 #[.float .f64 y.t,.int .i64 y.dst,.int .i64 y.pay]:=by rw[hwo];exact Blk.new wr _ _
          obtain⟨z,hz⟩: ∃z,z=decide ((0:Int)≤y.dst∧y.dst≤(x.ln:Int) -1):=⟨_,rfl⟩
          obtain⟨nd,hnd⟩: ∃z,z=jm y.t:=⟨_,rfl⟩
          have HWI:Hid (∀W',Calls Tryz.prog 109 #[.int .i64 y.dst,.int .i64 0,.int .i64 ((x.ln:Int) -1)] W' fun r w'=>r= .returned (.bool z)∧W'=w'):=hid fun W'=>by rw[hz];exact qG _ _ _ W'
          have HNd:Hid (∀W',Calls Tryz.prog 107 #[.float .f64 y.t] W' fun e w'=>e= .returned (.bool nd)∧W'=w'):=hid fun W'=>by rw[hnd];exact HNN.out _ W'
          have hji:(j:Int)<(x.im:Int):=by omega
          have hjz:(x.im:Int)≤1000:=by omega
          have HJN:=hid hjn
          have HX:Hid ((x.is.take (j+1)).all (aaz x.ln)=((x.is.take j).all (aaz x.ln)&&(!nd&&z))):=hid (by rw[hz,hnd];exact zD _ hy')
          have HBO:=hid (⟨hwo,hbo,hBo⟩:_∧_∧_)
          clear hy' e1 hz hnd hwo hbo hBo
          cases d' with
          |false=>
           go_wp2
           go_roundg (x.im- (j+1))
           case measure=>omega
           case rel=>exact⟨j+1,false,by have:=HJN.out;omega,by omega,rfl,by go_num,hid (by rw[HX.out,←Bool.and_assoc,←HJ.out];rfl),hid (by rw[←HBO.out.1];exact HBO.out.2.1)⟩
          | true=>
           obtain⟨⟨k0,k1,k2,k3,k4,k5⟩,_,_⟩:=HC.out wo HBO.out.2.1
           have q0:wo.cell? ⟨wr.heap.size,0,none⟩=some (.float .f64 y.t):=HBO.out.2.2.cell 0
           have q1:wo.cell? ⟨wr.heap.size,1,none⟩=some (.int .i64 y.dst):=HBO.out.2.2.cell 1
           go_upto_region 20 with fail
           rw[←HBO.out.1]
           cases nd
           all_goals
            go_wp2_with (first | ((with_reducible refine(HNd.out _).mono ?_);rintro r w' ⟨rfl,rfl⟩) | ((with_reducible refine(HWI.out _).mono ?_);rintro r w' ⟨rfl,rfl⟩))
            go_roundg (x.im- (j+1))
            case measure=>omega
            case rel=>exact⟨j+1,_,by have:=HJN.out;omega,by omega,rfl,by go_num,hid (by rw[HX.out,←Bool.and_assoc,←HJ.out];simp),hid HBO.out.2.1⟩
         ·have hji: ¬(j:Int)<(x.im:Int):=by omega
          have HA4:Hid (e0=if d'=true then 0 else 15):=hid (by
           rw[HE.out,HJ.out,List.take_of_length_le (by rw[←HH.out.1.im];omega),HA3.out,HA2.out,HA1.out]
           simp only[Bool.and_assoc])
          have HF:=hid (HC.out wr HBr.out).2.2
          clear HJ HE HA1 HA2 HA3
          cases d'
          all_goals
           go_wp2
           go_ret
           rw[HA4.out]
           exact⟨rfl,HF.out⟩
end
end
end Go.Proofs.YtcdiljebkpikbaaGreat
