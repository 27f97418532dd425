/- Parts of the proof: Sev Sex Sfa. -/
import Derived.Test.YtcdiljebkpikbaaGreatW31
import Derived.Test.YtcdiljebkpikbaaGreatW32
import Derived.Test.YtcdiljebkpikbaaGreatW34
import Derived.Test.YtcdiljebkpikbaaGreatW35
set_option linter.all false
set_option maxRecDepth 100000
set_option maxHeartbeats 64000000
namespace Go.Proofs.YtcdiljebkpikbaaGreat
section
open Go.RowKit Go.Lib
theorem aTf {α:Type} {k:Nat} {enc:α→List Value} (hk: ∀x,(enc x).length=k) {w:World} {g B:Nat} {T:TypeId} {l:List α} (h:Blk w g T (yv enc l).toArray) (hB:B≤g) (hl:l.length≤1000):w.ownsRow B T k (.slice (some ⟨g,0,none⟩) l.length l.length) l.length (yv enc l):=by
 have hlen:=Kz hk l
 refine⟨hlen,.inr ⟨g,l.length,_,rfl,hB,h,Nat.le_refl _,by unfold maxLen;omega,by simpa using hlen,?_⟩⟩
 rw[List.take_of_length_le (by simp[hlen])]
theorem xl {w:World} {g:Nat} {T:TypeId} {a b c d e:Value} (h:Blk w g T #[a,b,c,d,e]):w.cell? ⟨g,0,none⟩=some a∧w.cell? ⟨g,1,none⟩=some b∧w.cell? ⟨g,2,none⟩=some c∧w.cell? ⟨g,3,none⟩=some d∧w.cell? ⟨g,4,none⟩=some e:=(yq h).1
def WrP (W:World) (a:Ac) (r:Ending) (w':World):Prop:= ∃(p:Option Addr) (n c:Nat),r= .returned (.tuple #[.slice p n c,.bool (okA a)])∧(okA a=true→ ∃g,p=some ⟨g,0,none⟩∧n=(aos a).length∧c=n∧Blk w' g 9 (yv jQ (aos a)).toArray)∧Below W.heap.size W w'
theorem aU3 {a:Ac} (h: ¬(1≤a.kind∧a.kind≤9)):okA a=false:=by
 unfold okA
 rw[decide_eq_false h,Bool.false_and]
theorem aU2 {a:Ac} (hk:a.kind=7):okA a=(YH a.torn&&(YH a.bytes&&decide (a.keep.length≤64))):=by
 unfold okA
 rw[hk]
 rfl
theorem aUa {a:Ac} (h1:1≤a.kind∧a.kind≤9) (h3:a.kind≠3) (h7:a.kind≠7):okA a=YH a.n:=by
 unfold okA
 rw[decide_eq_true h1,if_neg h3,if_neg h7,Bool.true_and]
theorem aTp {W:World} {a:AcV} (ha:acd W a) (hl:a.keep.length≤1000) (on:okZ a.n) (ot:okZ a.torn) (ob:okZ a.bytes):Calls Tryz.prog 34 #[.agg #[.int .i64 a.kind,.int .i64 a.n,.slice a.kp a.kn a.kc,.int .i64 a.torn,.int .i64 a.bytes]] W (WrP W a.ac):=by
 obtain⟨kd,n,kp,kn,kc,kl,tt,bb⟩:=a
 dsimp only at hl on ot ob
 have hn:=ha.n
 have hv:=ha.k
 dsimp only at hn hv
 have HN:=hid hn
 have HV:=hid hv
 have HO:=hid (⟨hl,on,ot,ob⟩:_∧_∧_∧_)
 obtain⟨xb,hxb⟩: ∃k,k=W.heap.size:=⟨_,rfl⟩
 obtain⟨w1,hw1⟩: ∃w,w=W.alloc (.cells #[.int .i64 kd,.int .i64 n,.slice kp kn kc,.int .i64 tt,.int .i64 bb] 53):=⟨_,rfl⟩
 have hB:Blk w1 xb 53 #[.int .i64 kd,.int .i64 n,.slice kp kn kc,.int .i64 tt,.int .i64 bb]:=by rw[hw1,hxb];exact Blk.new _ _ _
 have HB:=hid (⟨hB,(by rw[hw1];exact(Below.refl _ W).alloc (Nat.le_refl _) _:Below W.heap.size W w1),hxb,hw1⟩:_∧_∧_∧_)
 obtain⟨⟨c0,c1,c2,c3,c4⟩,_,_⟩:=yq hB
 clear hB hxb hw1 ha hn hv hl on ot ob
 by_cases hk:1≤kd∧kd≤9
 ·by_cases h3:kd=3
  ·subst h3
   have HOK:Hid (okA (AcV.ac ⟨3,n,kp,kn,kc,kl,tt,bb⟩)=true):=hid rfl
   have HWO:Hid (aos (AcV.ac ⟨3,n,kp,kn,kc,kl,tt,bb⟩)=[kw 3]):=hid rfl
   have HNM:Hid (∀w,Calls Tryz.prog 49 #[.int .i64 3] w fun e w'=>e= .returned (.string (S (kw 3)))∧Below w.heap.size w w'):=hid (fun w=>ajP 3 (by omega) w)
   obtain⟨s1,hs1⟩: ∃s,s=kw 3:=⟨_,rfl⟩
   rw[←hs1]at HNM HWO
   clear hs1 hk
   go_enter Tryz.func34,Tryz.ntmps34
   go_upto_region 1 with fail
   rw[←HB.out.2.2.1,←HB.out.2.2.2]
   have HF:=hid (HNM.out w1)
   go_wp2_with fail
   (with_reducible refine HF.out.mono ?_)
   rintro r w2 ⟨rfl,hb⟩
   obtain⟨g6,hg6⟩: ∃k,k=w2.heap.size:=⟨_,rfl⟩
   obtain⟨w3,hw3⟩: ∃w,w=w2.alloc (.cells #[.string (S s1)] 9):=⟨_,rfl⟩
   have H6:Hid (Blk w3 g6 9 #[.string (S s1)]∧W.heap.size≤g6∧Below W.heap.size W w3):=hid ⟨by rw[hw3,hg6];exact Blk.new _ _ _,by rw[hg6];exact Nat.le_trans HB.out.2.1.size hb.size,by rw[hw3];exact(HB.out.2.1.trans (hb.mono HB.out.2.1.size)).alloc (Nat.le_trans HB.out.2.1.size hb.size) _⟩
   have HW3:=hid (⟨hg6,hw3⟩:_∧_)
   clear hg6 hw3 hb HF c0 c1 c2 c3 c4
   go_wp2
   rw[←HW3.out.1,←HW3.out.2]
   go_ret2
   refine⟨_,1,1,by rw[HOK.out];rfl,fun _=>⟨_,rfl,by rw[HWO.out];rfl,rfl,?_⟩,H6.out.2.2⟩
   rw[HWO.out]
   exact H6.out.1
  ·by_cases h7:kd=7
   ·subst h7
    have HOK:Hid (okA (AcV.ac ⟨7,n,kp,kn,kc,kl,tt,bb⟩)=(YH tt&&(YH bb&&decide (kl.length≤64)))):=hid (aU2 rfl)
    have HWO:Hid (aos (AcV.ac ⟨7,n,kp,kn,kc,kl,tt,bb⟩)=[kw 7,XV kl,Xb tt,Xb bb]):=hid rfl
    have HNM:Hid (∀w,Calls Tryz.prog 49 #[.int .i64 7] w fun e w'=>e= .returned (.string (S (kw 7)))∧Below w.heap.size w w'):=hid (fun w=>ajP 7 (by omega) w)
    have HBI:Hid (∀w,Below W.heap.size W w→Calls Tryz.prog 74 #[.slice kp kn kc] w fun e w'=>e= .returned (.string (S (XV kl)))∧Below w.heap.size w w'):=hid (fun w hb=>aUo kl kp kn kc HN.out (by have:=HO.out.1;omega) w (HV.out.below hb))
    have HD1:=hid (fun w=>kb HO.out.2.2.1 w)
    have HD2:=hid (fun w=>kb HO.out.2.2.2 w)
    have HWI:Hid (∀w g,Blk w g 3 #[.int .i64 tt,.int .i64 bb]→Calls Tryz.prog 30 #[.slice (some ⟨g,0,none⟩) 2 2] w fun e w'=>e= .returned (.bool (YH tt&&YH bb))∧w=w'):=hid fun w g hb=>by
     have:=aSV [tt,bb] (some ⟨g,0,none⟩) 2 2 rfl (by simp) (by simp) w (Vw.of_own YG (aTf (B:=0) (l:=[tt,bb]) YG hb (Nat.zero_le _) (by simp)) rfl)
     simpa using this
    obtain⟨s1,hs1⟩: ∃s,s=kw 7:=⟨_,rfl⟩
    obtain⟨s2,hs2⟩: ∃s,s=XV kl:=⟨_,rfl⟩
    obtain⟨s3,hs3⟩: ∃s,s=Xb tt:=⟨_,rfl⟩
    obtain⟨s4,hs4⟩: ∃s,s=Xb bb:=⟨_,rfl⟩
    obtain⟨mb,hmb⟩: ∃b,b=(YH tt&&YH bb):=⟨_,rfl⟩
    obtain⟨lb,hlb⟩: ∃b,b=decide ((kn:Int)≤64):=⟨_,rfl⟩
    have HLB:Hid (decide ((kn:Int)≤64)=lb):=hid hlb.symm
    have HOK:Hid (okA (AcV.ac ⟨7,n,kp,kn,kc,kl,tt,bb⟩)=(mb&&lb)):=hid (by
     rw[HOK.out,hmb,hlb,HN.out,Bool.and_assoc]
     congr 2
     exact decide_eq_decide.2 (by omega))
    rw[←hs1]at HNM HWO
    rw[←hs2]at HBI HWO
    rw[←hs3]at HD1 HWO
    rw[←hs4]at HD2 HWO
    rw[←hmb]at HWI
    clear hs1 hs2 hs3 hs4 hmb hlb hk h3
    go_enter Tryz.func34,Tryz.ntmps34
    go_upto_region 6 with fail
    rw[←HB.out.2.2.1,←HB.out.2.2.2]
    obtain⟨gi,hgi⟩: ∃k,k=w1.heap.size:=⟨_,rfl⟩
    obtain⟨w2,hw2⟩: ∃w,w=w1.alloc (.cells #[.int .i64 tt,.int .i64 bb] 3):=⟨_,rfl⟩
    have HG:=hid (HWI.out w2 gi (by rw[hw2,hgi];exact Blk.new _ _ _))
    have HX:Hid (Below w1.heap.size w1 w2):=hid (by rw[hw2];exact(Below.refl _ _).alloc (Nat.le_refl _) _)
    have HW2:=hid (⟨hgi,hw2⟩:_∧_)
    clear hgi hw2
    go_wp2_with fail
    rw[←HW2.out.1,←HW2.out.2]
    (with_reducible refine HG.out.mono ?_)
    rintro r w3 ⟨rfl,rfl⟩
    clear HG HW2
    obtain⟨c0,c1,c2,c3,c4⟩:=xl (HB.out.1.below HX.out HB.out.1.lt)
    have hlb:=HLB.out
    cases mb
    all_goals
     go_upto_region 7 with fail
     clear hlb
     refine zB (fun W'=>W'.cell? ⟨xb,0,none⟩=some (.int .i64 7)∧W'.cell? ⟨xb,1,none⟩=some (.int .i64 n)∧W'.cell? ⟨xb,2,none⟩=some (.slice kp kn kc)∧W'.cell? ⟨xb,3,none⟩=some (.int .i64 tt)∧W'.cell? ⟨xb,4,none⟩=some (.int .i64 bb)) 18 (by kernel_rfl) ⟨c0,c1,c2,c3,c4⟩ (fun hHeld=>?_)
     have HX:=hid (HX.out.drew)
     refine eT 0 hHeld ?_;(try simp only[Act.put,sEa,sEb,sEc]);refine eT 1 hHeld ?_;(try simp only[Act.put,sEa,sEb,sEc]);refine eT 3 hHeld ?_;(try simp only[Act.put,sEa,sEb,sEc]);refine eT 4 hHeld ?_;(try simp only[Act.put,sEa,sEb,sEc]);refine eT 5 hHeld ?_;(try simp only[Act.put,sEa,sEb,sEc]);refine eT 7 hHeld ?_;(try simp only[Act.put,sEa,sEb,sEc]);refine eT 8 hHeld ?_;(try simp only[Act.put,sEa,sEb,sEc]);refine eT 9 hHeld ?_;(try simp only[Act.put,sEa,sEb,sEc]);refine eT 11 hHeld ?_;(try simp only[Act.put,sEa,sEb,sEc]);refine eT 12 hHeld ?_;(try simp only[Act.put,sEa,sEb,sEc]);refine eT 13 hHeld ?_;(try simp only[Act.put,sEa,sEb,sEc]);refine eT 16 hHeld ?_;(try simp only[Act.put,sEa,sEb,sEc])
     refine eR 2 (fun K hK=>?_)
     go_simp
     (with_reducible refine(HNM.out _).mono ?_)
     rintro r v2 ⟨rfl,hb⟩
     have HX:=hid (HX.out.trans (hb.mono HX.out.size))
     clear hb
     refine hK.out _ _ (xl (HB.out.1.below HX.out HB.out.1.lt)) (fun hHeld=>?_)
     clear hK K
     (try simp only[Act.put,sEa,sEb,sEc])
     refine eR 6 (fun K hK=>?_)
     go_simp
     (with_reducible refine(HBI.out _ (HB.out.2.1.trans (HX.out.mono HB.out.2.1.size))).mono ?_)
     rintro r v6 ⟨rfl,hb⟩
     have HX:=hid (HX.out.trans (hb.mono HX.out.size))
     clear hb
     refine hK.out _ _ (xl (HB.out.1.below HX.out HB.out.1.lt)) (fun hHeld=>?_)
     clear hK K
     (try simp only[Act.put,sEa,sEb,sEc])
     refine eR 10 (fun K hK=>?_)
     go_simp
     (with_reducible refine(HD1.out _).mono ?_)
     rintro r v10 ⟨rfl,hb⟩
     have HX:=hid (HX.out.trans (hb.mono HX.out.size))
     clear hb
     refine hK.out _ _ (xl (HB.out.1.below HX.out HB.out.1.lt)) (fun hHeld=>?_)
     clear hK K
     (try simp only[Act.put,sEa,sEb,sEc])
     refine eR 14 (fun K hK=>?_)
     go_simp
     (with_reducible refine(HD2.out _).mono ?_)
     rintro r v14 ⟨rfl,hb⟩
     have HX:=hid (HX.out.trans (hb.mono HX.out.size))
     clear hb
     refine hK.out _ _ (xl (HB.out.1.below HX.out HB.out.1.lt)) (fun hHeld=>?_)
     clear hK K
     (try simp only[Act.put,sEa,sEb,sEc])
     refine eR 15 (fun K hK=>?_)
     go_simp
     obtain⟨v5,hw⟩: ∃w,w=World.alloc v14 (.cells #[.string (S s1),.string (S s2),.string (S s3),.string (S s4)] 9):=⟨_,rfl⟩
     have H6:Hid (Blk v5 (World.heap v14).size 9 #[.string (S s1),.string (S s2),.string (S s3),.string (S s4)]):=hid (by rw[hw];exact Blk.new _ _ _)
     have HG6:Hid (W.heap.size≤(World.heap v14).size):=hid (Nat.le_trans HB.out.2.1.size HX.out.size)
     have hb:Below (World.heap v14).size v14 v5:=by rw[hw];exact(Below.refl _ _).alloc (Nat.le_refl _) _
     rw[←hw]
     have HX:=hid (HX.out.trans (hb.mono HX.out.size))
     clear hb hw
     refine hK.out _ _ (xl (HB.out.1.below HX.out HB.out.1.lt)) (fun hHeld=>?_)
     clear hK K
     (try simp only[Act.put,sEa,sEb,sEc])
     refine eT 17 hHeld ?_;(try simp only[Act.put,sEa,sEb,sEc]);refine eL (fun K hK=>?_);go_simp;refine hK.out _ _ ?_;clear hK K;(try simp only[Act.put,sEa,sEb,sEc])
     go_wp2
     go_ret2
     refine⟨_,4,4,by rw[HOK.out];rfl,fun _=>⟨_,rfl,by rw[HWO.out];rfl,rfl,?_⟩,HB.out.2.1.trans (HX.out.mono HB.out.2.1.size)⟩
     rw[HWO.out]
     exact H6.out
   ·obtain⟨k,hkk⟩: ∃k:Nat,(k:Int)=kd:=⟨kd.toNat,by omega⟩
    subst hkk
    have k1: ¬(k:Int)<1:=by omega
    have k2: ¬9<(k:Int):=by omega
    have k3:((k:Int)==3)=false:=by rw[beq_eq_false_iff_ne];exact h3
    have k7:((k:Int)==7)=false:=by rw[beq_eq_false_iff_ne];exact h7
    have HOK:Hid (okA (AcV.ac ⟨k,n,kp,kn,kc,kl,tt,bb⟩)=YH n):=hid (aUa hk h3 h7)
    have HWO:Hid (aos (AcV.ac ⟨k,n,kp,kn,kc,kl,tt,bb⟩)=[kw k,Xb n]):=hid (by
     unfold aos AcV.ac
     rw[if_neg h3,if_neg h7]
     rfl)
    have HNM:=hid (fun w=>ajP k (by omega) w)
    have HDG:=hid (fun w=>kb HO.out.2.1 w)
    have HWI:Hid (∀w g,Blk w g 3 #[.int .i64 n]→Calls Tryz.prog 30 #[.slice (some ⟨g,0,none⟩) 1 1] w fun e w'=>e= .returned (.bool (YH n))∧w=w'):=hid fun w g hb=>by
     have:=aSV [n] (some ⟨g,0,none⟩) 1 1 rfl (by simp) (by simp) w (Vw.of_own YG (aTf (B:=0) (l:=[n]) YG hb (Nat.zero_le _) (by simp)) rfl)
     simpa using this
    obtain⟨s1,hs1⟩: ∃s,s=kw k:=⟨_,rfl⟩
    obtain⟨s2,hs2⟩: ∃s,s=Xb n:=⟨_,rfl⟩
    obtain⟨mb,hmb⟩: ∃b,b=YH n:=⟨_,rfl⟩
    rw[←hs1]at HNM HWO
    rw[←hs2]at HDG HWO
    rw[←hmb]at HWI HOK
    clear hs1 hs2 hmb hk h3 h7
    go_enter Tryz.func34,Tryz.ntmps34
    go_upto_region 8 with fail
    rw[←HB.out.2.2.1,←HB.out.2.2.2]
    refine zB (fun W'=>W'.cell? ⟨xb,0,none⟩=some (.int .i64 k)∧W'.cell? ⟨xb,1,none⟩=some (.int .i64 n)∧W'.cell? ⟨xb,2,none⟩=some (.slice kp kn kc)∧W'.cell? ⟨xb,3,none⟩=some (.int .i64 tt)∧W'.cell? ⟨xb,4,none⟩=some (.int .i64 bb)) 12 (by kernel_rfl) ⟨c0,c1,c2,c3,c4⟩ (fun hHeld=>?_)
    have HX:Hid (Below w1.heap.size w1 w1.drew):=hid (Below.refl w1.heap.size w1).drew
    obtain⟨v1,hv1⟩: ∃w,w=w1.drew:=⟨_,rfl⟩
    rw[←hv1]at HX hHeld⊢
    clear hv1
    refine eT 0 hHeld ?_;(try simp only[Act.put,sEa,sEb,sEc]);refine eT 1 hHeld ?_;(try simp only[Act.put,sEa,sEb,sEc]);refine eT 3 hHeld ?_;(try simp only[Act.put,sEa,sEb,sEc]);refine eT 4 hHeld ?_;(try simp only[Act.put,sEa,sEb,sEc]);refine eT 7 hHeld ?_;(try simp only[Act.put,sEa,sEb,sEc]);refine eT 8 hHeld ?_;(try simp only[Act.put,sEa,sEb,sEc])
    refine eR2 (i:=2) (j:=9) (by(simp only[gEa,gEb,gEc];try rfl)) (by(simp only[gEa,gEb,gEc];try rfl)) (by kernel_rfl) (by rfl) (fun K hK=>?_) (fun K hK=>?_)
    ·go_simp
     (with_reducible refine(HNM.out _).mono ?_)
     rintro r v2 ⟨rfl,hb⟩
     have HX:=hid (HX.out.trans (hb.mono HX.out.size))
     clear hb
     refine hK.out _ _ (xl (HB.out.1.below HX.out HB.out.1.lt)) (fun hHeld=>?_)
     clear hK K
     (try simp only[Act.put,sEa,sEb,sEc])
     refine eR2 (i:=5) (j:=9) (by(simp only[gEa,gEb,gEc];try rfl)) (by(simp only[gEa,gEb,gEc];try rfl)) (by kernel_rfl) (by rfl) (fun K hK=>?_) (fun K hK=>?_)
     ·go_simp
      (with_reducible refine(HDG.out _).mono ?_)
      rintro r v3 ⟨rfl,hb⟩
      have HX:=hid (HX.out.trans (hb.mono HX.out.size))
      clear hb
      refine hK.out _ _ (xl (HB.out.1.below HX.out HB.out.1.lt)) (fun hHeld=>?_)
      clear hK K
      (try simp only[Act.put,sEa,sEb,sEc])
      refine eR2 (i:=6) (j:=9) (by(simp only[gEa,gEb,gEc];try rfl)) (by(simp only[gEa,gEb,gEc];try rfl)) (by kernel_rfl) (by rfl) (fun K hK=>?_) (fun K hK=>?_)
      ·go_simp
       obtain⟨v4,hw⟩: ∃w,w=World.alloc v3 (.cells #[.string (S s1),.string (S s2)] 9):=⟨_,rfl⟩
       have H6:Hid (Blk v4 (World.heap v3).size 9 #[.string (S s1),.string (S s2)]):=hid (by rw[hw];exact Blk.new _ _ _)
       have HG6:Hid (W.heap.size≤(World.heap v3).size):=hid (Nat.le_trans HB.out.2.1.size HX.out.size)
       have hb:Below (World.heap v3).size v3 v4:=by rw[hw];exact(Below.refl _ _).alloc (Nat.le_refl _) _
       rw[←hw]
       have HX:=hid (HX.out.trans (hb.mono HX.out.size))
       clear hb hw
       refine hK.out _ _ (xl (HB.out.1.below HX.out HB.out.1.lt)) (fun hHeld=>?_)
       clear hK K
       (try simp only[Act.put,sEa,sEb,sEc])
       refine eR 9 (fun K hK=>?_)
       go_simp
       obtain⟨v5,hw⟩: ∃w,w=World.alloc v4 (.cells #[.int .i64 n] 3):=⟨_,rfl⟩
       have H9:Hid (Blk v5 (World.heap v4).size 3 #[.int .i64 n]):=hid (by rw[hw];exact Blk.new _ _ _)
       have hb:Below (World.heap v4).size v4 v5:=by rw[hw];exact(Below.refl _ _).alloc (Nat.le_refl _) _
       rw[←hw]
       have HX:=hid (HX.out.trans (hb.mono HX.out.size))
       have H6:=hid (H6.out.below hb H6.out.lt)
       clear hb hw
       refine hK.out _ _ (xl (HB.out.1.below HX.out HB.out.1.lt)) (fun hHeld=>?_)
       clear hK K
       (try simp only[Act.put,sEa,sEb,sEc])
       refine eR 10 (fun K hK=>?_)
       go_simp
       (with_reducible refine(HWI.out _ _ H9.out).mono ?_)
       rintro r v9 ⟨rfl,rfl⟩
       refine hK.out _ _ (xl (HB.out.1.below HX.out HB.out.1.lt)) (fun hHeld=>?_)
       clear hK K
       (try simp only[Act.put,sEa,sEb,sEc])
       refine eT 11 hHeld ?_;(try simp only[Act.put,sEa,sEb,sEc]);refine eL (fun K hK=>?_);go_simp;refine hK.out _ _ ?_;clear hK K;(try simp only[Act.put,sEa,sEb,sEc])
       go_wp2
       go_ret2
       refine⟨_,2,2,by rw[HOK.out];rfl,fun _=>⟨_,rfl,by rw[HWO.out];rfl,rfl,?_⟩,HB.out.2.1.trans (HX.out.mono HB.out.2.1.size)⟩
       rw[HWO.out]
       exact H6.out
      ·go_simp
       obtain⟨v4,hw⟩: ∃w,w=World.alloc v3 (.cells #[.int .i64 n] 3):=⟨_,rfl⟩
       have H9:Hid (Blk v4 (World.heap v3).size 3 #[.int .i64 n]):=hid (by rw[hw];exact Blk.new _ _ _)
       have hb:Below (World.heap v3).size v3 v4:=by rw[hw];exact(Below.refl _ _).alloc (Nat.le_refl _) _
       rw[←hw]
       have HX:=hid (HX.out.trans (hb.mono HX.out.size))
       clear hb hw
       refine hK.out _ _ (xl (HB.out.1.below HX.out HB.out.1.lt)) (fun hHeld=>?_)
       clear hK K
       (try simp only[Act.put,sEa,sEb,sEc])
       refine eR2 (i:=6) (j:=10) (by(simp only[gEa,gEb,gEc];try rfl)) (by(simp only[gEa,gEb,gEc];try rfl)) (by kernel_rfl) (by rfl) (fun K hK=>?_) (fun K hK=>?_)
       ·go_simp
        obtain⟨v5,hw⟩: ∃w,w=World.alloc v4 (.cells #[.string (S s1),.string (S s2)] 9):=⟨_,rfl⟩
        have H6:Hid (Blk v5 (World.heap v4).size 9 #[.string (S s1),.string (S s2)]):=hid (by rw[hw];exact Blk.new _ _ _)
        have HG6:Hid (W.heap.size≤(World.heap v4).size):=hid (Nat.le_trans HB.out.2.1.size HX.out.size)
        have hb:Below (World.heap v4).size v4 v5:=by rw[hw];exact(Below.refl _ _).alloc (Nat.le_refl _) _
        rw[←hw]
        have HX:=hid (HX.out.trans (hb.mono HX.out.size))
        have H9:=hid (H9.out.below hb H9.out.lt)
        clear hb hw
        refine hK.out _ _ (xl (HB.out.1.below HX.out HB.out.1.lt)) (fun hHeld=>?_)
        clear hK K
        (try simp only[Act.put,sEa,sEb,sEc])
        refine eR 10 (fun K hK=>?_)
        go_simp
        (with_reducible refine(HWI.out _ _ H9.out).mono ?_)
        rintro r v9 ⟨rfl,rfl⟩
        refine hK.out _ _ (xl (HB.out.1.below HX.out HB.out.1.lt)) (fun hHeld=>?_)
        clear hK K
        (try simp only[Act.put,sEa,sEb,sEc])
        refine eT 11 hHeld ?_;(try simp only[Act.put,sEa,sEb,sEc]);refine eL (fun K hK=>?_);go_simp;refine hK.out _ _ ?_;clear hK K;(try simp only[Act.put,sEa,sEb,sEc])
        go_wp2
        go_ret2
        refine⟨_,2,2,by rw[HOK.out];rfl,fun _=>⟨_,rfl,by rw[HWO.out];rfl,rfl,?_⟩,HB.out.2.1.trans (HX.out.mono HB.out.2.1.size)⟩
        rw[HWO.out]
        exact H6.out
       ·go_simp
        (with_reducible refine(HWI.out _ _ H9.out).mono ?_)
        rintro r v9 ⟨rfl,rfl⟩
        refine hK.out _ _ (xl (HB.out.1.below HX.out HB.out.1.lt)) (fun hHeld=>?_)
        clear hK K
        (try simp only[Act.put,sEa,sEb,sEc])
        refine eR 6 (fun K hK=>?_)
        go_simp
        obtain⟨v6,hw⟩: ∃w,w=World.alloc v4 (.cells #[.string (S s1),.string (S s2)] 9):=⟨_,rfl⟩
        have H6:Hid (Blk v6 (World.heap v4).size 9 #[.string (S s1),.string (S s2)]):=hid (by rw[hw];exact Blk.new _ _ _)
        have HG6:Hid (W.heap.size≤(World.heap v4).size):=hid (Nat.le_trans HB.out.2.1.size HX.out.size)
        have hb:Below (World.heap v4).size v4 v6:=by rw[hw];exact(Below.refl _ _).alloc (Nat.le_refl _) _
        rw[←hw]
        have HX:=hid (HX.out.trans (hb.mono HX.out.size))
        have H9:=hid (H9.out.below hb H9.out.lt)
        clear hb hw
        refine hK.out _ _ (xl (HB.out.1.below HX.out HB.out.1.lt)) (fun hHeld=>?_)
        clear hK K
        (try simp only[Act.put,sEa,sEb,sEc])
        refine eT 11 hHeld ?_;(try simp only[Act.put,sEa,sEb,sEc]);refine eL (fun K hK=>?_);go_simp;refine hK.out _ _ ?_;clear hK K;(try simp only[Act.put,sEa,sEb,sEc])
        go_wp2
        go_ret2
        refine⟨_,2,2,by rw[HOK.out];rfl,fun _=>⟨_,rfl,by rw[HWO.out];rfl,rfl,?_⟩,HB.out.2.1.trans (HX.out.mono HB.out.2.1.size)⟩
        rw[HWO.out]
        exact H6.out
     ·go_simp
      obtain⟨v3,hw⟩: ∃w,w=World.alloc v2 (.cells #[.int .i64 n] 3):=⟨_,rfl⟩
      have H9:Hid (Blk v3 (World.heap v2).size 3 #[.int .i64 n]):=hid (by rw[hw];exact Blk.new _ _ _)
      have hb:Below (World.heap v2).size v2 v3:=by rw[hw];exact(Below.refl _ _).alloc (Nat.le_refl _) _
      rw[←hw]
      have HX:=hid (HX.out.trans (hb.mono HX.out.size))
      clear hb hw
      refine hK.out _ _ (xl (HB.out.1.below HX.out HB.out.1.lt)) (fun hHeld=>?_)
      clear hK K
      (try simp only[Act.put,sEa,sEb,sEc])
      refine eR 5 (fun K hK=>?_)
      go_simp
      (with_reducible refine(HDG.out _).mono ?_)
      rintro r v4 ⟨rfl,hb⟩
      have HX:=hid (HX.out.trans (hb.mono HX.out.size))
      have H9:=hid (H9.out.below hb H9.out.lt)
      clear hb
      refine hK.out _ _ (xl (HB.out.1.below HX.out HB.out.1.lt)) (fun hHeld=>?_)
      clear hK K
      (try simp only[Act.put,sEa,sEb,sEc])
      refine eR2 (i:=6) (j:=10) (by(simp only[gEa,gEb,gEc];try rfl)) (by(simp only[gEa,gEb,gEc];try rfl)) (by kernel_rfl) (by rfl) (fun K hK=>?_) (fun K hK=>?_)
      ·go_simp
       obtain⟨v5,hw⟩: ∃w,w=World.alloc v4 (.cells #[.string (S s1),.string (S s2)] 9):=⟨_,rfl⟩
       have H6:Hid (Blk v5 (World.heap v4).size 9 #[.string (S s1),.string (S s2)]):=hid (by rw[hw];exact Blk.new _ _ _)
       have HG6:Hid (W.heap.size≤(World.heap v4).size):=hid (Nat.le_trans HB.out.2.1.size HX.out.size)
       have hb:Below (World.heap v4).size v4 v5:=by rw[hw];exact(Below.refl _ _).alloc (Nat.le_refl _) _
       rw[←hw]
       have HX:=hid (HX.out.trans (hb.mono HX.out.size))
       have H9:=hid (H9.out.below hb H9.out.lt)
       clear hb hw
       refine hK.out _ _ (xl (HB.out.1.below HX.out HB.out.1.lt)) (fun hHeld=>?_)
       clear hK K
       (try simp only[Act.put,sEa,sEb,sEc])
       refine eR 10 (fun K hK=>?_)
       go_simp
       (with_reducible refine(HWI.out _ _ H9.out).mono ?_)
       rintro r v9 ⟨rfl,rfl⟩
       refine hK.out _ _ (xl (HB.out.1.below HX.out HB.out.1.lt)) (fun hHeld=>?_)
       clear hK K
       (try simp only[Act.put,sEa,sEb,sEc])
       refine eT 11 hHeld ?_;(try simp only[Act.put,sEa,sEb,sEc]);refine eL (fun K hK=>?_);go_simp;refine hK.out _ _ ?_;clear hK K;(try simp only[Act.put,sEa,sEb,sEc])
       go_wp2
       go_ret2
       refine⟨_,2,2,by rw[HOK.out];rfl,fun _=>⟨_,rfl,by rw[HWO.out];rfl,rfl,?_⟩,HB.out.2.1.trans (HX.out.mono HB.out.2.1.size)⟩
       rw[HWO.out]
       exact H6.out
      ·go_simp
       (with_reducible refine(HWI.out _ _ H9.out).mono ?_)
       rintro r v9 ⟨rfl,rfl⟩
       refine hK.out _ _ (xl (HB.out.1.below HX.out HB.out.1.lt)) (fun hHeld=>?_)
       clear hK K
       (try simp only[Act.put,sEa,sEb,sEc])
       refine eR 6 (fun K hK=>?_)
       go_simp
       obtain⟨v6,hw⟩: ∃w,w=World.alloc v4 (.cells #[.string (S s1),.string (S s2)] 9):=⟨_,rfl⟩
       have H6:Hid (Blk v6 (World.heap v4).size 9 #[.string (S s1),.string (S s2)]):=hid (by rw[hw];exact Blk.new _ _ _)
       have HG6:Hid (W.heap.size≤(World.heap v4).size):=hid (Nat.le_trans HB.out.2.1.size HX.out.size)
       have hb:Below (World.heap v4).size v4 v6:=by rw[hw];exact(Below.refl _ _).alloc (Nat.le_refl _) _
       rw[←hw]
       have HX:=hid (HX.out.trans (hb.mono HX.out.size))
       have H9:=hid (H9.out.below hb H9.out.lt)
       clear hb hw
       refine hK.out _ _ (xl (HB.out.1.below HX.out HB.out.1.lt)) (fun hHeld=>?_)
       clear hK K
       (try simp only[Act.put,sEa,sEb,sEc])
       refine eT 11 hHeld ?_;(try simp only[Act.put,sEa,sEb,sEc]);refine eL (fun K hK=>?_);go_simp;refine hK.out _ _ ?_;clear hK K;(try simp only[Act.put,sEa,sEb,sEc])
       go_wp2
       go_ret2
       refine⟨_,2,2,by rw[HOK.out];rfl,fun _=>⟨_,rfl,by rw[HWO.out];rfl,rfl,?_⟩,HB.out.2.1.trans (HX.out.mono HB.out.2.1.size)⟩
       rw[HWO.out]
       exact H6.out
    ·go_simp
     obtain⟨v2,hw⟩: ∃w,w=World.alloc v1 (.cells #[.int .i64 n] 3):=⟨_,rfl⟩
     have H9:Hid (Blk v2 (World.heap v1).size 3 #[.int .i64 n]):=hid (by rw[hw];exact Blk.new _ _ _)
     have hb:Below (World.heap v1).size v1 v2:=by rw[hw];exact(Below.refl _ _).alloc (Nat.le_refl _) _
     rw[←hw]
     have HX:=hid (HX.out.trans (hb.mono HX.out.size))
     clear hb hw
     refine hK.out _ _ (xl (HB.out.1.below HX.out HB.out.1.lt)) (fun hHeld=>?_)
     clear hK K
     (try simp only[Act.put,sEa,sEb,sEc])
     refine eR 2 (fun K hK=>?_)
     go_simp
     (with_reducible refine(HNM.out _).mono ?_)
     rintro r v3 ⟨rfl,hb⟩
     have HX:=hid (HX.out.trans (hb.mono HX.out.size))
     have H9:=hid (H9.out.below hb H9.out.lt)
     clear hb
     refine hK.out _ _ (xl (HB.out.1.below HX.out HB.out.1.lt)) (fun hHeld=>?_)
     clear hK K
     (try simp only[Act.put,sEa,sEb,sEc])
     refine eR 5 (fun K hK=>?_)
     go_simp
     (with_reducible refine(HDG.out _).mono ?_)
     rintro r v4 ⟨rfl,hb⟩
     have HX:=hid (HX.out.trans (hb.mono HX.out.size))
     have H9:=hid (H9.out.below hb H9.out.lt)
     clear hb
     refine hK.out _ _ (xl (HB.out.1.below HX.out HB.out.1.lt)) (fun hHeld=>?_)
     clear hK K
     (try simp only[Act.put,sEa,sEb,sEc])
     refine eR2 (i:=6) (j:=10) (by(simp only[gEa,gEb,gEc];try rfl)) (by(simp only[gEa,gEb,gEc];try rfl)) (by kernel_rfl) (by rfl) (fun K hK=>?_) (fun K hK=>?_)
     ·go_simp
      obtain⟨v5,hw⟩: ∃w,w=World.alloc v4 (.cells #[.string (S s1),.string (S s2)] 9):=⟨_,rfl⟩
      have H6:Hid (Blk v5 (World.heap v4).size 9 #[.string (S s1),.string (S s2)]):=hid (by rw[hw];exact Blk.new _ _ _)
      have HG6:Hid (W.heap.size≤(World.heap v4).size):=hid (Nat.le_trans HB.out.2.1.size HX.out.size)
      have hb:Below (World.heap v4).size v4 v5:=by rw[hw];exact(Below.refl _ _).alloc (Nat.le_refl _) _
      rw[←hw]
      have HX:=hid (HX.out.trans (hb.mono HX.out.size))
      have H9:=hid (H9.out.below hb H9.out.lt)
      clear hb hw
      refine hK.out _ _ (xl (HB.out.1.below HX.out HB.out.1.lt)) (fun hHeld=>?_)
      clear hK K
      (try simp only[Act.put,sEa,sEb,sEc])
      refine eR 10 (fun K hK=>?_)
      go_simp
      (with_reducible refine(HWI.out _ _ H9.out).mono ?_)
      rintro r v9 ⟨rfl,rfl⟩
      refine hK.out _ _ (xl (HB.out.1.below HX.out HB.out.1.lt)) (fun hHeld=>?_)
      clear hK K
      (try simp only[Act.put,sEa,sEb,sEc])
      refine eT 11 hHeld ?_;(try simp only[Act.put,sEa,sEb,sEc]);refine eL (fun K hK=>?_);go_simp;refine hK.out _ _ ?_;clear hK K;(try simp only[Act.put,sEa,sEb,sEc])
      go_wp2
      go_ret2
      refine⟨_,2,2,by rw[HOK.out];rfl,fun _=>⟨_,rfl,by rw[HWO.out];rfl,rfl,?_⟩,HB.out.2.1.trans (HX.out.mono HB.out.2.1.size)⟩
      rw[HWO.out]
      exact H6.out
     ·go_simp
      (with_reducible refine(HWI.out _ _ H9.out).mono ?_)
      rintro r v9 ⟨rfl,rfl⟩
      refine hK.out _ _ (xl (HB.out.1.below HX.out HB.out.1.lt)) (fun hHeld=>?_)
      clear hK K
      (try simp only[Act.put,sEa,sEb,sEc])
      refine eR 6 (fun K hK=>?_)
      go_simp
      obtain⟨v6,hw⟩: ∃w,w=World.alloc v4 (.cells #[.string (S s1),.string (S s2)] 9):=⟨_,rfl⟩
      have H6:Hid (Blk v6 (World.heap v4).size 9 #[.string (S s1),.string (S s2)]):=hid (by rw[hw];exact Blk.new _ _ _)
      have HG6:Hid (W.heap.size≤(World.heap v4).size):=hid (Nat.le_trans HB.out.2.1.size HX.out.size)
      have hb:Below (World.heap v4).size v4 v6:=by rw[hw];exact(Below.refl _ _).alloc (Nat.le_refl _) _
      rw[←hw]
      have HX:=hid (HX.out.trans (hb.mono HX.out.size))
      have H9:=hid (H9.out.below hb H9.out.lt)
      clear hb hw
      refine hK.out _ _ (xl (HB.out.1.below HX.out HB.out.1.lt)) (fun hHeld=>?_)
      clear hK K
      (try simp only[Act.put,sEa,sEb,sEc])
      refine eT 11 hHeld ?_;(try simp only[Act.put,sEa,sEb,sEc]);refine eL (fun K hK=>?_);go_simp;refine hK.out _ _ ?_;clear hK K;(try simp only[Act.put,sEa,sEb,sEc])
      go_wp2
      go_ret2
      refine⟨_,2,2,by rw[HOK.out];rfl,fun _=>⟨_,rfl,by rw[HWO.out];rfl,rfl,?_⟩,HB.out.2.1.trans (HX.out.mono HB.out.2.1.size)⟩
      rw[HWO.out]
      exact H6.out
 ·have HOK:=hid (aU3 (a:=AcV.ac ⟨kd,n,kp,kn,kc,kl,tt,bb⟩) hk)
  by_cases k1:kd<1
  ·clear hk
   go_enter Tryz.func34,Tryz.ntmps34
   go_upto_region 1 with fail
   rw[←HB.out.2.2.1,←HB.out.2.2.2]
   go_wp2
   go_ret2
   exact⟨none,0,0,by rw[HOK.out];rfl,(fun h=>by rw[HOK.out]at h;cases h),HB.out.2.1⟩
  ·have k2:9<kd:=by omega
   clear hk
   go_enter Tryz.func34,Tryz.ntmps34
   go_upto_region 1 with fail
   rw[←HB.out.2.2.1,←HB.out.2.2.2]
   go_wp2
   go_ret2
   exact⟨none,0,0,by rw[HOK.out];rfl,(fun h=>by rw[HOK.out]at h;cases h),HB.out.2.1⟩
end
section
open Go.RowKit Go.Lib
theorem aUJ (a:Ac):(aos a).length≤4:=by
 unfold aos
 split
 ·simp
 ·split<;>simp
theorem aTe {a:Ac} (h:okA a=true):kH a=abI (aos a):=if_pos (aR3 h)
theorem aUY (k:Int):(kwI k).length≤10:=aMD _
theorem aSW {a:Ac} (h:okA a=true):(abI (aos a)).length≤300:=by
 have k1:=aUY a.kind
 by_cases h3:a.kind=3
 ·rw[aos,if_pos h3]
  simp only[abI]
  omega
 ·by_cases h7:a.kind=7
  ·obtain⟨h1,h2,h4⟩:=aR2 h7 h
   rw[aos,if_neg h3,if_pos h7]
   have q1:=af2 a.keep
   have q2:=X3 h1
   have q3:=X3 h2
   simp only[abI,List.length_append,List.length_cons]
   omega
  ·rw[aos,if_neg h3,if_neg h7]
   have q1:=X3 (aR4 h3 h7 h)
   simp only[abI,List.length_append,List.length_cons]
   omega
theorem aUr (l:Bs):(aTr l).length≤2*l.length+1:=by
 unfold aTr
 split
 ·simp
 ·rw[aTc];omega
def aTJ (s:Scr):List Bs:=[[119,111,114,108,100],Xb s.sec,Xb s.fr,aTr (aS7 s.m)]
theorem aTA {s:Scr} (hm:s.m.lgt) (h1:YH s.sec=true) (h2:YH s.fr=true):(abI (aTJ s)).length≤91000:=by
 have q1:=X3 h1
 have q2:=X3 h2
 have q3:=aUr (aS7 s.m)
 have q4:=aSN hm
 unfold aTJ
 simp only[abI,List.length_append,List.length_cons,List.length_nil]
 omega
def xp (l:List Ac):Bs:=l.flatMap fun a=>kH a++[10]
theorem aS0 {l:List Ac} {j:Nat} {a:Ac} (h:l[j]? =some a):xp (l.take (j+1))=xp (l.take j)++(kH a++[10]):=by
 unfold xp
 rw[List.take_add_one,h,List.flatMap_append]
 simp
theorem aS8 {l:List Ac} (h: ∀a∈l,okA a=true):(xp l).length≤301*l.length:=by
 unfold xp
 induction l with
 |nil=>simp
 |cons a l ih=>
  have q:=ih fun x hx=>h x (List.mem_cons_of_mem _ hx)
  have q1:=aSW (h a (List.mem_cons_self ..))
  rw[←aTe (h a (List.mem_cons_self ..))]at q1
  rw[List.flatMap_cons,List.length_append,List.length_append,List.length_cons,List.length_cons]
  simp only[List.length_nil]
  omega
theorem aSP {s:Scr} (h:yM s.m=false):xx s=15∧jz s=[]:=by
 have h1:xx s=15:=if_pos h
 exact⟨h1,by unfold jz;rw[h1];rfl⟩
theorem aSQ {s:Scr} (h:yM s.m=true) (h2:(YH s.sec&&YH s.fr)=false∨s.acts.all okA=false):xx s=2∧jz s=[]:=by
 have h1:xx s=2:=by
  unfold xx
  rw[if_neg (by rw[h];decide)]
  rcases h2 with h2|h2
  ·rw[if_pos h2]
  ·split
   ·rfl
   ·first |rfl|rw[if_pos h2]
 exact⟨h1,by unfold jz;rw[h1];rfl⟩
theorem aTq {s:Scr} (h:yM s.m=true) (h2:(YH s.sec&&YH s.fr)=true) (h3:s.acts.all okA=true) (h4:1024<s.acts.length+2):xx s=11∧jz s=[]:=by
 have h1:xx s=11:=by
  unfold xx
  rw[if_neg (by rw[h];decide),if_neg (by rw[h2];decide),if_neg (by rw[h3];decide),if_pos h4]
 exact⟨h1,by unfold jz;rw[h1];rfl⟩
theorem aTE {s:Scr} (h:yM s.m=true) (h2:(YH s.sec&&YH s.fr)=true) (h3:s.acts.all okA=true) (h4: ¬1024<s.acts.length+2):xx s=0∧jz s=aUI s:=by
 have h1:xx s=0:=by
  unfold xx
  rw[if_neg (by rw[h];decide),if_neg (by rw[h2];decide),if_neg (by rw[h3];decide),if_neg h4]
 exact⟨h1,by unfold jz;rw[h1];rfl⟩
end
section
open Go.RowKit Go.Lib
section
variable {P:Program} {md:Region.Mode} {ops:Array Oper} {Q:Exit→Act→World→Prop} {S:World→Prop} {t:Nat} {fuel:Nat} {listed:Array Bool} {a:Act} {w:World}
theorem eN (i:Nat) {oi:Oper} (hS:S w) (h:yQ P md ops Q S t fuel (listed.setIfInBounds i true) (a.put oi.dst undef) w)
  (hi:ops[i]? =some oi:=by((simp only[gEa,gEb,gEc];try rfl)))
  (h3:(Region.noSelect ops&&Region.free md ops listed i&&(Region.ready md ops listed).contains i&&XZ md ops listed&&Xg md ops i ops.size t)=true:=by kernel_rfl)
  (hQ: ∀c a w,Q (.panic c) (a.put oi.dst undef) w→Q (.panic c) a w:=by exact fun _ _ _ h=>h)
  (hy:YieldsIf P ops S oi undef a:=by exact Or.inr ⟨by kernel_rfl,rfl⟩):yQ P md ops Q S t (fuel+1) listed a w:=eTk hi h3 hQ hy hS h
end
def AcV.fine (a:AcV):Prop:=a.keep.length≤1000∧okZ a.n∧okZ a.torn∧okZ a.bytes
theorem aSZ {x:Int} (h:okZ x):(Xb x).length≤102:=by
 unfold okZ at h
 unfold Xb
 split
 ·rw[List.length_cons]
  by_cases hm:(-x).toNat<9223372036854775808
  ·have:=X4 _ hm;omega
  ·have hd: ¬(-x).toNat<10:=by omega
   rw[Zl,dif_neg hd,List.length_append]
   have:=X4 ((-x).toNat / 10) (by omega)
   simp only[List.length_cons,List.length_nil]
   omega
 ·have:=X4 x.toNat (by omega)
  omega
theorem aUE {W:World} {a:AcV} (ha:acd W a) (hf:a.fine) (h:okA a.ac=false):Calls Tryz.prog 27 #[.agg #[.int .i64 a.kind,.int .i64 a.n,.slice a.kp a.kn a.kc,.int .i64 a.torn,.int .i64 a.bytes]] W fun r w'=>(∃s,r= .returned (.tuple #[.string s,.bool false]))∧Below W.heap.size W w':=by
 obtain⟨kd,n,kp,kn,kc,kl,tt,bb⟩:=a
 obtain⟨f1,f2,f3,f4⟩:=hf
 dsimp only at f1 f2 f3 f4
 have hn:=ha.n
 have hv:=ha.k
 dsimp only at hn hv
 have HN:=hid hn
 clear hn
 obtain⟨xb,hxb⟩: ∃k,k=W.heap.size:=⟨_,rfl⟩
 obtain⟨w1,hw1⟩: ∃w,w=W.alloc (.cells #[.int .i64 kd,.int .i64 n,.slice kp kn kc,.int .i64 tt,.int .i64 bb] 53):=⟨_,rfl⟩
 have hB:Blk w1 xb 53 #[.int .i64 kd,.int .i64 n,.slice kp kn kc,.int .i64 tt,.int .i64 bb]:=by rw[hw1,hxb];exact Blk.new _ _ _
 have HB:=hid (⟨hB,(by rw[hw1];exact(Below.refl _ W).alloc (Nat.le_refl _) _:Below W.heap.size W w1),hxb,hw1⟩:_∧_∧_∧_)
 obtain⟨⟨c0,c1,c2,c3,c4⟩,_,_⟩:=yq hB
 clear hB hxb hw1 ha
 by_cases hlo:kd<1
 ·clear h
  go_enter Tryz.func27,Tryz.ntmps27
  go_upto_region 1 with fail
  rw[←HB.out.2.2.1,←HB.out.2.2.2]
  go_wp2
  go_ret2
  exact⟨⟨_,rfl⟩,HB.out.2.1⟩
 by_cases hhi:9<kd
 ·clear h
  go_enter Tryz.func27,Tryz.ntmps27
  go_upto_region 1 with fail
  rw[←HB.out.2.2.1,←HB.out.2.2.2]
  go_wp2
  go_ret2
  exact⟨⟨_,rfl⟩,HB.out.2.1⟩
 have h3:kd≠3:=by
  rintro rfl
  have he:okA (AcV.ac ⟨3,n,kp,kn,kc,kl,tt,bb⟩)=true:=rfl
  rw[he]at h
  cases h
 by_cases h7:kd=7
 ·subst h7
  have hok:okA (AcV.ac ⟨7,n,kp,kn,kc,kl,tt,bb⟩)=(YH tt&&(YH bb&&decide (kl.length≤64))):=rfl
  rw[hok]at h
  have HLE:=hid (Ki kl kp kn kc HN.out (by omega) w1.drew ((hv.below HB.out.2.1).below (Below.refl w1.heap.size w1).drew))
  have HD1:=hid (fun w=>vl f3 w)
  have HD2:=hid (fun w=>vl f4 w)
  have HM1:=hid (fun w=>QE tt w)
  have HM2:=hid (fun w=>QE bb w)
  have l1:=af2 kl
  have l2:=aSZ f3
  have l3:=aSZ f4
  obtain⟨s1,hs1⟩: ∃s,s=XV kl:=⟨_,rfl⟩
  obtain⟨s2,hs2⟩: ∃s,s=Xb tt:=⟨_,rfl⟩
  obtain⟨s3,hs3⟩: ∃s,s=Xb bb:=⟨_,rfl⟩
  obtain⟨m1,hm1⟩: ∃b,b=YH tt:=⟨_,rfl⟩
  obtain⟨m2,hm2⟩: ∃b,b=YH bb:=⟨_,rfl⟩
  rw[←hs1]at HLE l1
  rw[←hs2]at HD1 l2
  rw[←hs3]at HD2 l3
  rw[←hm1]at HM1 h
  rw[←hm2]at HM2 h
  have hl1:s1.length≤1001:=by omega
  have q2: ¬9223372036854775807<6+s1.length:=by omega
  have q3: ¬9223372036854775807<6+s1.length+1:=by omega
  have q4: ¬9223372036854775807<6+s1.length+1+s2.length:=by omega
  have q5: ¬9223372036854775807<6+s1.length+1+s2.length+1:=by omega
  have q6: ¬9223372036854775807<6+s1.length+1+s2.length+1+s3.length:=by omega
  have hkn:m1=true→m2=true→ ¬(kn:Int)≤64:=by
   rintro rfl rfl
   simp only[Bool.true_and,decide_eq_false_iff_not]at h
   have:=HN.out
   omega
  clear hs1 hs2 hs3 hm1 hm2 l1 l2 l3 hv f1 f2 f3 f4 h hok hl1
  cases m1
  rotate_left
  cases m2
  rotate_left
  have hkn:=hkn rfl rfl
  all_goals
   go_enter Tryz.func27,Tryz.ntmps27
   go_upto_region 6 with fail
   rw[←HB.out.2.2.1,←HB.out.2.2.2]
   refine zB (fun W'=>W'.cell? ⟨xb,0,none⟩=some (.int .i64 7)∧W'.cell? ⟨xb,1,none⟩=some (.int .i64 n)∧W'.cell? ⟨xb,2,none⟩=some (.slice kp kn kc)∧W'.cell? ⟨xb,3,none⟩=some (.int .i64 tt)∧W'.cell? ⟨xb,4,none⟩=some (.int .i64 bb)) 35 (by kernel_rfl) ⟨c0,c1,c2,c3,c4⟩ (fun hHeld=>?_)
   have HX:Hid (Below w1.heap.size w1 w1.drew):=hid (Below.refl w1.heap.size w1).drew
   refine eT 0 hHeld ?_;(try simp only[Act.put,sEa,sEb,sEc]);refine eT 1 hHeld ?_;(try simp only[Act.put,sEa,sEb,sEc]);refine eT 2 hHeld ?_;(try simp only[Act.put,sEa,sEb,sEc]);refine eT 6 hHeld ?_;(try simp only[Act.put,sEa,sEb,sEc]);refine eT 7 hHeld ?_;(try simp only[Act.put,sEa,sEb,sEc]);refine eT 8 hHeld ?_;(try simp only[Act.put,sEa,sEb,sEc]);refine eT 12 hHeld ?_;(try simp only[Act.put,sEa,sEb,sEc]);refine eT 13 hHeld ?_;(try simp only[Act.put,sEa,sEb,sEc]);refine eT 14 hHeld ?_;(try simp only[Act.put,sEa,sEb,sEc]);refine eT 17 hHeld ?_;(try simp only[Act.put,sEa,sEb,sEc]);refine eT 18 hHeld ?_;(try simp only[Act.put,sEa,sEb,sEc]);refine eT 19 hHeld ?_;(try simp only[Act.put,sEa,sEb,sEc])
   refine eR 3 (fun K hK=>?_)
   go_simp
   (with_reducible refine(HLE.out).mono ?_)
   rintro r w9 ⟨rfl,rfl⟩
   refine hK.out _ _ hHeld (fun hHeld=>?_)
   clear hK K
   (try simp only[Act.put,sEa,sEb,sEc])
   refine eT 4 hHeld ?_;(try simp only[Act.put,sEa,sEb,sEc]);refine eT 5 hHeld ?_;(try simp only[Act.put,sEa,sEb,sEc])
   refine eR 9 (fun K hK=>?_)
   go_simp
   (with_reducible refine(HD1.out _).mono ?_)
   rintro r w9 ⟨rfl,hb⟩
   have HX:=hid (HX.out.trans (hb.mono HX.out.size))
   obtain⟨⟨c0,c1,c2,c3,c4⟩,_,_⟩:=yq (HB.out.1.below HX.out HB.out.1.lt)
   clear hb
   refine hK.out _ _ ⟨c0,c1,c2,c3,c4⟩ (fun hHeld=>?_)
   clear hK K
   (try simp only[Act.put,sEa,sEb,sEc])
   refine eT 10 hHeld ?_;(try simp only[Act.put,sEa,sEb,sEc]);refine eT 11 hHeld ?_;(try simp only[Act.put,sEa,sEb,sEc])
   refine eR 15 (fun K hK=>?_)
   go_simp
   (with_reducible refine(HD2.out _).mono ?_)
   rintro r w15 ⟨rfl,hb⟩
   have HX:=hid (HX.out.trans (hb.mono HX.out.size))
   obtain⟨⟨c0,c1,c2,c3,c4⟩,_,_⟩:=yq (HB.out.1.below HX.out HB.out.1.lt)
   clear hb
   refine hK.out _ _ ⟨c0,c1,c2,c3,c4⟩ (fun hHeld=>?_)
   clear hK K
   (try simp only[Act.put,sEa,sEb,sEc])
   refine eT 16 hHeld ?_;(try simp only[Act.put,sEa,sEb,sEc])
   refine eR 20 (fun K hK=>?_)
   go_simp
   (with_reducible refine(HM1.out _).mono ?_)
   rintro r w9 ⟨rfl,rfl⟩
   refine hK.out _ _ hHeld (fun hHeld=>?_)
   clear hK K
   (try simp only[Act.put,sEa,sEb,sEc])
  ·refine eT 21 hHeld ?_;(try simp only[Act.put,sEa,sEb,sEc]);refine eT 22 hHeld ?_;(try simp only[Act.put,sEa,sEb,sEc]);refine eT 23 hHeld ?_;(try simp only[Act.put,sEa,sEb,sEc]);refine eT 24 hHeld ?_;(try simp only[Act.put,sEa,sEb,sEc])
   refine eR 25 (fun K hK=>?_)
   go_simp
   (with_reducible refine(HM2.out _).mono ?_)
   rintro r w9 ⟨rfl,rfl⟩
   refine hK.out _ _ hHeld (fun hHeld=>?_)
   clear hK K
   (try simp only[Act.put,sEa,sEb,sEc])
   refine eT 26 hHeld ?_;(try simp only[Act.put,sEa,sEb,sEc]);refine eT 27 hHeld ?_;(try simp only[Act.put,sEa,sEb,sEc]);refine eT 28 hHeld ?_;(try simp only[Act.put,sEa,sEb,sEc]);refine eT 29 hHeld ?_;(try simp only[Act.put,sEa,sEb,sEc]);refine eT 30 hHeld ?_;(try simp only[Act.put,sEa,sEb,sEc]);refine eT 31 hHeld ?_;(try simp only[Act.put,sEa,sEb,sEc]);refine eT 32 hHeld ?_;(try simp only[Act.put,sEa,sEb,sEc]);refine eT 33 hHeld ?_;(try simp only[Act.put,sEa,sEb,sEc]);refine eT 34 hHeld ?_;(try simp only[Act.put,sEa,sEb,sEc]);refine eL (fun K hK=>?_);go_simp;refine hK.out _ _ ?_;clear hK K;(try simp only[Act.put,sEa,sEb,sEc])
   go_wp2
   go_ret2
   exact⟨⟨_,rfl⟩,HB.out.2.1.trans (HX.out.mono HB.out.2.1.size)⟩
  ·refine eT 21 hHeld ?_;(try simp only[Act.put,sEa,sEb,sEc]);refine eN 22 hHeld ?_;(try simp only[Act.put,sEa,sEb,sEc]);refine eN 23 hHeld ?_;(try simp only[Act.put,sEa,sEb,sEc]);refine eN 24 hHeld ?_;(try simp only[Act.put,sEa,sEb,sEc]);refine eN 25 hHeld ?_;(try simp only[Act.put,sEa,sEb,sEc]);refine eT 26 hHeld ?_;(try simp only[Act.put,sEa,sEb,sEc]);refine eT 27 hHeld ?_;(try simp only[Act.put,sEa,sEb,sEc]);refine eN 28 hHeld ?_;(try simp only[Act.put,sEa,sEb,sEc]);refine eN 29 hHeld ?_;(try simp only[Act.put,sEa,sEb,sEc]);refine eN 30 hHeld ?_;(try simp only[Act.put,sEa,sEb,sEc]);refine eN 31 hHeld ?_;(try simp only[Act.put,sEa,sEb,sEc]);refine eN 32 hHeld ?_;(try simp only[Act.put,sEa,sEb,sEc]);refine eT 33 hHeld ?_;(try simp only[Act.put,sEa,sEb,sEc]);refine eT 34 hHeld ?_;(try simp only[Act.put,sEa,sEb,sEc]);refine eL (fun K hK=>?_);go_simp;refine hK.out _ _ ?_;clear hK K;(try simp only[Act.put,sEa,sEb,sEc])
   go_wp2
   go_ret2
   exact⟨⟨_,rfl⟩,HB.out.2.1.trans (HX.out.mono HB.out.2.1.size)⟩
  ·refine eT 21 hHeld ?_;(try simp only[Act.put,sEa,sEb,sEc]);refine eT 22 hHeld ?_;(try simp only[Act.put,sEa,sEb,sEc]);refine eT 23 hHeld ?_;(try simp only[Act.put,sEa,sEb,sEc]);refine eT 24 hHeld ?_;(try simp only[Act.put,sEa,sEb,sEc])
   refine eR 25 (fun K hK=>?_)
   go_simp
   (with_reducible refine(HM2.out _).mono ?_)
   rintro r w9 ⟨rfl,rfl⟩
   refine hK.out _ _ hHeld (fun hHeld=>?_)
   clear hK K
   (try simp only[Act.put,sEa,sEb,sEc])
   refine eT 26 hHeld ?_;(try simp only[Act.put,sEa,sEb,sEc]);refine eT 27 hHeld ?_;(try simp only[Act.put,sEa,sEb,sEc]);refine eN 28 hHeld ?_;(try simp only[Act.put,sEa,sEb,sEc]);refine eN 29 hHeld ?_;(try simp only[Act.put,sEa,sEb,sEc]);refine eN 30 hHeld ?_;(try simp only[Act.put,sEa,sEb,sEc]);refine eN 31 hHeld ?_;(try simp only[Act.put,sEa,sEb,sEc]);refine eN 32 hHeld ?_;(try simp only[Act.put,sEa,sEb,sEc]);refine eT 33 hHeld ?_;(try simp only[Act.put,sEa,sEb,sEc]);refine eT 34 hHeld ?_;(try simp only[Act.put,sEa,sEb,sEc]);refine eL (fun K hK=>?_);go_simp;refine hK.out _ _ ?_;clear hK K;(try simp only[Act.put,sEa,sEb,sEc])
   go_wp2
   go_ret2
   exact⟨⟨_,rfl⟩,HB.out.2.1.trans (HX.out.mono HB.out.2.1.size)⟩
 ·have hm1:YH n=false:=by
   have:=aUa (a:=AcV.ac ⟨kd,n,kp,kn,kc,kl,tt,bb⟩) ⟨by show(1:Int)≤kd;omega,by show kd≤9;omega⟩ h3 h7
   rw[h]at this
   exact this.symm
  obtain⟨k,hk⟩: ∃k:Nat,(k:Int)=kd:=⟨kd.toNat,by omega⟩
  subst hk
  have HNM:=hid (aaG k (by omega) w1.drew)
  have HD1:=hid (fun w=>vl f2 w)
  have HM1:Hid (∀w,Calls Tryz.prog 36 #[.int .i64 n] w fun e w'=>e= .returned (.bool false)∧w=w'):=hid fun w=>by rw[←hm1];exact QE n w
  have l2:=aSZ f2
  have l1:=aMD k
  obtain⟨s1,hs1⟩: ∃s,s=kw k:=⟨_,rfl⟩
  obtain⟨s2,hs2⟩: ∃s,s=Xb n:=⟨_,rfl⟩
  rw[←hs1]at HNM l1
  rw[←hs2]at HD1 l2
  have k3:((k:Int)==3)=false:=by rw[beq_eq_false_iff_ne];exact h3
  have k7:((k:Int)==7)=false:=by rw[beq_eq_false_iff_ne];exact h7
  clear hs1 hs2 hm1 h hv h3 h7 HN f1 f2 f3 f4
  go_enter Tryz.func27,Tryz.ntmps27
  go_upto_region 7 with fail
  rw[←HB.out.2.2.1,←HB.out.2.2.2]
  refine zB (fun W'=>W'.cell? ⟨xb,0,none⟩=some (.int .i64 k)∧W'.cell? ⟨xb,1,none⟩=some (.int .i64 n)∧W'.cell? ⟨xb,2,none⟩=some (.slice kp kn kc)∧W'.cell? ⟨xb,3,none⟩=some (.int .i64 tt)∧W'.cell? ⟨xb,4,none⟩=some (.int .i64 bb)) 12 (by kernel_rfl) ⟨c0,c1,c2,c3,c4⟩ (fun hHeld=>?_)
  have HX:Hid (Below w1.heap.size w1 w1.drew):=hid (Below.refl w1.heap.size w1).drew
  refine eT 0 hHeld ?_;(try simp only[Act.put,sEa,sEb,sEc]);refine eT 1 hHeld ?_;(try simp only[Act.put,sEa,sEb,sEc]);refine eT 4 hHeld ?_;(try simp only[Act.put,sEa,sEb,sEc]);refine eT 5 hHeld ?_;(try simp only[Act.put,sEa,sEb,sEc]);refine eT 8 hHeld ?_;(try simp only[Act.put,sEa,sEb,sEc]);refine eT 9 hHeld ?_;(try simp only[Act.put,sEa,sEb,sEc])
  refine eR 2 (fun K hK=>?_)
  go_simp
  (with_reducible refine(HNM.out).mono ?_)
  rintro r w2 ⟨rfl,hb⟩
  have HX:=hid (HX.out.trans (hb.mono HX.out.size))
  obtain⟨⟨c0,c1,c2,c3,c4⟩,_,_⟩:=yq (HB.out.1.below HX.out HB.out.1.lt)
  clear hb
  refine hK.out _ _ ⟨c0,c1,c2,c3,c4⟩ (fun hHeld=>?_)
  clear hK K
  (try simp only[Act.put,sEa,sEb,sEc])
  have q2: ¬9223372036854775807<s1.length+1:=by omega
  have q3: ¬9223372036854775807<s1.length+1+s2.length:=by omega
  refine eT 3 hHeld ?_;(try simp only[Act.put,sEa,sEb,sEc])
  refine eR 6 (fun K hK=>?_)
  go_simp
  (with_reducible refine(HD1.out _).mono ?_)
  rintro r w6 ⟨rfl,hb⟩
  have HX:=hid (HX.out.trans (hb.mono HX.out.size))
  obtain⟨⟨c0,c1,c2,c3,c4⟩,_,_⟩:=yq (HB.out.1.below HX.out HB.out.1.lt)
  clear hb
  refine hK.out _ _ ⟨c0,c1,c2,c3,c4⟩ (fun hHeld=>?_)
  clear hK K
  (try simp only[Act.put,sEa,sEb,sEc])
  refine eT 7 hHeld ?_;(try simp only[Act.put,sEa,sEb,sEc])
  refine eR 10 (fun K hK=>?_)
  go_simp
  (with_reducible refine(HM1.out _).mono ?_)
  rintro r w9 ⟨rfl,rfl⟩
  refine hK.out _ _ hHeld (fun hHeld=>?_)
  clear hK K
  (try simp only[Act.put,sEa,sEb,sEc])
  refine eT 11 hHeld ?_;(try simp only[Act.put,sEa,sEb,sEc]);refine eL (fun K hK=>?_);go_simp;refine hK.out _ _ ?_;clear hK K;(try simp only[Act.put,sEa,sEb,sEc])
  go_wp2
  go_ret2
  exact⟨⟨_,rfl⟩,HB.out.2.1.trans (HX.out.mono HB.out.2.1.size)⟩
end
end Go.Proofs.YtcdiljebkpikbaaGreat
