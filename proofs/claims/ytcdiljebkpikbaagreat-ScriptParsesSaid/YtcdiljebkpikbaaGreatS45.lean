/- Parts of the proof: Seb. -/
import Derived.Deep.Cut
import Derived.Deep.CutRange
import Derived.Deep.CutBlock
import Derived.Test.YtcdiljebkpikbaaGreatS31
import Derived.Test.YtcdiljebkpikbaaGreatS44
set_option linter.all false
set_option maxRecDepth 100000
set_option maxHeartbeats 64000000
namespace Go.Proofs.YtcdiljebkpikbaaGreat
section
open Go.RowKit Go.Lib
theorem ajr {s:Bs} (hs:s.length≤1000000) (W:World):Calls Tryz.prog 54 #[.string (S s)] W (aSj W s):=by
 obtain⟨x0,hx0⟩: ∃x,x=rdI s (some 0):=⟨_,rfl⟩
 obtain⟨x1,hx1⟩: ∃x,x=rdF s x0.2:=⟨_,rfl⟩
 obtain⟨c1,hc1⟩: ∃x,x=rdC s x1.2:=⟨_,rfl⟩
 obtain⟨z1,hz1⟩: ∃x,x=rdN rdF c1.1.toNat s c1.2:=⟨_,rfl⟩
 obtain⟨c2,hc2⟩: ∃x,x=rdC s z1.2:=⟨_,rfl⟩
 obtain⟨z2,hz2⟩: ∃x,x=rdN (rdL xR) c2.1.toNat s c2.2:=⟨_,rfl⟩
 obtain⟨c3,hc3⟩: ∃x,x=rdC s z2.2:=⟨_,rfl⟩
 obtain⟨z3,hz3⟩: ∃x,x=rdN acb c3.1.toNat s c3.2:=⟨_,rfl⟩
 obtain⟨c4,hc4⟩: ∃x,x=rdC s z3.2:=⟨_,rfl⟩
 obtain⟨z4,hz4⟩: ∃x,x=rdN YO c4.1.toNat s c4.2:=⟨_,rfl⟩
 have HM:Hid (rdM s (some 0)=(⟨x0.1,x1.1,z1.1,z2.1,z3.1,z4.1⟩,z4.2)):=hid (by rw[hz4,hc4,hz3,hc3,hz2,hc2,hz1,hc1,hx1,hx0];rfl)
 have HZ:=hid (⟨hz1,hz2,hz3,hz4⟩:_∧_∧_∧_)
 have HI0:=ye hs (show AtR s (some 0) 0 0 from⟨rfl,rfl,Nat.zero_le _⟩)
 rw[←hx0]at HI0
 have HI0:=hid HI0
 have HFl:Hid (∀n e w,AtR s x0.2 n e→Calls Tryz.prog 102 #[.string (S s),.agg #[.int .i64 n,.int .i64 e]] w (AtP w s (fun x:Nat=> .float .f64 x) x1)):=hid fun n e w h=>by rw[hx1];exact jv hs h w
 have HC1:Hid (∀n e w,AtR s x1.2 n e→Calls Tryz.prog 103 #[.string (S s),.agg #[.int .i64 n,.int .i64 e]] w fun r w'=> ∃k n e:Int,r= .returned (.tuple #[.int .i64 k,.agg #[.int .i64 n,.int .i64 e]])∧AtR s c1.2 n e∧(c1.2.isSome=true→k=c1.1∧0≤k∧k≤48)∧Below w.heap.size w w'):=hid fun n e w h=>by rw[hc1];exact yI hs h w
 have HC2:Hid (∀n e w,AtR s z1.2 n e→Calls Tryz.prog 103 #[.string (S s),.agg #[.int .i64 n,.int .i64 e]] w fun r w'=> ∃k n e:Int,r= .returned (.tuple #[.int .i64 k,.agg #[.int .i64 n,.int .i64 e]])∧AtR s c2.2 n e∧(c2.2.isSome=true→k=c2.1∧0≤k∧k≤48)∧Below w.heap.size w w'):=hid fun n e w h=>by rw[hc2];exact yI hs h w
 have HC3:Hid (∀n e w,AtR s z2.2 n e→Calls Tryz.prog 103 #[.string (S s),.agg #[.int .i64 n,.int .i64 e]] w fun r w'=> ∃k n e:Int,r= .returned (.tuple #[.int .i64 k,.agg #[.int .i64 n,.int .i64 e]])∧AtR s c3.2 n e∧(c3.2.isSome=true→k=c3.1∧0≤k∧k≤48)∧Below w.heap.size w w'):=hid fun n e w h=>by rw[hc3];exact yI hs h w
 have HC4:Hid (∀n e w,AtR s z3.2 n e→Calls Tryz.prog 103 #[.string (S s),.agg #[.int .i64 n,.int .i64 e]] w fun r w'=> ∃k n e:Int,r= .returned (.tuple #[.int .i64 k,.agg #[.int .i64 n,.int .i64 e]])∧AtR s c4.2 n e∧(c4.2.isSome=true→k=c4.1∧0≤k∧k≤48)∧Below w.heap.size w w'):=hid fun n e w h=>by rw[hc4];exact yI hs h w
 have HS:=hid hs
 clear hs hx0 hx1 hc1 hz1 hc2 hz2 hc3 hz3 hc4 hz4
 obtain⟨r0,hr0⟩: ∃n,n=W.heap.size:=⟨_,rfl⟩
 obtain⟨W0,hW0⟩: ∃w,w=W.alloc (.cells #[.int .i64 0,.float .f64 0,.slice none 0 0,.slice none 0 0,.slice none 0 0,.slice none 0 0] 29):=⟨_,rfl⟩
 have HR0:Hid (Below W.heap.size W W0∧Blk W0 r0 29 #[.int .i64 0,.float .f64 0,.slice none 0 0,.slice none 0 0,.slice none 0 0,.slice none 0 0]∧W.heap.size=r0):=hid ⟨by rw[hW0];exact(Below.refl _ W).alloc (Nat.le_refl _) _,by rw[hW0,hr0];exact Blk.new W _ _,hr0.symm⟩
 have HW0:=hid (⟨hr0,hW0⟩:_∧_)
 clear hr0 hW0
 go_enter Tryz.func54,Tryz.ntmps54
 go_upto_region 1 with fail
 rw[←HW0.out.1,←HW0.out.2]
 go_wp2_with fail
 (with_reducible refine(HI0.out _).mono ?_)
 rintro r w1 ⟨n1,e1,rfl,hat,hbl⟩
 obtain⟨sd,hsd⟩: ∃k,k=x0.1:=⟨_,rfl⟩
 rw[←hsd]at HM⊢
 obtain⟨g,hg⟩: ∃k,k=w1.heap.size:=⟨_,rfl⟩
 obtain⟨W4,hW4⟩: ∃w,w=w1.alloc (.cells #[.int .i64 n1,.int .i64 e1] 170):=⟨_,rfl⟩
 have hB4:Blk W4 g 170 #[.int .i64 n1,.int .i64 e1]:=by rw[hW4,hg];exact Blk.new _ _ _
 have H4:Hid (Below W.heap.size W W4∧Blk W4 r0 29 #[.int .i64 0,.float .f64 0,.slice none 0 0,.slice none 0 0,.slice none 0 0,.slice none 0 0]∧W.heap.size≤g∧g≠r0):=hid ⟨by rw[hW4];exact(HR0.out.1.trans (hbl.mono HR0.out.1.size)).alloc (Nat.le_trans HR0.out.1.size hbl.size) _,by rw[hW4];exact(HR0.out.2.1.below hbl HR0.out.2.1.lt).alloc _,by rw[hg];exact Nat.le_trans HR0.out.1.size hbl.size,by have:=(HR0.out.2.1.below hbl HR0.out.2.1.lt).lt;omega⟩
 have HG4:=hid (⟨hB4,hat⟩:_∧_)
 have HW4:=hid (⟨hg,hW4⟩:_∧_)
 clear hsd hg hW4 hbl hat hB4 HI0
 go_upto_region 2 with fail
 rw[←HW4.out.1,←HW4.out.2]
 obtain⟨⟨a0,a1⟩,⟨f0,f1⟩,flt⟩:=yS HG4.out.1
 have HF:=hid (HFl.out _ _ W4 HG4.out.2)
 go_wp2_with fail
 (with_reducible refine HF.out.mono ?_)
 rintro r w5 ⟨n2,e2,rfl,hat,hbl⟩
 obtain⟨en,hen⟩: ∃k,k=x1.1:=⟨_,rfl⟩
 rw[←hen]at HM⊢
 have hB5:=HG4.out.1.below hbl HG4.out.1.lt
 obtain⟨w6,hw6⟩: ∃w,w=za w5 g 0 [.int .i64 n2,.int .i64 e2]:=⟨_,rfl⟩
 have HG6:Hid (Kp [g] W4 w6∧Blk w6 g 170 #[.int .i64 n2,.int .i64 e2]∧AtR s x1.2 n2 e2):=hid ⟨by rw[hw6];exact zU (.inl (by simp)) _ _ _ (.of_below hbl),by rw[hw6];exact(hB5.set_ 0 _).set_ 1 _,hat⟩
 have HW6:=hid hw6
 clear a0 a1 f0 f1 flt hen hbl hat hw6 HF
 obtain⟨⟨a0,a1⟩,⟨f0,f1⟩,flt⟩:=yS hB5
 clear hB5
 go_upto_region 3 with fail
 have hw6:=HW6.out
 unfold za za za at hw6
 rw[←hw6]
 clear hw6 HW6 a0 a1 f0 f1 flt
 go_wp2_with (with_reducible refine YF 29 rfl ?_)
 with_reducible refine ki ?_
 obtain⟨mb,hmb⟩: ∃k,k=w6.heap.size:=⟨_,rfl⟩
 obtain⟨w7,hw7⟩: ∃w,w=w6.alloc (.cells #[.int .i64 0,.float .f64 0,.slice none 0 0,.slice none 0 0,.slice none 0 0,.slice none 0 0] 29):=⟨_,rfl⟩
 rw[←hmb,←hw7]
 have hm7:Blk w7 mb 29 #[.int .i64 0,.float .f64 0,.slice none 0 0,.slice none 0 0,.slice none 0 0,.slice none 0 0]:=by rw[hw7,hmb];exact Blk.new _ _ _
 obtain⟨w8,hw8⟩: ∃w,w=za w7 mb 0 [.int .i64 sd,.float .f64 en,.slice none 0 0,.slice none 0 0,.slice none 0 0,.slice none 0 0]:=⟨_,rfl⟩
 have HI:Hid (G6 W4 g mb s x1.2 sd en (.slice none 0 0) [] (.slice none 0 0) [] (.slice none 0 0) [] (.slice none 0 0) [] w8):=hid (by
  have hg7:Blk w7 g 170 #[.int .i64 n2,.int .i64 e2]:=by rw[hw7];exact HG6.out.2.1.alloc _
  have hn:g≠mb:=hg7.ne_ hm7 (by decide)
  have lo:W4.heap.size≤mb:=by rw[hmb];exact HG6.out.1.size
  rw[hw8]
  exact⟨⟨n2,e2,(((((hg7.far hn _).far hn _).far hn _).far hn _).far hn _).far hn _,HG6.out.2.2⟩,(((((hm7.set_ 0 _).set_ 1 _).set_ 2 _).set_ 3 _).set_ 4 _).set_ 5 _,yO _ _ _ _,yO _ _ _ _,by simp,yO _ _ _ _,by simp,yO _ _ _ _,zU (.inr lo) _ _ _ (by rw[hw7];exact HG6.out.1.alloc _),lo⟩)
 have HW8:=hid hw8
 obtain⟨⟨a0,a1,a2,a3,a4,a5⟩,⟨b0,b1,b2,b3,b4,b5⟩,hlt⟩:=six hm7
 clear hw7 hw8 hm7 hmb
 go_upto_region 4 with fail
 have hw8:=HW8.out
 unfold za za za za za za za at hw8
 rw[←hw8]
 clear hw8 HW8 a0 a1 a2 a3 a4 a5 b0 b1 b2 b3 b4 b5 hlt
 obtain⟨n,e,hb,hat⟩:=HI.out.rd
 obtain⟨⟨a0,a1⟩,⟨f0,f1⟩,flt⟩:=yS hb
 have HF:=hid (HC1.out _ _ w8 hat)
 go_wp2_with fail
 (with_reducible refine HF.out.mono ?_)
 rintro r wc1 ⟨k1,n1,e1,rfl,hat1,hck,hbl⟩
 have hI2:=HI.out.below hbl
 have hb2:=hb.below hbl hb.lt
 obtain⟨w9,hwn⟩: ∃w,w=za wc1 g 0 [.int .i64 n1,.int .i64 e1]:=⟨_,rfl⟩
 have HJ:Hid (G6 W4 g mb s c1.2 sd en (.slice none 0 0) [] (.slice none 0 0) [] (.slice none 0 0) [] (.slice none 0 0) [] w9):=hid (by rw[hwn];exact hI2.at_ hat1)
 have HCK1:=hid hck
 have HWN:=hid hwn
 clear hb hat a0 a1 f0 f1 flt HF hck hbl hI2 hwn hat1 HI
 have HI:=HJ
 clear HJ
 obtain⟨⟨a0,a1⟩,⟨f0,f1⟩,flt⟩:=yS hb2
 clear hb2
 go_upto_region 5 with fail
 have hwn:=HWN.out
 unfold za za za at hwn
 rw[←hwn]
 clear hwn HWN a0 a1 f0 f1 flt
 go_upto_block 0 with fail
 go_cut [9,10,11]from 45 to 67 (fun s9 s10 s11 wc=> ∃(p:Option Addr) (c:Nat) (z1l:List Nat),Hid (z1l=z1.1∧z1l.length≤48)∧Hid (G6 W4 g mb s z1.2 sd en (.slice p z1l.length c) z1l (.slice none 0 0) [] (.slice none 0 0) [] (.slice none 0 0) [] wc))
 case first=>
  go_wp2_with fail
  go_loopg [9] 48 (fun gg s9 wr=> ∃(i:Nat) (p:Option Addr) (c:Nat) (l:List Nat) (st:Option Nat),i≤48∧48-i≤gg∧s9= .int .i64 i∧Hid (G6 W4 g mb s st sd en (.slice p i c) l (.slice none 0 0) [] (.slice none 0 0) [] (.slice none 0 0) [] wr)∧Hid (LpS rdF s c1 k1 i (l) st)∧Hid (l.length=i))
  case atStart=>exact⟨0,none,0,[],c1.2,by omega,by omega,rfl,HI,hid (.start HCK1.out),hid rfl⟩
  case round=>
   obtain⟨i,p,c,l,st,hi,hgg,rfl,HI,HL,HLI⟩:=hrel
   obtain⟨n3,e3,hb3,hat3⟩:=HI.out.rd
   obtain⟨⟨a0,a1⟩,⟨f0,f1⟩,flt⟩:=yS hb3
   have HB3:=hid (⟨hb3,hat3⟩:_∧_)
   clear hb3 hat3
   by_cases hgo:(i:Int)<k1∧st.isSome=true
   ·obtain⟨hik,hsx⟩:=hgo
    obtain⟨a,rfl⟩:=Option.isSome_iff_exists.1 hsx
    obtain⟨hn3,he3,ha3⟩:=HB3.out.2
    subst he3
    have HIK:=hid (HL.out.lt hik)
    have HL2:=HL.out.next hik
    clear hn3 ha3 hsx
    obtain⟨x,hx⟩: ∃x,x=rdF s (some a):=⟨_,rfl⟩
    rw[←hx]at HL2
    have HF:=jv HS.out HB3.out.2 wr
    rw[←hx]at HF
    have HF:=hid HF
    obtain⟨xv,hxv⟩: ∃v,v=x.1:=⟨_,rfl⟩
    have HXV:=hid hxv
    have HL2:=hid HL2
    clear hx
    go_wp2_with fail
    (with_reducible refine HF.out.mono ?_)
    rintro r w4 ⟨n4,e4,rfl,hat,hb4⟩
    rw[←hxv]
    obtain⟨tb,htb⟩: ∃k,k=w4.heap.size:=⟨_,rfl⟩
    obtain⟨w5,hw5⟩: ∃w,w=w4.alloc (.cells #[.int .i64 n4,.int .i64 e4] 170):=⟨_,rfl⟩
    have HW5:=hid (⟨htb,hw5⟩:_∧_)
    have hB:Blk w5 tb 170 #[.int .i64 n4,.int .i64 e4]:=by rw[hw5,htb];exact Blk.new _ _ _
    have hbw:Below wr.heap.size wr w5:=by rw[hw5];exact hb4.alloc hb4.size _
    have HI5:=hid (HI.out.below hbw)
    have HX:=hid (⟨trivial,trivial,hB,hat⟩:True∧True∧_∧_)
    clear hat hb4 htb hw5 hbw hB hxv a0 a1 f0 f1 flt HF
    go_upto_region 9 with fail
    rw[←HW5.out.1,←HW5.out.2]
    clear HW5
    have hm5:=HI5.out.blk
    have q2:w5.cell? ⟨mb,2,none⟩=some (.slice p i c):=hm5.cell 2
    clear hm5
    go_wp2_with (with_reducible refine yd .append rfl ?_)
    with_reducible refine ki ?_
    refine zO rfl _ _ 24 rfl flC aMq Tryz.underlying24 rfl (by decide) (by decide) Ya aaq xv HI5.out.d (by rw[HLI.out];omega) HI5.out.kp.size rfl rfl ?_
    intro v6 w12 ho6 hk6 hv6
    obtain⟨p6,c6,rfl⟩:=zm ho6
    have hn:=HI5.out.appD ho6 hk6
    rw[HLI.out]at hn⊢
    have hT:Blk w12 tb 170 #[.int .i64 n4,.int .i64 e4]:=HX.out.2.2.1.kp hk6 fun hm=>yo HI5.out.d HX.out.2.2.1 (by decide) (Option.mem_toList.1 hm)
    obtain⟨w13,hw13⟩: ∃w,w=w12.setCell ⟨mb,2,none⟩ (.slice p6 (i+1) c6):=⟨_,rfl⟩
    have hT2:Blk w13 tb 170 #[.int .i64 n4,.int .i64 e4]:=by rw[hw13];exact hT.far (hT.ne_ hn.1 (by decide)) _
    rw[←hw13]at hn
    obtain⟨n0,e0,hg0,_⟩:=hn.2.rd
    obtain⟨w14,hw14⟩: ∃w,w=za w13 g 0 [.int .i64 n4,.int .i64 e4]:=⟨_,rfl⟩
    have HI14:=hn.2.at_ HX.out.2.2.2
    rw[←hw14]at HI14
    have HI14:=hid HI14
    obtain⟨⟨b0,b1,b2,b3,b4,b5⟩,⟨g0,g1,g2,g3,g4,g5⟩,mlt⟩:=six hn.1
    have HW13:=hid (⟨hw13,hw14⟩:_∧_)
    have HG0:=hid (⟨hg0,hT2⟩:_∧_)
    clear ho6 hk6 hv6 hn hw13 hw14 hT hT2 hg0 q2
    go_upto_region 10 with fail
    rw[←HW13.out.1]
    clear b0 b1 b2 b3 b4 b5 g0 g1 g2 g3 g4 g5 mlt
    obtain⟨⟨a0,a1⟩,_,_⟩:=yS HG0.out.2
    obtain⟨⟨b0,b1⟩,⟨f0,f1⟩,flt⟩:=yS HG0.out.1
    go_wp2
    have hw14:=HW13.out.2
    unfold za za za at hw14
    rw[←hw14]
    go_roundg (48- (i+1))
    case measure=>have:=HIK.out.2;omega
    case rel=>exact⟨i+1,p6,c6,_,_,by have:=HIK.out.2;omega,by omega,by go_num,HI14,hid (by have h:=HL2.out;rw[←HXV.out]at h;exact h),hid (by rw[List.length_append,HLI.out];rfl)⟩
   ·have HFIN:Hid (z1=(l,st)):=hid (by rw[HZ.out.1];exact HL.out.fin hgo)
    have hsp:((i:Int)<k1∧(e3==0)=false)∨ ¬(i:Int)<k1:=by
     by_cases h:(i:Int)<k1
     ·refine .inl ⟨h,?_⟩
      cases st with
      |none=>have h:e3≠0:=HB3.out.2;simpa using h
      |some a=>exact absurd ⟨h,rfl⟩ hgo
     ·exact .inr h
    clear hgo
    rcases hsp with⟨hs1,hs2⟩ |hs1
    all_goals
     go_wp2_with fail
     go_meet
     case rel=>
      have hz:=HFIN.out
      have hl:=HLI.out
      subst hl
      exact⟨p,c,l,hid ⟨by rw[hz],hi⟩,hid (by rw[hz];exact HI.out)⟩
 case rest=>
  obtain⟨p1,q1,z1l,HZL1,HI⟩:=hcut
  obtain⟨n,e,hb,hat⟩:=HI.out.rd
  obtain⟨⟨a0,a1⟩,⟨f0,f1⟩,flt⟩:=yS hb
  have HF:=hid (HC2.out _ _ wc hat)
  go_wp2_with fail
  (with_reducible refine HF.out.mono ?_)
  rintro r wd2 ⟨k2,n2,e2,rfl,hat2,hck,hbl⟩
  have hI2:=HI.out.below hbl
  have hb2:=hb.below hbl hb.lt
  obtain⟨w9,hwn⟩: ∃w,w=za wd2 g 0 [.int .i64 n2,.int .i64 e2]:=⟨_,rfl⟩
  have HJ:Hid (G6 W4 g mb s c2.2 sd en (.slice p1 z1l.length q1) z1l (.slice none 0 0) [] (.slice none 0 0) [] (.slice none 0 0) [] w9):=hid (by rw[hwn];exact hI2.at_ hat2)
  have HCK2:=hid hck
  have HWN:=hid hwn
  clear hb hat a0 a1 f0 f1 flt HF hck hbl hI2 hwn hat2 HI
  have HI:=HJ
  clear HJ
  obtain⟨⟨a0,a1⟩,⟨f0,f1⟩,flt⟩:=yS hb2
  clear hb2
  go_upto_region 12 with fail
  have hwn:=HWN.out
  unfold za za za at hwn
  rw[←hwn]
  clear hwn HWN a0 a1 f0 f1 flt
  go_upto_block 2 with fail
  go_cut [12,13,14]from 74 to 96 (fun s12 s13 s14 wc=> ∃(p:Option Addr) (c:Nat) (z2l:List Prg),Hid ((z2l).map Prg.l=z2.1∧z2l.length≤48)∧Hid (G6 W4 g mb s z2.2 sd en (.slice p1 z1l.length q1) z1l (.slice p z2l.length c) z2l (.slice none 0 0) [] (.slice none 0 0) [] wc))
  case first=>
   go_wp2_with fail
   go_loopg [12] 48 (fun gg s12 wr=> ∃(i:Nat) (p:Option Addr) (c:Nat) (l:List Prg) (st:Option Nat),i≤48∧48-i≤gg∧s12= .int .i64 i∧Hid (G6 W4 g mb s st sd en (.slice p1 z1l.length q1) z1l (.slice p i c) l (.slice none 0 0) [] (.slice none 0 0) [] wr)∧Hid (LpS (rdL xR) s c2 k2 i ((l).map Prg.l) st)∧Hid (l.length=i))
   case atStart=>exact⟨0,none,0,[],c2.2,by omega,by omega,rfl,HI,hid (.start HCK2.out),hid rfl⟩
   case round=>
    obtain⟨i,p,c,l,st,hi,hgg,rfl,HI,HL,HLI⟩:=hrel
    obtain⟨n3,e3,hb3,hat3⟩:=HI.out.rd
    obtain⟨⟨a0,a1⟩,⟨f0,f1⟩,flt⟩:=yS hb3
    have HB3:=hid (⟨hb3,hat3⟩:_∧_)
    clear hb3 hat3
    by_cases hgo:(i:Int)<k2∧st.isSome=true
    ·obtain⟨hik,hsx⟩:=hgo
     obtain⟨a,rfl⟩:=Option.isSome_iff_exists.1 hsx
     obtain⟨hn3,he3,ha3⟩:=HB3.out.2
     subst he3
     have HIK:=hid (HL.out.lt hik)
     have HL2:=HL.out.next hik
     clear hn3 ha3 hsx
     obtain⟨x,hx⟩: ∃x,x=rdL xR s (some a):=⟨_,rfl⟩
     rw[←hx]at HL2
     have HF:=ahG HS.out HB3.out.2 wr
     rw[←hx]at HF
     have HF:=hid HF
     have HL2:=hid HL2
     clear hx
     go_wp2_with fail
     (with_reducible refine HF.out.mono ?_)
     rintro r w4 ⟨p4,c4,n4,e4,rfl,how,hat,hb4⟩
     obtain⟨nl,hnl⟩: ∃k,k=x.1.length:=⟨_,rfl⟩
     rw[←hnl]at how⊢
     obtain⟨tb,htb⟩: ∃k,k=w4.heap.size:=⟨_,rfl⟩
     obtain⟨w5,hw5⟩: ∃w,w=w4.alloc (.cells #[.int .i64 n4,.int .i64 e4] 170):=⟨_,rfl⟩
     have HW5:=hid (⟨htb,hw5⟩:_∧_)
     have hB:Blk w5 tb 170 #[.int .i64 n4,.int .i64 e4]:=by rw[hw5,htb];exact Blk.new _ _ _
     have hbw:Below wr.heap.size wr w5:=by rw[hw5];exact hb4.alloc hb4.size _
     have HI5:=hid (HI.out.below hbw)
     have HQ:Hid (atP W4.heap.size w5 ⟨p4,nl,c4,x.1⟩):=hid ⟨hnl,xL (by rw[hw5];exact how.alloc _) HI.out.kp.size⟩
     have HX:=hid (⟨trivial,trivial,hB,hat⟩:True∧True∧_∧_)
     clear hat hb4 htb hw5 hbw hB hnl how a0 a1 f0 f1 flt HF
     go_upto_region 16 with fail
     rw[←HW5.out.1,←HW5.out.2]
     clear HW5
     have hm5:=HI5.out.blk
     have q3:w5.cell? ⟨mb,3,none⟩=some (.slice p i c):=hm5.cell 3
     clear hm5
     go_wp2_with (with_reducible refine yd .append rfl ?_)
     with_reducible refine ki ?_
     refine zO rfl _ _ 25 rfl prC aMs Tryz.underlying25 rfl (by decide) (by decide) Yu aaS (⟨p4,nl,c4,x.1⟩:Prg) HI5.out.p (by rw[HLI.out];omega) HI5.out.kp.size rfl rfl ?_
     intro v6 w12 ho6 hk6 hv6
     obtain⟨p6,c6,rfl⟩:=zm ho6
     have hn:=HI5.out.appP HQ.out ho6 hk6
     rw[HLI.out]at hn⊢
     have hT:Blk w12 tb 170 #[.int .i64 n4,.int .i64 e4]:=HX.out.2.2.1.kp hk6 fun hm=>yo HI5.out.p HX.out.2.2.1 (by decide) (Option.mem_toList.1 hm)
     obtain⟨w13,hw13⟩: ∃w,w=w12.setCell ⟨mb,3,none⟩ (.slice p6 (i+1) c6):=⟨_,rfl⟩
     have hT2:Blk w13 tb 170 #[.int .i64 n4,.int .i64 e4]:=by rw[hw13];exact hT.far (hT.ne_ hn.1 (by decide)) _
     rw[←hw13]at hn
     obtain⟨n0,e0,hg0,_⟩:=hn.2.rd
     obtain⟨w14,hw14⟩: ∃w,w=za w13 g 0 [.int .i64 n4,.int .i64 e4]:=⟨_,rfl⟩
     have HI14:=hn.2.at_ HX.out.2.2.2
     rw[←hw14]at HI14
     have HI14:=hid HI14
     obtain⟨⟨b0,b1,b2,b3,b4,b5⟩,⟨g0,g1,g2,g3,g4,g5⟩,mlt⟩:=six hn.1
     have HW13:=hid (⟨hw13,hw14⟩:_∧_)
     have HG0:=hid (⟨hg0,hT2⟩:_∧_)
     clear ho6 hk6 hv6 hn hw13 hw14 hT hT2 hg0 q3
     go_upto_region 17 with fail
     rw[←HW13.out.1]
     clear b0 b1 b2 b3 b4 b5 g0 g1 g2 g3 g4 g5 mlt
     obtain⟨⟨a0,a1⟩,_,_⟩:=yS HG0.out.2
     obtain⟨⟨b0,b1⟩,⟨f0,f1⟩,flt⟩:=yS HG0.out.1
     go_wp2
     have hw14:=HW13.out.2
     unfold za za za at hw14
     rw[←hw14]
     go_roundg (48- (i+1))
     case measure=>have:=HIK.out.2;omega
     case rel=>exact⟨i+1,p6,c6,_,_,by have:=HIK.out.2;omega,by omega,by go_num,HI14,hid (by rw[List.map_append];exact HL2.out),hid (by rw[List.length_append,HLI.out];rfl)⟩
    ·have HFIN:Hid (z2=((l).map Prg.l,st)):=hid (by rw[HZ.out.2.1];exact HL.out.fin hgo)
     have hsp:((i:Int)<k2∧(e3==0)=false)∨ ¬(i:Int)<k2:=by
      by_cases h:(i:Int)<k2
      ·refine .inl ⟨h,?_⟩
       cases st with
       |none=>have h:e3≠0:=HB3.out.2;simpa using h
       |some a=>exact absurd ⟨h,rfl⟩ hgo
      ·exact .inr h
     clear hgo
     rcases hsp with⟨hs1,hs2⟩ |hs1
     all_goals
      go_wp2_with fail
      go_meet
      case rel=>
       have hz:=HFIN.out
       have hl:=HLI.out
       subst hl
       exact⟨p,c,l,hid ⟨by rw[hz],hi⟩,hid (by rw[hz];exact HI.out)⟩
  case rest=>
   obtain⟨p2,q2,z2l,HZL2,HI⟩:=hcut
   obtain⟨n,e,hb,hat⟩:=HI.out.rd
   obtain⟨⟨a0,a1⟩,⟨f0,f1⟩,flt⟩:=yS hb
   have HF:=hid (HC3.out _ _ wc hat)
   go_wp2_with fail
   (with_reducible refine HF.out.mono ?_)
   rintro r wd3 ⟨k3,n3,e3,rfl,hat3,hck,hbl⟩
   have hI2:=HI.out.below hbl
   have hb2:=hb.below hbl hb.lt
   obtain⟨w9,hwn⟩: ∃w,w=za wd3 g 0 [.int .i64 n3,.int .i64 e3]:=⟨_,rfl⟩
   have HJ:Hid (G6 W4 g mb s c3.2 sd en (.slice p1 z1l.length q1) z1l (.slice p2 z2l.length q2) z2l (.slice none 0 0) [] (.slice none 0 0) [] w9):=hid (by rw[hwn];exact hI2.at_ hat3)
   have HCK3:=hid hck
   have HWN:=hid hwn
   clear hb hat a0 a1 f0 f1 flt HF hck hbl hI2 hwn hat3 HI
   have HI:=HJ
   clear HJ
   obtain⟨⟨a0,a1⟩,⟨f0,f1⟩,flt⟩:=yS hb2
   clear hb2
   go_upto_region 19 with fail
   have hwn:=HWN.out
   unfold za za za at hwn
   rw[←hwn]
   clear hwn HWN a0 a1 f0 f1 flt
   go_upto_block 4 with fail
   go_cut [15,16,17]from 103 to 125 (fun s15 s16 s17 wc=> ∃(p:Option Addr) (c:Nat) (z3l:List LpR),Hid (((z3l).map fun q=>(q.k,q.l))=z3.1∧z3l.length≤48)∧Hid (G6 W4 g mb s z3.2 sd en (.slice p1 z1l.length q1) z1l (.slice p2 z2l.length q2) z2l (.slice p z3l.length c) z3l (.slice none 0 0) [] wc))
   case first=>
    go_wp2_with fail
    go_loopg [15] 48 (fun gg s15 wr=> ∃(i:Nat) (p:Option Addr) (c:Nat) (l:List LpR) (st:Option Nat),i≤48∧48-i≤gg∧s15= .int .i64 i∧Hid (G6 W4 g mb s st sd en (.slice p1 z1l.length q1) z1l (.slice p2 z2l.length q2) z2l (.slice p i c) l (.slice none 0 0) [] wr)∧Hid (LpS acb s c3 k3 i (((l).map fun q=>(q.k,q.l))) st)∧Hid (l.length=i))
    case atStart=>exact⟨0,none,0,[],c3.2,by omega,by omega,rfl,HI,hid (.start HCK3.out),hid rfl⟩
    case round=>
     obtain⟨i,p,c,l,st,hi,hgg,rfl,HI,HL,HLI⟩:=hrel
     obtain⟨n3,e3,hb3,hat3⟩:=HI.out.rd
     obtain⟨⟨a0,a1⟩,⟨f0,f1⟩,flt⟩:=yS hb3
     have HB3:=hid (⟨hb3,hat3⟩:_∧_)
     clear hb3 hat3
     by_cases hgo:(i:Int)<k3∧st.isSome=true
     ·obtain⟨hik,hsx⟩:=hgo
      obtain⟨a,rfl⟩:=Option.isSome_iff_exists.1 hsx
      obtain⟨hn3,he3,ha3⟩:=HB3.out.2
      subst he3
      have HIK:=hid (HL.out.lt hik)
      have HL2:=HL.out.next hik
      clear hn3 ha3 hsx
      obtain⟨x,hx⟩: ∃x,x=acb s (some a):=⟨_,rfl⟩
      rw[←hx]at HL2
      have HF:=ahQ HS.out HB3.out.2 wr
      rw[←hx]at HF
      have HF:=hid HF
      have HL2:=hid HL2
      clear hx
      go_wp2_with fail
      (with_reducible refine HF.out.mono ?_)
      rintro r w4 ⟨⟨qk,qp,qn,qc,ql⟩,n4,e4,rfl,hqx,hql,hat,hb4⟩
      dsimp only at hqx hql⊢
      obtain⟨xb,hxb⟩: ∃k,k=w4.heap.size:=⟨_,rfl⟩
      obtain⟨tb,htb⟩: ∃k,k=w4.heap.size+1:=⟨_,rfl⟩
      obtain⟨w5,hw5⟩: ∃w,w=(w4.alloc (.cells #[.int .i64 qk,.slice qp qn qc] 88)).alloc (.cells #[.int .i64 n4,.int .i64 e4] 170):=⟨_,rfl⟩
      have HW5:=hid (⟨htb,hxb,hw5⟩:_∧_∧_)
      have hB:Blk w5 tb 170 #[.int .i64 n4,.int .i64 e4]:=by
       have:=Blk.new (w4.alloc (.cells #[.int .i64 qk,.slice qp qn qc] 88)) 170 #[.int .i64 n4,.int .i64 e4]
       rw[World.size_alloc]at this
       rw[hw5,htb]
       exact this
      have hXB:Blk w5 xb 88 #[.int .i64 qk,.slice qp qn qc]:=by rw[hw5,hxb];exact(Blk.new _ _ _).alloc _
      have hbw:Below wr.heap.size wr w5:=by rw[hw5];exact(hb4.alloc hb4.size _).alloc (by have:=hb4.size;simp;omega) _
      have HI5:=hid (HI.out.below hbw)
      have HQ:Hid (atL W4.heap.size w5 ⟨qk,qp,qn,qc,ql⟩):=hid ⟨hql.1,xL (by rw[hw5];exact(hql.2.alloc _).alloc _) HI.out.kp.size⟩
      have HX:=hid (⟨trivial,hXB,hB,hat⟩:True∧_∧_∧_)
      have HQX:=hid hqx
      clear hat hb4 htb hxb hw5 hbw hB hXB hqx hql a0 a1 f0 f1 flt HF
      go_upto_region 23 with fail
      rw[←HW5.out.1,←HW5.out.2.1,←HW5.out.2.2]
      clear HW5
      obtain⟨⟨u0,u1⟩,_,_⟩:=yS HX.out.2.1
      have hm5:=HI5.out.blk
      have q4:w5.cell? ⟨mb,4,none⟩=some (.slice p i c):=hm5.cell 4
      clear hm5
      go_wp2_with (with_reducible refine yd .append rfl ?_)
      with_reducible refine ki ?_
      refine zO rfl _ _ 26 rfl lpC aMr Tryz.underlying26 rfl (by decide) (by decide) Yg aaF (⟨qk,qp,qn,qc,ql⟩:LpR) HI5.out.l (by rw[HLI.out];omega) HI5.out.kp.size rfl rfl ?_
      intro v6 w12 ho6 hk6 hv6
      obtain⟨p6,c6,rfl⟩:=zm ho6
      have hn:=HI5.out.appL HQ.out ho6 hk6
      rw[HLI.out]at hn⊢
      have hT:Blk w12 tb 170 #[.int .i64 n4,.int .i64 e4]:=HX.out.2.2.1.kp hk6 fun hm=>yo HI5.out.l HX.out.2.2.1 (by decide) (Option.mem_toList.1 hm)
      obtain⟨w13,hw13⟩: ∃w,w=w12.setCell ⟨mb,4,none⟩ (.slice p6 (i+1) c6):=⟨_,rfl⟩
      have hT2:Blk w13 tb 170 #[.int .i64 n4,.int .i64 e4]:=by rw[hw13];exact hT.far (hT.ne_ hn.1 (by decide)) _
      rw[←hw13]at hn
      obtain⟨n0,e0,hg0,_⟩:=hn.2.rd
      obtain⟨w14,hw14⟩: ∃w,w=za w13 g 0 [.int .i64 n4,.int .i64 e4]:=⟨_,rfl⟩
      have HI14:=hn.2.at_ HX.out.2.2.2
      rw[←hw14]at HI14
      have HI14:=hid HI14
      obtain⟨⟨b0,b1,b2,b3,b4,b5⟩,⟨g0,g1,g2,g3,g4,g5⟩,mlt⟩:=six hn.1
      have HW13:=hid (⟨hw13,hw14⟩:_∧_)
      have HG0:=hid (⟨hg0,hT2⟩:_∧_)
      clear ho6 hk6 hv6 hn hw13 hw14 hT hT2 hg0 q4
      go_upto_region 24 with fail
      rw[←HW13.out.1]
      clear b0 b1 b2 b3 b4 b5 g0 g1 g2 g3 g4 g5 mlt
      obtain⟨⟨a0,a1⟩,_,_⟩:=yS HG0.out.2
      obtain⟨⟨b0,b1⟩,⟨f0,f1⟩,flt⟩:=yS HG0.out.1
      go_wp2
      have hw14:=HW13.out.2
      unfold za za za at hw14
      rw[←hw14]
      go_roundg (48- (i+1))
      case measure=>have:=HIK.out.2;omega
      case rel=>exact⟨i+1,p6,c6,_,_,by have:=HIK.out.2;omega,by omega,by go_num,HI14,hid (by rw[List.map_append];have h:=HL2.out;rw[←HQX.out]at h;exact h),hid (by rw[List.length_append,HLI.out];rfl)⟩
     ·have HFIN:Hid (z3=(((l).map fun q=>(q.k,q.l)),st)):=hid (by rw[HZ.out.2.2.1];exact HL.out.fin hgo)
      have hsp:((i:Int)<k3∧(e3==0)=false)∨ ¬(i:Int)<k3:=by
       by_cases h:(i:Int)<k3
       ·refine .inl ⟨h,?_⟩
        cases st with
        |none=>have h:e3≠0:=HB3.out.2;simpa using h
        |some a=>exact absurd ⟨h,rfl⟩ hgo
       ·exact .inr h
      clear hgo
      rcases hsp with⟨hs1,hs2⟩ |hs1
      all_goals
       go_wp2_with fail
       go_meet
       case rel=>
        have hz:=HFIN.out
        have hl:=HLI.out
        subst hl
        exact⟨p,c,l,hid ⟨by rw[hz],hi⟩,hid (by rw[hz];exact HI.out)⟩
   case rest=>
    obtain⟨p3,q3,z3l,HZL3,HI⟩:=hcut
    obtain⟨n,e,hb,hat⟩:=HI.out.rd
    obtain⟨⟨a0,a1⟩,⟨f0,f1⟩,flt⟩:=yS hb
    have HF:=hid (HC4.out _ _ wc hat)
    go_wp2_with fail
    (with_reducible refine HF.out.mono ?_)
    rintro r wd4 ⟨k4,n4,e4,rfl,hat4,hck,hbl⟩
    have hI2:=HI.out.below hbl
    have hb2:=hb.below hbl hb.lt
    obtain⟨w9,hwn⟩: ∃w,w=za wd4 g 0 [.int .i64 n4,.int .i64 e4]:=⟨_,rfl⟩
    have HJ:Hid (G6 W4 g mb s c4.2 sd en (.slice p1 z1l.length q1) z1l (.slice p2 z2l.length q2) z2l (.slice p3 z3l.length q3) z3l (.slice none 0 0) [] w9):=hid (by rw[hwn];exact hI2.at_ hat4)
    have HCK4:=hid hck
    have HWN:=hid hwn
    clear hb hat a0 a1 f0 f1 flt HF hck hbl hI2 hwn hat4 HI
    have HI:=HJ
    clear HJ
    obtain⟨⟨a0,a1⟩,⟨f0,f1⟩,flt⟩:=yS hb2
    clear hb2
    go_upto_region 26 with fail
    have hwn:=HWN.out
    unfold za za za at hwn
    rw[←hwn]
    clear hwn HWN a0 a1 f0 f1 flt
    go_upto_block 6 with fail
    go_cut [18,19,20,21,22]from 132 to 169 (fun s18 s19 s20 s21 s22 wc=> ∃(p:Option Addr) (c:Nat) (z4l:List Ini),Hid (z4l=z4.1∧z4l.length≤48)∧Hid (G6 W4 g mb s z4.2 sd en (.slice p1 z1l.length q1) z1l (.slice p2 z2l.length q2) z2l (.slice p3 z3l.length q3) z3l (.slice p z4l.length c) z4l wc))
    case first=>
     go_wp2_with fail
     go_loopg [18] 48 (fun gg s18 wr=> ∃(i:Nat) (p:Option Addr) (c:Nat) (l:List Ini) (st:Option Nat),i≤48∧48-i≤gg∧s18= .int .i64 i∧Hid (G6 W4 g mb s st sd en (.slice p1 z1l.length q1) z1l (.slice p2 z2l.length q2) z2l (.slice p3 z3l.length q3) z3l (.slice p i c) l wr)∧Hid (LpS YO s c4 k4 i (l) st)∧Hid (l.length=i))
     case atStart=>exact⟨0,none,0,[],c4.2,by omega,by omega,rfl,HI,hid (.start HCK4.out),hid rfl⟩
     case round=>
      obtain⟨i,p,c,l,st,hi,hgg,rfl,HI,HL,HLI⟩:=hrel
      obtain⟨n3,e3,hb3,hat3⟩:=HI.out.rd
      obtain⟨⟨a0,a1⟩,⟨f0,f1⟩,flt⟩:=yS hb3
      have HB3:=hid (⟨hb3,hat3⟩:_∧_)
      clear hb3 hat3
      by_cases hgo:(i:Int)<k4∧st.isSome=true
      ·obtain⟨hik,hsx⟩:=hgo
       obtain⟨a,rfl⟩:=Option.isSome_iff_exists.1 hsx
       obtain⟨hn3,he3,ha3⟩:=HB3.out.2
       subst he3
       have HIK:=hid (HL.out.lt hik)
       have HL2:=HL.out.next hik
       clear hn3 ha3 hsx
       obtain⟨y1,hy1⟩: ∃x,x=rdF s (some a):=⟨_,rfl⟩
       obtain⟨y2,hy2⟩: ∃x,x=rdI s y1.2:=⟨_,rfl⟩
       obtain⟨y3,hy3⟩: ∃x,x=rdI s y2.2:=⟨_,rfl⟩
       have HXX:Hid (YO s (some a)=(⟨y1.1,y2.1,y3.1⟩,y3.2)):=hid (by rw[hy3,hy2,hy1];rfl)
       have HF:=jv HS.out HB3.out.2 wr
       rw[←hy1]at HF
       have HF:=hid HF
       rw[HXX.out]at HL2
       have HL2:=hid HL2
       have HF2:Hid (∀n e w,AtR s y1.2 n e→Calls Tryz.prog 101 #[.string (S s),.agg #[.int .i64 n,.int .i64 e]] w (AtP w s (fun x:Int=> .int .i64 x) y2)):=hid fun n e w h=>by rw[hy2];exact ye HS.out h w
       have HF3:Hid (∀n e w,AtR s y2.2 n e→Calls Tryz.prog 101 #[.string (S s),.agg #[.int .i64 n,.int .i64 e]] w (AtP w s (fun x:Int=> .int .i64 x) y3)):=hid fun n e w h=>by rw[hy3];exact ye HS.out h w
       clear hy1 hy2 hy3 HXX
       go_wp2_with fail
       (with_reducible refine HF.out.mono ?_)
       rintro r w4 ⟨n4,e4,rfl,hat,hb4⟩
       obtain⟨tb,htb⟩: ∃k,k=w4.heap.size:=⟨_,rfl⟩
       obtain⟨w5,hw5⟩: ∃w,w=w4.alloc (.cells #[.int .i64 n4,.int .i64 e4] 170):=⟨_,rfl⟩
       have HW5:=hid (⟨htb,hw5⟩:_∧_)
       have hB:Blk w5 tb 170 #[.int .i64 n4,.int .i64 e4]:=by rw[hw5,htb];exact Blk.new _ _ _
       have hbw:Below wr.heap.size wr w5:=by rw[hw5];exact hb4.alloc hb4.size _
       have HX:=hid (⟨hbw,(by rw[htb];exact hb4.size:wr.heap.size≤tb),hB,hat⟩:_∧_∧_∧_)
       clear hat hb4 htb hw5 hbw a0 a1 f0 f1 flt HF
       go_upto_region 30 with fail
       rw[←HW5.out.1,←HW5.out.2]
       obtain⟨⟨a0,a1⟩,⟨f0,f1⟩,flt⟩:=yS hB
       clear hB HW5
       have HF:=hid (HF2.out _ _ w5 HX.out.2.2.2)
       go_wp2_with fail
       (with_reducible refine HF.out.mono ?_)
       rintro r w6 ⟨n5,e5,rfl,hat,hb4⟩
       have hB6:=HX.out.2.2.1.below hb4 HX.out.2.2.1.lt
       obtain⟨w7,hw7⟩: ∃w,w=za w6 tb 0 [.int .i64 n5,.int .i64 e5]:=⟨_,rfl⟩
       have hB:Blk w7 tb 170 #[.int .i64 n5,.int .i64 e5]:=by rw[hw7];exact(hB6.set_ 0 _).set_ 1 _
       have HY:Hid (Below wr.heap.size wr w7∧wr.heap.size≤tb∧Blk w7 tb 170 #[.int .i64 n5,.int .i64 e5]∧AtR s y2.2 n5 e5):=hid ⟨(HX.out.1.trans (hb4.mono HX.out.1.size)).trans (by rw[hw7];exact(zU (O:=[tb]) (.inl (by simp)) _ _ 0 (Kp.refl _ _)).to_below (Nat.le_trans HX.out.1.size hb4.size) fun x hx=>by have:=HX.out.2.1;simp at hx;omega),HX.out.2.1,hB,hat⟩
       have HW7:=hid hw7
       clear hat hb4 hw7 a0 a1 f0 f1 flt HF hB HX
       have HX:=HY
       clear HY
       obtain⟨⟨a0,a1⟩,⟨f0,f1⟩,flt⟩:=yS hB6
       go_upto_region 31 with fail
       have hw7:=HW7.out
       unfold za za za at hw7
       rw[←hw7]
       clear hw7 HW7 hB6 a0 a1 f0 f1 flt
       obtain⟨⟨a0,a1⟩,⟨f0,f1⟩,flt⟩:=yS HX.out.2.2.1
       have HF:=hid (HF3.out _ _ w7 HX.out.2.2.2)
       go_wp2_with fail
       (with_reducible refine HF.out.mono ?_)
       rintro r w8 ⟨n6,e6,rfl,hat,hb4⟩
       have hB6:=HX.out.2.2.1.below hb4 HX.out.2.2.1.lt
       obtain⟨w9,hw7⟩: ∃w,w=za w8 tb 0 [.int .i64 n6,.int .i64 e6]:=⟨_,rfl⟩
       have hB:Blk w9 tb 170 #[.int .i64 n6,.int .i64 e6]:=by rw[hw7];exact(hB6.set_ 0 _).set_ 1 _
       have HY:Hid (Below wr.heap.size wr w9∧wr.heap.size≤tb∧Blk w9 tb 170 #[.int .i64 n6,.int .i64 e6]∧AtR s y3.2 n6 e6):=hid ⟨(HX.out.1.trans (hb4.mono HX.out.1.size)).trans (by rw[hw7];exact(zU (O:=[tb]) (.inl (by simp)) _ _ 0 (Kp.refl _ _)).to_below (Nat.le_trans HX.out.1.size hb4.size) fun x hx=>by have:=HX.out.2.1;simp at hx;omega),HX.out.2.1,hB,hat⟩
       have HW7:=hid hw7
       clear hat hb4 hw7 a0 a1 f0 f1 flt HF hB HX
       have HX:=HY
       clear HY
       obtain⟨⟨a0,a1⟩,⟨f0,f1⟩,flt⟩:=yS hB6
       go_upto_region 32 with fail
       have hw7:=HW7.out
       unfold za za za at hw7
       rw[←hw7]
       clear hw7 HW7 hB6 a0 a1 f0 f1 flt
       obtain⟨⟨a0,a1⟩,⟨f0,f1⟩,flt⟩:=yS HX.out.2.2.1
       have HI5:=hid (HI.out.below HX.out.1)
       have hm5:=HI5.out.blk
       have q5:w9.cell? ⟨mb,5,none⟩=some (.slice p i c):=hm5.cell 5
       clear hm5
       go_wp2_with (with_reducible refine yd .append rfl ?_)
       with_reducible refine ki ?_
       refine zO rfl _ _ 27 rfl aay aBc Tryz.underlying27 rfl (by decide) (by decide) vL Jr (⟨y1.1,y2.1,y3.1⟩:Ini) HI5.out.i (by rw[HLI.out];omega) HI5.out.kp.size rfl rfl ?_
       intro v6 w12 ho6 hk6 hv6
       obtain⟨p6,c6,rfl⟩:=zm ho6
       have hn:=HI5.out.appI ho6 hk6
       rw[HLI.out]at hn⊢
       have hT:Blk w12 tb 170 #[.int .i64 n6,.int .i64 e6]:=HX.out.2.2.1.kp hk6 fun hm=>yo HI5.out.i HX.out.2.2.1 (by decide) (Option.mem_toList.1 hm)
       obtain⟨w13,hw13⟩: ∃w,w=w12.setCell ⟨mb,5,none⟩ (.slice p6 (i+1) c6):=⟨_,rfl⟩
       have hT2:Blk w13 tb 170 #[.int .i64 n6,.int .i64 e6]:=by rw[hw13];exact hT.far (hT.ne_ hn.1 (by decide)) _
       rw[←hw13]at hn
       obtain⟨n0,e0,hg0,_⟩:=hn.2.rd
       obtain⟨w14,hw14⟩: ∃w,w=za w13 g 0 [.int .i64 n6,.int .i64 e6]:=⟨_,rfl⟩
       have HI14:=hn.2.at_ HX.out.2.2.2
       rw[←hw14]at HI14
       have HI14:=hid HI14
       obtain⟨⟨b0,b1,b2,b3,b4,b5⟩,⟨g0,g1,g2,g3,g4,g5⟩,mlt⟩:=six hn.1
       have HW13:=hid (⟨hw13,hw14⟩:_∧_)
       have HG0:=hid (⟨hg0,hT2⟩:_∧_)
       clear ho6 hk6 hv6 hn hw13 hw14 hT hT2 hg0 q5
       go_upto_region 33 with fail
       rw[←HW13.out.1]
       clear b0 b1 b2 b3 b4 b5 g0 g1 g2 g3 g4 g5 mlt
       obtain⟨⟨a0,a1⟩,_,_⟩:=yS HG0.out.2
       obtain⟨⟨b0,b1⟩,⟨f0,f1⟩,flt⟩:=yS HG0.out.1
       go_wp2
       have hw14:=HW13.out.2
       unfold za za za at hw14
       rw[←hw14]
       go_roundg (48- (i+1))
       case measure=>have:=HIK.out.2;omega
       case rel=>exact⟨i+1,p6,c6,_,_,by have:=HIK.out.2;omega,by omega,by go_num,HI14,HL2,hid (by rw[List.length_append,HLI.out];rfl)⟩
      ·have HFIN:Hid (z4=(l,st)):=hid (by rw[HZ.out.2.2.2];exact HL.out.fin hgo)
       have hsp:((i:Int)<k4∧(e3==0)=false)∨ ¬(i:Int)<k4:=by
        by_cases h:(i:Int)<k4
        ·refine .inl ⟨h,?_⟩
         cases st with
         |none=>have h:e3≠0:=HB3.out.2;simpa using h
         |some a=>exact absurd ⟨h,rfl⟩ hgo
        ·exact .inr h
       clear hgo
       rcases hsp with⟨hs1,hs2⟩ |hs1
       all_goals
        go_wp2_with fail
        go_meet
        case rel=>
         have hz:=HFIN.out
         have hl:=HLI.out
         subst hl
         exact⟨p,c,l,hid ⟨by rw[hz],hi⟩,hid (by rw[hz];exact HI.out)⟩
    case rest=>
     obtain⟨p4,q4,z4l,HZL4,HI⟩:=hcut
     obtain⟨y,hy⟩: ∃y:MdV,y=⟨sd,en,p1,z1l.length,q1,z1l,p2,z2l.length,q2,z2l,p3,z3l.length,q3,z3l,p4,z4l.length,q4,z4l⟩:=⟨_,rfl⟩
     have HYE:=hid hy
     have HY:Hid (y.m=(rdM s (some 0)).1):=hid (by rw[HM.out,hy,←HZL1.out.1,←HZL2.out.1,←HZL3.out.1,←HZL4.out.1];rfl)
     have HST:Hid ((rdM s (some 0)).2=z4.2):=hid (by rw[HM.out])
     have HRZ:Hid (Blk wc r0 29 #[.int .i64 0,.float .f64 0,.slice none 0 0,.slice none 0 0,.slice none 0 0,.slice none 0 0]):=hid (H4.out.2.1.kp HI.out.kp (by have:=H4.out.2.2.2;simp;omega))
     have HBW:Hid (∀i l,Below W.heap.size W (za wc r0 i l)):=hid fun i l=>xA H4.out.1 HI.out.kp H4.out.2.2.1 (by rw[HR0.out.2.2];exact Nat.le_refl _)
     obtain⟨n,e,hb,hr⟩:=HI.out.rd
     obtain⟨⟨c0,c1⟩,_,_⟩:=yS hb
     obtain⟨⟨d0,d1,d2,d3,d4,d5⟩,⟨y0,y1,y2,y3,y4,y5⟩,zlt⟩:=six HRZ.out
     clear hy
     obtain⟨st4,hst4⟩: ∃x,x=z4.2:=⟨_,rfl⟩
     rw[←hst4]at hr HST
     clear hst4
     cases st4 with
     | none=>
      have hgm:jE s=none:=by
       unfold jE
       rw[if_neg (by rw[HST.out];simp)]
      have hne:(e != 0)=true:=by have h:e≠0:=hr;simpa using h
      have HE:Hid (e≠0):=hid hr
      obtain⟨wz,hwz⟩: ∃wz,wz=za wc r0 0 [.int .i64 0,.float .f64 0,.slice none 0 0,.slice none 0 0,.slice none 0 0,.slice none 0 0]:=⟨_,rfl⟩
      have hbz:Blk wz r0 29 #[.int .i64 0,.float .f64 0,.slice none 0 0,.slice none 0 0,.slice none 0 0,.slice none 0 0]:=by rw[hwz];exact(((((HRZ.out.set_ 0 _).set_ 1 _).set_ 2 _).set_ 3 _).set_ 4 _).set_ 5 _
      have HF:Hid (MdF W.heap.size wz mdZ∧Below W.heap.size W wz∧abe (jE s) mdZ.m e):=hid (by
       rw[hwz]
       exact⟨fun w2 _=>qS w2,HBW.out _ _,by rw[hgm];exact HE.out⟩)
      unfold za za za za za za za at hwz
      have HWZ:=hid hwz
      have HBZ:=hid hbz
      clear hwz hbz
      have HE1:Hid (wz.cell? ⟨g,1,none⟩=some (.int .i64 e)):=hid (by
       have h:=(yB r0 [.int .i64 0,.float .f64 0,.slice none 0 0,.slice none 0 0,.slice none 0 0,.slice none 0 0] wc 0 g H4.out.2.2.2).trans hb
       unfold za za za za za za za at h
       rw[←HWZ.out]at h
       exact Blk.cell h 1)
      clear hgm hr hb
      go_upto_region 35 with fail
      refine zB (fun W'=>W'.cell? ⟨g,1,none⟩=some (.int .i64 e)) 4 (by kernel_rfl) c1 (fun hHeld=>?_)
      refine eT 0 hHeld ?_;(try simp only[Act.put,sEa,sEb,sEc]);refine eT 1 hHeld ?_;(try simp only[Act.put,sEa,sEb,sEc]);refine eT 2 hHeld ?_;(try simp only[Act.put,sEa,sEb,sEc])
      refine eR 3 (fun K hK=>?_)
      go_simp
      rw[←HWZ.out]
      refine hK.out _ _ HE1.out (fun hHeld=>?_)
      clear hK K
      (try simp only[Act.put,sEa,sEb,sEc])
      refine eL (fun K hK=>?_);go_simp;refine hK.out _ _ ?_;clear hK K;(try simp only[Act.put,sEa,sEb,sEc])
      go_wp2
      have hbz:=HBZ.out
      obtain⟨⟨v0,v1,v2,v3,v4,v5⟩,_,_⟩:=six hbz
      refine bodyPost_ret (v:= .tuple #[.agg #[.int .i64 0,.float .f64 0,.slice none 0 0,.slice none 0 0,.slice none 0 0,.slice none 0 0],.int .i64 e]) (by simp[results,Tryz.results54,go_sem,v0,v1,v2,v3,v4,v5]) rfl ⟨mdZ,e,rfl,HF.out.1,HF.out.2.1.drew,HF.out.2.2⟩
     | some k=>
      obtain⟨rfl,rfl,hk⟩:=hr
      by_cases hkl:k<s.length
      ·have hgm:jE s=none:=by
        unfold jE
        rw[if_neg (by rw[HST.out];simp;omega)]
       have hki:(k:Int)<(s.length:Int):=by omega
       obtain⟨wz,hwz⟩: ∃wz,wz=za wc r0 0 [.int .i64 0,.float .f64 0,.slice none 0 0,.slice none 0 0,.slice none 0 0,.slice none 0 0]:=⟨_,rfl⟩
       have hbz:Blk wz r0 29 #[.int .i64 0,.float .f64 0,.slice none 0 0,.slice none 0 0,.slice none 0 0,.slice none 0 0]:=by rw[hwz];exact(((((HRZ.out.set_ 0 _).set_ 1 _).set_ 2 _).set_ 3 _).set_ 4 _).set_ 5 _
       have HF:Hid (MdF W.heap.size wz mdZ∧Below W.heap.size W wz∧abe (jE s) mdZ.m 6):=hid (by
        rw[hwz]
        exact⟨fun w2 _=>qS w2,HBW.out _ _,by rw[hgm];exact show(6:Int)≠0 by decide⟩)
       unfold za za za za za za za at hwz
       have HWZ:=hid hwz
       have HBZ:=hid hbz
       clear hwz hbz
       clear hb hk hgm hkl
       go_wp2
       rw[←HWZ.out]
       have hbz:=HBZ.out
       obtain⟨⟨v0,v1,v2,v3,v4,v5⟩,_,_⟩:=six hbz
       refine bodyPost_ret (v:= .tuple #[.agg #[.int .i64 0,.float .f64 0,.slice none 0 0,.slice none 0 0,.slice none 0 0,.slice none 0 0],.int .i64 6]) (by simp[results,Tryz.results54,go_sem,v0,v1,v2,v3,v4,v5]) rfl ⟨mdZ,6,rfl,HF.out⟩
      ·have hki: ¬(k:Int)<(s.length:Int):=by omega
       have hkl2:some k=some s.length:=by congr 1;omega
       have hmd:qZ wc y:=by rw[HYE.out];exact HI.out.md2 rfl rfl rfl rfl HRZ.out (fun _ _ _ _=>rfl)
       have HCK:=hid (V3 hmd (by rw[HYE.out];exact Nat.le_trans HZL1.out.2 (by decide)) (by rw[HYE.out];exact Nat.le_trans HZL2.out.2 (by decide)) (by rw[HYE.out];exact Nat.le_trans HZL3.out.2 (by decide)) (by rw[HYE.out];exact Nat.le_trans HZL4.out.2 (by decide)) (fun q hq=>by
        rw[HYE.out]at hq
        have h1:=HI.out.pi q hq
        have h2:q.l∈z2l.map Prg.l:=List.mem_map.2 ⟨q,hq,rfl⟩
        rw[HZL2.out.1,HZ.out.2.1]at h2
        have h3:=aM2 (ahH xR) _ _ _ q.l h2
        have:=h1.1
        omega))
       rw[show(mdC y).toArray= #[.int .i64 sd,.float .f64 en,.slice p1 z1l.length q1,.slice p2 z2l.length q2,.slice p3 z3l.length q3,.slice p4 z4l.length q4]by rw[HYE.out];rfl]at HCK
       obtain⟨⟨a0,a1,a2,a3,a4,a5⟩,_,_⟩:=six HI.out.blk
       have HGR:Hid (abe (jE s) y.m (if yM y.m=true then 0 else 15)∧(yM y.m=false→abe (jE s) mdZ.m 15)):=hid (by
        unfold jE
        rw[HY.out,HST.out,hkl2]
        cases hc:yM (rdM s (some 0)).1 with
        |true=>simp only[and_self,if_true];exact⟨⟨rfl,rfl⟩,fun h=>by cases h⟩
        |false=>simp only[Bool.false_eq_true,and_false,if_false];exact⟨show(15:Int)≠0 by decide,fun _=>show(15:Int)≠0 by decide⟩)
       clear hb hk hkl hkl2 hmd d0 d1 d2 d3 d4 d5 y0 y1 y2 y3 y4 y5 zlt
       go_wp2_with fail
       (with_reducible refine HCK.out.mono ?_)
       rintro r w9 ⟨rfl,hb9⟩
       have HI:=hid (HI.out.below hb9)
       have HRZ:Hid (Blk w9 r0 29 #[.int .i64 0,.float .f64 0,.slice none 0 0,.slice none 0 0,.slice none 0 0,.slice none 0 0]):=hid (HRZ.out.below hb9 HRZ.out.lt)
       have HBW:Hid (∀i l,Below W.heap.size W (za w9 r0 i l)):=hid fun i l=>xA H4.out.1 HI.out.kp H4.out.2.2.1 (by rw[HR0.out.2.2];exact Nat.le_refl _)
       clear c0 c1 a0 a1 a2 a3 a4 a5 hb9 HCK
       obtain⟨⟨a0,a1,a2,a3,a4,a5⟩,_,_⟩:=six HI.out.blk
       obtain⟨⟨d0,d1,d2,d3,d4,d5⟩,⟨y0,y1,y2,y3,y4,y5⟩,zlt⟩:=six HRZ.out
       cases hc:yM y.m with
       | false=>
        obtain⟨wz,hwz⟩: ∃wz,wz=za w9 r0 0 [.int .i64 0,.float .f64 0,.slice none 0 0,.slice none 0 0,.slice none 0 0,.slice none 0 0]:=⟨_,rfl⟩
        have hbz:Blk wz r0 29 #[.int .i64 0,.float .f64 0,.slice none 0 0,.slice none 0 0,.slice none 0 0,.slice none 0 0]:=by rw[hwz];exact(((((HRZ.out.set_ 0 _).set_ 1 _).set_ 2 _).set_ 3 _).set_ 4 _).set_ 5 _
        have HF:Hid (MdF W.heap.size wz mdZ∧Below W.heap.size W wz∧abe (jE s) mdZ.m 15):=hid (by
         rw[hwz]
         exact⟨fun w2 _=>qS w2,HBW.out _ _,HGR.out.2 hc⟩)
        unfold za za za za za za za at hwz
        have HWZ:=hid hwz
        have HBZ:=hid hbz
        clear hwz hbz
        clear hc
        simp only[Bool.false_eq_true,if_false]
        go_wp2
        rw[←HWZ.out]
        have hbz:=HBZ.out
        obtain⟨⟨v0,v1,v2,v3,v4,v5⟩,_,_⟩:=six hbz
        refine bodyPost_ret (v:= .tuple #[.agg #[.int .i64 0,.float .f64 0,.slice none 0 0,.slice none 0 0,.slice none 0 0,.slice none 0 0],.int .i64 15]) (by simp[results,Tryz.results54,go_sem,v0,v1,v2,v3,v4,v5]) rfl ⟨mdZ,15,rfl,HF.out⟩
       | true=>
        obtain⟨wz,hwz⟩: ∃wz,wz=za w9 r0 0 [.int .i64 sd,.float .f64 en,.slice p1 z1l.length q1,.slice p2 z2l.length q2,.slice p3 z3l.length q3,.slice p4 z4l.length q4]:=⟨_,rfl⟩
        have hbz:Blk wz r0 29 #[.int .i64 sd,.float .f64 en,.slice p1 z1l.length q1,.slice p2 z2l.length q2,.slice p3 z3l.length q3,.slice p4 z4l.length q4]:=by rw[hwz];exact(((((HRZ.out.set_ 0 _).set_ 1 _).set_ 2 _).set_ 3 _).set_ 4 _).set_ 5 _
        have HF:Hid (MdF W.heap.size wz y∧Below W.heap.size W wz∧abe (jE s) y.m 0):=hid (by
         refine⟨fun w2 he=>by rw[HYE.out];exact HI.out.md2 rfl rfl rfl rfl HRZ.out (fun b hlo hlt hbn=>(he b (Nat.le_trans H4.out.1.size hlo) (by rw[hwz,xO];exact hlt)).trans (by rw[hwz];exact yB _ _ _ _ _ hbn)),by rw[hwz];exact HBW.out _ _,by have:=HGR.out.1;rw[hc]at this;exact this⟩)
        unfold za za za za za za za at hwz
        have HWZ:=hid hwz
        have HBZ:=hid hbz
        clear hwz hbz
        clear hc
        simp only[if_true]
        go_wp2
        rw[←HWZ.out]
        have hbz:=HBZ.out
        obtain⟨⟨v0,v1,v2,v3,v4,v5⟩,_,_⟩:=six hbz
        refine bodyPost_ret (v:= .tuple #[.agg #[.int .i64 sd,.float .f64 en,.slice p1 z1l.length q1,.slice p2 z2l.length q2,.slice p3 z3l.length q3,.slice p4 z4l.length q4],.int .i64 0]) (by simp[results,Tryz.results54,go_sem,v0,v1,v2,v3,v4,v5]) rfl ⟨y,0,by rw[HYE.out];rfl,HF.out⟩
end
end Go.Proofs.YtcdiljebkpikbaaGreat
