/- Parts of the proof: Sek Sel Eg Ex. -/
import Derived.Test.YtcdiljebkpikbaaGreatS31
import Derived.Test.YtcdiljebkpikbaaGreatS41
import Derived.Test.YtcdiljebkpikbaaGreatS43
set_option linter.all false
set_option maxRecDepth 100000
set_option maxHeartbeats 64000000
namespace Go.Proofs.YtcdiljebkpikbaaGreat
section
open Go.RowKit Go.Lib
theorem aBe:(Tryz.prog.info? 3).map (fun i=>(i.zero,i.size,i.bytes))=some (some (.int .i64 0),1,8):=by kernel_rfl
structure LqI (W1:World) (cb xb:Nat) (s:Bs) (st:Option Nat) (k:Int) (v:Value) (l:List Int) (w:World):Prop where
 bw:Kp [cb] W1 w
 rd:RdA w cb s st
 bx:Blk w xb 88 #[.int .i64 k,v]
 lo:W1.heap.size≤xb
 row:w.ownsRow W1.heap.size 3 1 v l.length (yv wdC l)
theorem LqI.next {W1 wr w11 w12:World} {cb xb:Nat} {s:Bs} {sx st':Option Nat} {k:Int} {v v':Value} {l:List Int} {x:Int} (h:LqI W1 cb xb s sx k v l wr) (hb:Below wr.heap.size wr w11) (ho:w12.ownsRow W1.heap.size 3 1 v' (l.length+1) (yv wdC (l++[x]))) (hk:Kp v.ownBlock.toList w11 w12) {n e n3 e3:Int} (hc:Blk wr cb 170 #[.int .i64 n3,.int .i64 e3]) (hat:AtR s st' n e):
  (Blk w12 cb 170 #[.int .i64 n3,.int .i64 e3]∧Blk w12 xb 88 #[.int .i64 k,v])∧LqI W1 cb xb s st' k v' (l++[x]) (za (w12.setCell ⟨xb,1,none⟩ v') cb 0 [.int .i64 n,.int .i64 e])∧Blk (w12.setCell ⟨xb,1,none⟩ v') cb 170 #[.int .i64 n3,.int .i64 e3]:=by
 have h11:w11.ownsRow W1.heap.size 3 1 v l.length (yv wdC l):=xN h.row fun b e=>hb.block b (h.row.lt b e).2
 have hc11:=hc.below hb hc.lt
 have hx11:=h.bx.below hb h.bx.lt
 have hc12:=hc11.kp hk fun hm=>yo h11 hc11 (by decide) (Option.mem_toList.1 hm)
 have hx12:=hx11.kp hk fun hm=>yo h11 hx11 (by decide) (Option.mem_toList.1 hm)
 have hk12:Kp [cb] W1 w12:=(h.bw.trans (Kp.of_below hb)).trans_gr (fun x hx=> .inr (h.row.lt x (Option.mem_toList.1 hx)).1) hk
 have hne:cb≠xb:=hc12.ne_ hx12 (by decide)
 have hc13:=hc12.far (p:=⟨xb,1,none⟩) hne v'
 have hx13:Blk (w12.setCell ⟨xb,1,none⟩ v') xb 88 #[.int .i64 k,v']:=hx12.set_ 1 v'
 refine⟨⟨hc12,hx12⟩,⟨zU (.inl (by simp)) _ _ _ (hk12.setCell (.inr h.lo) _),⟨n,e,(hc13.set_ 0 _).set_ 1 _,hat⟩,(hx13.far (Ne.symm hne) _).far (Ne.symm hne) _,h.lo,?_⟩,hc13⟩
 rw[List.length_append]
 exact zs (zs (zs ho hx12 (by decide)) hc13 (by decide)) (hc13.set_ 0 _) (by decide)
def aNK (W:World) (s:Bs) (x:(Int×List Int)×Option Nat) (r:Ending) (w':World):Prop:= ∃(q:LpR) (n e:Int),r= .returned (.tuple #[.agg #[.int .i64 q.k,.slice q.p q.n q.c],.agg #[.int .i64 n,.int .i64 e]])∧(q.k,q.l)=x.1∧atL W.heap.size w' q∧AtR s x.2 n e∧Below W.heap.size W w'
theorem ahQ {s:Bs} (hs:s.length≤1000000) {st:Option Nat} {n e:Int} (h:AtR s st n e) (W:World):Calls Tryz.prog 105 #[.string (S s),.agg #[.int .i64 n,.int .i64 e]] W (aNK W s (acb s st)):=by
 have HF0:=hid (ye hs h)
 obtain⟨x0,hx0⟩: ∃y,y=rdI s st:=⟨_,rfl⟩
 obtain⟨y,hy⟩: ∃y,y=rdC s x0.2:=⟨_,rfl⟩
 obtain⟨z,hz⟩: ∃z,z=rdL rdI s x0.2:=⟨_,rfl⟩
 have HZZ:Hid (acb s st=((x0.1,z.1),z.2)):=hid (by rw[hz,hx0];rfl)
 have HZ:Hid (z=rdN rdI y.1.toNat s y.2):=hid (by rw[hz,hy];rfl)
 have HFC:Hid (∀n e w,AtR s x0.2 n e→Calls Tryz.prog 103 #[.string (S s),.agg #[.int .i64 n,.int .i64 e]] w fun r w'=> ∃k n e:Int,r= .returned (.tuple #[.int .i64 k,.agg #[.int .i64 n,.int .i64 e]])∧AtR s y.2 n e∧(y.2.isSome=true→k=y.1∧0≤k∧k≤48)∧Below w.heap.size w w'):=hid fun n e w h=>by rw[hy];exact yI hs h w
 rw[HZZ.out]
 rw[←hx0]at HF0
 have HS:=hid hs
 clear h hx0 hy hz hs HZZ
 obtain⟨cb,hcb⟩: ∃k,k=W.heap.size:=⟨_,rfl⟩
 obtain⟨rl,hrl⟩: ∃k,k=W.heap.size+1:=⟨_,rfl⟩
 obtain⟨r0,hr0⟩: ∃k,k=W.heap.size+1+1:=⟨_,rfl⟩
 obtain⟨W1,hW1⟩: ∃w1,w1=((W.alloc (.cells #[.int .i64 n,.int .i64 e] 170)).alloc (.cells #[.int .i64 0,.slice none 0 0] 88)).alloc (.cells #[.int .i64 0,.int .i64 0] 170):=⟨_,rfl⟩
 have hb1:Blk W1 cb 170 #[.int .i64 n,.int .i64 e]:=by rw[hW1,hcb];exact((Blk.new W _ _).alloc _).alloc _
 have hb3:Blk W1 rl 88 #[.int .i64 0,.slice none 0 0]:=by
  have:=Blk.new (W.alloc (.cells #[.int .i64 n,.int .i64 e] 170)) 88 #[.int .i64 0,.slice none 0 0]
  rw[World.size_alloc]at this
  rw[hW1,hrl]
  exact this.alloc _
 have hb2:Blk W1 r0 170 #[.int .i64 0,.int .i64 0]:=by
  have:=Blk.new ((W.alloc (.cells #[.int .i64 n,.int .i64 e] 170)).alloc (.cells #[.int .i64 0,.slice none 0 0] 88)) 170 #[.int .i64 0,.int .i64 0]
  rw[World.size_alloc,World.size_alloc]at this
  rw[hW1,hr0]
  exact this
 have HB1:Hid (Below W.heap.size W W1∧Blk W1 r0 170 #[.int .i64 0,.int .i64 0]∧W.heap.size≤r0∧W.heap.size≤cb∧cb≠r0∧W.heap.size≤W1.heap.size∧Blk W1 rl 88 #[.int .i64 0,.slice none 0 0]∧W.heap.size≤rl∧rl≠cb):=hid ⟨by rw[hW1];exact(((Below.refl _ W).alloc (Nat.le_refl _) _).alloc (by simp) _).alloc (by simp;omega) _,hb2,by omega,by omega,by omega,by rw[hW1];simp;omega,hb3,by omega,by omega⟩
 have HW:=hid (⟨hcb,hrl,hr0,hW1⟩:_∧_∧_∧_)
 obtain⟨⟨a0,a1⟩,⟨f0,f1⟩,flt⟩:=yS hb1
 have HBC:=hid hb1
 clear hb1 hb2 hb3 hcb hrl hr0 hW1
 go_enter Tryz.func105,Tryz.ntmps105
 go_upto_region 1 with fail
 rw[←HW.out.2.2.1,←HW.out.2.1,←HW.out.1,←HW.out.2.2.2]
 go_wp2_with fail
 (with_reducible refine(HF0.out _).mono ?_)
 rintro r w2 ⟨n2,e2,rfl,hat,hbl⟩
 have hb2:=HBC.out.below hbl HBC.out.lt
 obtain⟨w3,hw3⟩: ∃w,w=za w2 cb 0 [.int .i64 n2,.int .i64 e2]:=⟨_,rfl⟩
 have hb3:Blk w3 cb 170 #[.int .i64 n2,.int .i64 e2]:=by rw[hw3];exact(hb2.set_ 0 _).set_ 1 _
 have HI3:Hid (Kp [cb] W1 w3∧Blk w3 cb 170 #[.int .i64 n2,.int .i64 e2]∧AtR s x0.2 n2 e2):=hid ⟨by rw[hw3];exact zU (.inl (by simp)) _ _ _ (.of_below hbl),hb3,hat⟩
 have HW3:=hid hw3
 clear a0 a1 f0 f1 flt hat hbl hb3 HF0 hw3
 obtain⟨⟨a0,a1⟩,⟨f0,f1⟩,flt⟩:=yS hb2
 clear hb2
 go_upto_region 2 with fail
 have hw3:=HW3.out
 unfold za za za at hw3
 rw[←hw3]
 clear hw3 HW3 a0 a1 f0 f1 flt
 obtain⟨⟨a0,a1⟩,⟨f0,f1⟩,flt⟩:=yS HI3.out.2.1
 have HF:=hid (HFC.out _ _ w3 HI3.out.2.2)
 go_wp2_with fail
 (with_reducible refine HF.out.mono ?_)
 rintro r w4 ⟨k,n4,e4,rfl,hat,hck,hbl⟩
 have HCK:=hid hck
 have hb4:=HI3.out.2.1.below hbl HI3.out.2.1.lt
 obtain⟨w5,hw5⟩: ∃w,w=za w4 cb 0 [.int .i64 n4,.int .i64 e4]:=⟨_,rfl⟩
 have hb5:Blk w5 cb 170 #[.int .i64 n4,.int .i64 e4]:=by rw[hw5];exact(hb4.set_ 0 _).set_ 1 _
 have HI5:Hid (Kp [cb] W1 w5∧Blk w5 cb 170 #[.int .i64 n4,.int .i64 e4]∧AtR s y.2 n4 e4):=hid ⟨by rw[hw5];exact zU (.inl (by simp)) _ _ _ (HI3.out.1.trans (.of_below hbl)),hb5,hat⟩
 have HW5:=hid hw5
 clear a0 a1 f0 f1 flt hat hbl hb5 HF hw5 hck
 obtain⟨⟨a0,a1⟩,⟨f0,f1⟩,flt⟩:=yS hb4
 clear hb4
 go_upto_region 3 with fail
 have hw5:=HW5.out
 unfold za za za at hw5
 rw[←hw5]
 clear hw5 HW5 a0 a1 f0 f1 flt
 obtain⟨pk,hpk⟩: ∃k,k=x0.1:=⟨_,rfl⟩
 rw[←hpk]
 have HPK:=hid hpk
 obtain⟨xb,hxb⟩: ∃k,k=w5.heap.size:=⟨_,rfl⟩
 obtain⟨w6,hw6⟩: ∃w,w=w5.alloc (.cells #[.int .i64 pk,.slice none 0 0] 88):=⟨_,rfl⟩
 have HI:Hid (LqI W1 cb xb s y.2 pk (.slice none 0 0) [] w6):=hid (by
  rw[hw6]
  exact⟨HI5.out.1.alloc _,⟨n4,e4,HI5.out.2.1.alloc _,HI5.out.2.2⟩,by rw[hxb];exact Blk.new _ _ _,by rw[hxb];exact HI5.out.1.size,yO _ _ _ _⟩)
 have HW6:=hid (⟨hxb,hw6⟩:_∧_)
 clear hpk hxb hw6
 go_wp2
 rw[←HW6.out.1,←HW6.out.2]
 go_loopg [9] 48 (fun gg s9 wr=> ∃(i:Nat) (p:Option Addr) (c:Nat) (l:List Int) (sx:Option Nat),i≤48∧48-i≤gg∧s9= .int .i64 i∧Hid (LqI W1 cb xb s sx pk (.slice p i c) l wr)∧Hid (RnI rdI s y.1.toNat y.2 i l sx)∧Hid (y.2=none→sx=none))
 case atStart=>exact⟨0,none,0,[],y.2,by omega,by omega,rfl,HI,hid (.start ..),hid id⟩
 case round=>
  obtain⟨i,p,c,l,sx,hi,hgg,rfl,HI,HR,HN⟩:=hrel
  obtain⟨n3,e3,hb3,hat3⟩:=HI.out.rd
  obtain⟨⟨a0,a1⟩,⟨f0,f1⟩,flt⟩:=yS hb3
  have HB3:=hid (⟨hb3,hat3⟩:_∧_)
  clear hb3 hat3
  by_cases hgo:(i:Int)<k∧sx.isSome=true
  ·obtain⟨hik,hsx⟩:=hgo
   obtain⟨a,rfl⟩:=Option.isSome_iff_exists.1 hsx
   obtain⟨hn3,he3,ha3⟩:=HB3.out.2
   subst he3
   have HIK:Hid (i<y.1.toNat∧i<48∧y.2≠none):=hid (by
    have hy:y.2≠none:=fun h=>by have:=HN.out h;cases this
    obtain⟨h1,h2,h3⟩:=HCK.out (Option.isSome_iff_ne_none.2 hy)
    exact⟨by omega,by omega,hy⟩)
   have HR2:=HR.out.next HIK.out.1
   obtain⟨x1,hx1⟩: ∃x,x=rdI s (some a):=⟨_,rfl⟩
   have HF:=ye HS.out HB3.out.2 wr
   rw[←hx1]at HF HR2
   have HF:=hid HF
   have HR3:=hid HR2
   obtain⟨xv,hxv⟩: ∃v,v=x1.1:=⟨_,rfl⟩
   have HXV:=hid hxv
   clear hx1 hn3 ha3 hsx HR2
   go_wp2_with fail
   (with_reducible refine HF.out.mono ?_)
   rintro r w4 ⟨n4,e4,rfl,hat,hb4⟩
   obtain⟨tb,htb⟩: ∃k,k=w4.heap.size:=⟨_,rfl⟩
   obtain⟨w5,hw5⟩: ∃w,w=w4.alloc (.cells #[.int .i64 n4,.int .i64 e4] 170):=⟨_,rfl⟩
   have HW5:=hid (⟨htb,hw5⟩:_∧_)
   have hB:Blk w5 tb 170 #[.int .i64 n4,.int .i64 e4]:=by rw[hw5,htb];exact Blk.new _ _ _
   have hbw:Below wr.heap.size wr w5:=by rw[hw5];exact hb4.alloc hb4.size _
   have HX:=hid (⟨hbw,(by rw[htb];exact hb4.size:wr.heap.size≤tb),hB,hat⟩:_∧_∧_∧_)
   rw[←hxv]
   clear hat hb4 htb hw5 hbw hB hxv a0 a1 f0 f1 flt HF
   go_upto_region 8 with fail
   rw[←HW5.out.1,←HW5.out.2]
   have hbx:=HI.out.bx.below HX.out.1 HI.out.bx.lt
   have q1:w5.cell? ⟨xb,1,none⟩=some (.slice p i c):=hbx.cell 1
   have h11:=xN HI.out.row fun b e=>HX.out.1.block b (HI.out.row.lt b e).2
   have hli:l.length=i:=HR.out.len
   have HLI:=hid hli
   have H11:=hid h11
   clear hli h11 hbx HW5
   go_wp2_with (with_reducible refine yd .append rfl ?_)
   with_reducible refine ki ?_
   refine zO rfl _ _ 86 rfl wdC aBe Tryz.underlying86 rfl (by decide) (by decide) YG aba xv H11.out (by rw[HLI.out];omega) (Nat.le_trans HI.out.bw.size HX.out.1.size) rfl rfl ?_
   intro v6 w12 ho6 hk6 hv6
   obtain⟨p6,c6,rfl⟩:=zm ho6
   rw[HLI.out]
   have hn:=HI.out.next HX.out.1 ho6 hk6 HB3.out.1 HX.out.2.2.2
   have hT:Blk w12 tb 170 #[.int .i64 n4,.int .i64 e4]:=HX.out.2.2.1.kp hk6 fun hm=>yo H11.out HX.out.2.2.1 (by decide) (Option.mem_toList.1 hm)
   have hT2:Blk (w12.setCell ⟨xb,1,none⟩ (.slice p6 (l.length+1) c6)) tb 170 #[.int .i64 n4,.int .i64 e4]:=hT.far (hT.ne_ hn.1.2 (by decide)) _
   rw[HLI.out]at hn hT2
   obtain⟨w13,hw13⟩: ∃w,w=w12.setCell ⟨xb,1,none⟩ (.slice p6 (i+1) c6):=⟨_,rfl⟩
   rw[←hw13]at hn hT2
   obtain⟨w14,hw14⟩: ∃w,w=za w13 cb 0 [.int .i64 n4,.int .i64 e4]:=⟨_,rfl⟩
   rw[←hw14]at hn
   obtain⟨⟨b0,b1⟩,⟨f0,f1⟩,flt⟩:=yS hn.1.2
   have HN6:=hid (⟨hn.2,hT2⟩:_∧_)
   have HW13:=hid (⟨hw13,hw14⟩:_∧_)
   clear ho6 hk6 hv6 hn hw13 hw14 hT hT2 q1
   go_upto_region 9 with fail
   rw[←HW13.out.1]
   clear b0 b1 f0 f1 flt
   obtain⟨⟨a0,a1⟩,_,_⟩:=yS HN6.out.2
   obtain⟨⟨b0,b1⟩,⟨f0,f1⟩,flt⟩:=yS HN6.out.1.2
   go_wp2
   have hw13:=HW13.out.2
   unfold za za za at hw13
   rw[←hw13]
   go_roundg (48- (i+1))
   case measure=>have:=HIK.out.2.1;omega
   case rel=>
    have HR4:=HR3.out
    rw[←HXV.out]at HR4
    exact⟨i+1,p6,c6,_,x1.2,by have:=HIK.out.2.1;omega,by omega,by go_num,hid HN6.out.1.1,hid HR4,hid fun h=>absurd h HIK.out.2.2⟩
  ·have HFIN:Hid (z=(l,sx)):=hid (by
    rw[HZ.out]
    cases sx with
    |none=>exact HR.out.no
    | some a=>
     have hy2:y.2.isSome=true:=by
      cases h:y.2 with
      |none=>have:=HN.out h;cases this
      |some b=>rfl
     obtain⟨h1,h2,h3⟩:=HCK.out hy2
     have hik:i=y.1.toNat:=by
      have:=HR.out.le
      have: ¬(i:Int)<k:=fun h=>hgo ⟨h,rfl⟩
      omega
     have:=HR.out
     rw[hik]at this
     exact this.fin)
   have hsp:((i:Int)<k∧(e3==0)=false)∨ ¬(i:Int)<k:=by
    by_cases h:(i:Int)<k
    ·refine .inl ⟨h,?_⟩
     cases sx with
     |none=>have h:e3≠0:=HB3.out.2;simpa using h
     |some a=>exact absurd ⟨h,rfl⟩ hgo
    ·exact .inr h
   have hlen:Hid (l.length=i):=hid HR.out.len
   have hrlx:Blk wr rl 88 #[.int .i64 0,.slice none 0 0]:=HB1.out.2.2.2.2.2.2.1.kp HI.out.bw (by have:=HB1.out.2.2.2.2.2.2.2.2;simpa using this)
   have hr0x:Blk wr r0 170 #[.int .i64 0,.int .i64 0]:=HB1.out.2.1.kp HI.out.bw (by have:=HB1.out.2.2.2.2.1;simp;omega)
   have hrx:rl≠xb:=by have:=HB1.out.2.2.2.2.2.2.1.lt;have:=HI.out.lo;omega
   have hr0c:r0≠cb:=Ne.symm HB1.out.2.2.2.2.1
   have HB9:Hid (Below W.heap.size W wr∧Blk wr r0 170 #[.int .i64 0,.int .i64 0]∧Blk wr rl 88 #[.int .i64 0,.slice none 0 0]):=hid ⟨HB1.out.1.trans (HI.out.bw.to_below HB1.out.2.2.2.2.2.1 fun x hx=>by have:=HB1.out.2.2.2.1;simp at hx;omega),hr0x,hrlx⟩
   obtain⟨⟨q0,q1⟩,⟨g0,g1⟩,glt⟩:=yS hr0x
   obtain⟨⟨l0,l1⟩,⟨k0,k1⟩,klt⟩:=yS hrlx
   obtain⟨⟨x0,x1⟩,_,_⟩:=yS HI.out.bx
   obtain⟨wy,hwy⟩: ∃wy,wy=(wr.setCell ⟨rl,0,none⟩ (.int .i64 pk)).setCell ⟨rl,1,none⟩ (.slice p i c):=⟨_,rfl⟩
   have hly:Blk wy rl 88 #[.int .i64 pk,.slice p i c]:=by rw[hwy];exact(hrlx.set_ 0 _).set_ 1 _
   have hry:Blk wy r0 170 #[.int .i64 0,.int .i64 0]:=by
    have hn:=hr0x.ne_ hrlx (by decide)
    rw[hwy];exact(hr0x.far hn _).far hn _
   have hcy:Blk wy cb 170 #[.int .i64 n3,.int .i64 e3]:=by
    have hn:=HB3.out.1.ne_ hrlx (by decide)
    rw[hwy];exact(HB3.out.1.far hn _).far hn _
   obtain⟨wz,hwz⟩: ∃wz,wz=(wy.setCell ⟨r0,0,none⟩ (.int .i64 n3)).setCell ⟨r0,1,none⟩ (.int .i64 e3):=⟨_,rfl⟩
   have HZ9:Hid (Blk wz r0 170 #[.int .i64 n3,.int .i64 e3]∧Blk wz rl 88 #[.int .i64 pk,.slice p i c]∧Below W.heap.size W wz∧wz.ownsRow W.heap.size 3 1 (.slice p i c) l.length (yv wdC l)):=hid (by
    have hn:=hly.ne_ hry (by decide)
    rw[hwz]
    refine⟨(hry.set_ 0 _).set_ 1 _,(hly.far hn _).far hn _,?_,?_⟩
    ·rw[hwy]
     exact(((HB9.out.1.setCell HB1.out.2.2.2.2.2.2.2.1 _).setCell HB1.out.2.2.2.2.2.2.2.1 _).setCell HB1.out.2.2.1 _).setCell HB1.out.2.2.1 _
    ·have ho:wy.ownsRow W1.heap.size 3 1 (.slice p i c) l.length (yv wdC l):=by rw[hwy];exact zs (zs HI.out.row hrlx (by decide)) (hrlx.set_ 0 _) (by decide)
     exact xL (zs (zs ho hry (by decide)) (hry.set_ 0 _) (by decide)) HB1.out.2.2.2.2.2.1)
   have HWZ:=hid (⟨hwy,hwz⟩:_∧_)
   have hxy:Blk wy xb 88 #[.int .i64 pk,.slice p i c]:=by
    rw[hwy];exact(HI.out.bx.far (Ne.symm hrx) _).far (Ne.symm hrx) _
   have HYB:=hid (⟨hry,hcy,hxy⟩:_∧_∧_)
   clear hwz hwy hgo hrlx hr0x hrx hr0c hly hry hcy hxy q0 q1 g0 g1 glt
   rcases hsp with⟨hs1,hs2⟩ |hs1
   all_goals
    go_upto_region 10 with fail
    refine zB (fun W'=>W'.cell? ⟨cb,0,none⟩=some (.int .i64 n3)∧W'.cell? ⟨cb,1,none⟩=some (.int .i64 e3)∧W'.cell? ⟨xb,0,none⟩=some (.int .i64 pk)∧W'.cell? ⟨xb,1,none⟩=some (.slice p i c)) 3 (by kernel_rfl) ⟨a0,a1,x0,x1⟩ (fun hHeld=>?_)
    refine eT 0 hHeld ?_;(try simp only[Act.put,sEa,sEb,sEc]);refine eT 1 hHeld ?_;(try simp only[Act.put,sEa,sEb,sEc])
    refine eR 2 (fun K hK=>?_)
    go_simp
    rw[←HWZ.out.1]
    refine hK.out _ _ ⟨HYB.out.2.1.cell 0,HYB.out.2.1.cell 1,HYB.out.2.2.cell 0,HYB.out.2.2.cell 1⟩ (fun hHeld=>?_)
    clear hK K a0 a1 x0 x1 l0 l1 k0 k1 klt
    (try simp only[Act.put,sEa,sEb,sEc])
    obtain⟨⟨q0,q1⟩,⟨g0,g1⟩,glt⟩:=yS HYB.out.1
    refine eL (fun K hK=>?_);go_simp;refine hK.out _ _ ?_;clear hK K;(try simp only[Act.put,sEa,sEb,sEc])
    go_wp2
    rw[←HWZ.out.2]
    obtain⟨⟨v0,v1⟩,_,_⟩:=yS HZ9.out.1
    obtain⟨⟨u0,u1⟩,_,_⟩:=yS HZ9.out.2.1
    have hz:=HFIN.out
    subst hz
    have hl:=hlen.out
    subst hl
    refine bodyPost_ret (v:= .tuple #[.agg #[.int .i64 pk,.slice p l.length c],.agg #[.int .i64 n3,.int .i64 e3]]) (by simp[results,Tryz.results105,go_sem,v0,v1,u0,u1]) rfl ⟨⟨pk,p,l.length,c,l⟩,n3,e3,rfl,by rw[HPK.out],⟨rfl,HZ9.out.2.2.2⟩,HB3.out.2,HZ9.out.2.2.1.drew⟩
end
section
open Go.RowKit Go.Lib
structure G6 (W4:World) (g mb:Nat) (s:Bs) (st:Option Nat) (sd:Int) (en:Nat) (dv:Value) (dl:List Nat) (pv:Value) (ps:List Prg) (lv:Value) (ls:List LpR) (iv:Value) (is:List Ini) (w:World):Prop where
 rd:RdA w g s st
 blk:Blk w mb 29 #[.int .i64 sd,.float .f64 en,dv,pv,lv,iv]
 d:w.ownsRow W4.heap.size 23 1 dv dl.length (yv flC dl)
 p:w.ownsRow W4.heap.size 85 1 pv ps.length (yv prC ps)
 pi: ∀q∈ps,atP W4.heap.size w q
 l:w.ownsRow W4.heap.size 88 2 lv ls.length (yv lpC ls)
 li: ∀q∈ls,atL W4.heap.size w q
 i:w.ownsRow W4.heap.size 90 3 iv is.length (yv aay is)
 kp:Kp [g] W4 w
 lo:W4.heap.size≤mb
section
variable {W4 w w':World} {g mb:Nat} {s:Bs} {st st':Option Nat} {sd:Int} {en:Nat} {dv:Value} {dl:List Nat} {pv:Value} {ps:List Prg} {lv:Value} {ls:List LpR} {iv:Value} {is:List Ini}
theorem G6.below (h:G6 W4 g mb s st sd en dv dl pv ps lv ls iv is w) (hb:Below w.heap.size w w'):G6 W4 g mb s st sd en dv dl pv ps lv ls iv is w':=by
 have k: ∀ {T n s xs a},w.ownsRow W4.heap.size T s a n xs→w'.ownsRow W4.heap.size T s a n xs:=fun ho=>xN ho fun b e=>hb.block b (ho.lt b e).2
 exact⟨h.rd.below hb,h.blk.below hb h.blk.lt,k h.d,k h.p,fun q hq=>⟨(h.pi q hq).1,k (h.pi q hq).2⟩,k h.l,fun q hq=>⟨(h.li q hq).1,k (h.li q hq).2⟩,k h.i,h.kp.trans (.of_below hb),h.lo⟩
theorem G6.at_ (h:G6 W4 g mb s st sd en dv dl pv ps lv ls iv is w) {n e:Int} (ha:AtR s st' n e):G6 W4 g mb s st' sd en dv dl pv ps lv ls iv is (za w g 0 [.int .i64 n,.int .i64 e]):=by
 obtain⟨n0,e0,hb,_⟩:=h.rd
 have hn:mb≠g:=Blk.ne_ h.blk hb (by decide)
 have k: ∀ {T n' s' xs a},w.ownsRow W4.heap.size T s' a n' xs→T≠170→(za w g 0 [.int .i64 n,.int .i64 e]).ownsRow W4.heap.size T s' a n' xs:=fun ho ht=>zs (zs ho hb ht) (hb.set_ 0 _) ht
 exact⟨⟨n,e,(hb.set_ 0 _).set_ 1 _,ha⟩,(h.blk.far hn _).far hn _,k h.d (by decide),k h.p (by decide),fun q hq=>⟨(h.pi q hq).1,k (h.pi q hq).2 (by decide)⟩,k h.l (by decide),fun q hq=>⟨(h.li q hq).1,k (h.li q hq).2 (by decide)⟩,k h.i (by decide),zU (.inl (by simp)) _ _ _ h.kp,h.lo⟩
theorem G6.appD (h:G6 W4 g mb s st sd en dv dl pv ps lv ls iv is w) {v':Value} {x:Nat} (ho:w'.ownsRow W4.heap.size 23 1 v' (dl.length+1) (yv flC (dl++[x]))) (hk:Kp dv.ownBlock.toList w w'):
  Blk w' mb 29 #[.int .i64 sd,.float .f64 en,dv,pv,lv,iv]∧G6 W4 g mb s st sd en v' (dl++[x]) pv ps lv ls iv is (w'.setCell ⟨mb,2,none⟩ v'):=by
 have hb:Blk w' mb 29 #[.int .i64 sd,.float .f64 en,dv,pv,lv,iv]:=h.blk.kp hk fun hm=>yo h.d h.blk (by decide) (Option.mem_toList.1 hm)
 obtain⟨n,e,h1,h2⟩:=h.rd
 have h3:=h1.kp hk fun hm=>yo h.d h1 (by decide) (Option.mem_toList.1 hm)
 have hn:g≠mb:=h3.ne_ hb (by decide)
 refine⟨hb,⟨n,e,h3.far hn _,h2⟩,hb.set_ 2 _,(by rw[List.length_append];exact zs ho hb (by decide)),zs (zJ h.p h.d (by decide) hk) hb (by decide),(fun q hq=>⟨(h.pi q hq).1,zs (zJ (h.pi q hq).2 h.d (by decide) hk) hb (by decide)⟩),zs (zJ h.l h.d (by decide) hk) hb (by decide),(fun q hq=>⟨(h.li q hq).1,zs (zJ (h.li q hq).2 h.d (by decide) hk) hb (by decide)⟩),zs (zJ h.i h.d (by decide) hk) hb (by decide),(h.kp.trans_gr (fun x hx=> .inr (h.d.lt x (Option.mem_toList.1 hx)).1) hk).setCell (.inr h.lo) _,h.lo⟩
theorem G6.appP (h:G6 W4 g mb s st sd en dv dl pv ps lv ls iv is w) {v':Value} {x:Prg} (hx:atP W4.heap.size w x) (ho:w'.ownsRow W4.heap.size 85 1 v' (ps.length+1) (yv prC (ps++[x]))) (hk:Kp pv.ownBlock.toList w w'):
  Blk w' mb 29 #[.int .i64 sd,.float .f64 en,dv,pv,lv,iv]∧G6 W4 g mb s st sd en dv dl v' (ps++[x]) lv ls iv is (w'.setCell ⟨mb,3,none⟩ v'):=by
 have hb:Blk w' mb 29 #[.int .i64 sd,.float .f64 en,dv,pv,lv,iv]:=h.blk.kp hk fun hm=>yo h.p h.blk (by decide) (Option.mem_toList.1 hm)
 obtain⟨n,e,h1,h2⟩:=h.rd
 have h3:=h1.kp hk fun hm=>yo h.p h1 (by decide) (Option.mem_toList.1 hm)
 have hn:g≠mb:=h3.ne_ hb (by decide)
 refine⟨hb,⟨n,e,h3.far hn _,h2⟩,hb.set_ 3 _,zs (zJ h.d h.p (by decide) hk) hb (by decide),(by rw[List.length_append];exact zs ho hb (by decide)),(fun q hq=>by
  rcases List.mem_append.1 hq with hq|hq
  ·exact⟨(h.pi q hq).1,zs (zJ (h.pi q hq).2 h.p (by decide) hk) hb (by decide)⟩
  ·rw[List.mem_singleton.1 hq];exact⟨(hx).1,zs (zJ (hx).2 h.p (by decide) hk) hb (by decide)⟩),zs (zJ h.l h.p (by decide) hk) hb (by decide),(fun q hq=>⟨(h.li q hq).1,zs (zJ (h.li q hq).2 h.p (by decide) hk) hb (by decide)⟩),zs (zJ h.i h.p (by decide) hk) hb (by decide),(h.kp.trans_gr (fun x hx=> .inr (h.p.lt x (Option.mem_toList.1 hx)).1) hk).setCell (.inr h.lo) _,h.lo⟩
theorem G6.appL (h:G6 W4 g mb s st sd en dv dl pv ps lv ls iv is w) {v':Value} {x:LpR} (hx:atL W4.heap.size w x) (ho:w'.ownsRow W4.heap.size 88 2 v' (ls.length+1) (yv lpC (ls++[x]))) (hk:Kp lv.ownBlock.toList w w'):
  Blk w' mb 29 #[.int .i64 sd,.float .f64 en,dv,pv,lv,iv]∧G6 W4 g mb s st sd en dv dl pv ps v' (ls++[x]) iv is (w'.setCell ⟨mb,4,none⟩ v'):=by
 have hb:Blk w' mb 29 #[.int .i64 sd,.float .f64 en,dv,pv,lv,iv]:=h.blk.kp hk fun hm=>yo h.l h.blk (by decide) (Option.mem_toList.1 hm)
 obtain⟨n,e,h1,h2⟩:=h.rd
 have h3:=h1.kp hk fun hm=>yo h.l h1 (by decide) (Option.mem_toList.1 hm)
 have hn:g≠mb:=h3.ne_ hb (by decide)
 refine⟨hb,⟨n,e,h3.far hn _,h2⟩,hb.set_ 4 _,zs (zJ h.d h.l (by decide) hk) hb (by decide),zs (zJ h.p h.l (by decide) hk) hb (by decide),(fun q hq=>⟨(h.pi q hq).1,zs (zJ (h.pi q hq).2 h.l (by decide) hk) hb (by decide)⟩),(by rw[List.length_append];exact zs ho hb (by decide)),(fun q hq=>by
  rcases List.mem_append.1 hq with hq|hq
  ·exact⟨(h.li q hq).1,zs (zJ (h.li q hq).2 h.l (by decide) hk) hb (by decide)⟩
  ·rw[List.mem_singleton.1 hq];exact⟨(hx).1,zs (zJ (hx).2 h.l (by decide) hk) hb (by decide)⟩),zs (zJ h.i h.l (by decide) hk) hb (by decide),(h.kp.trans_gr (fun x hx=> .inr (h.l.lt x (Option.mem_toList.1 hx)).1) hk).setCell (.inr h.lo) _,h.lo⟩
theorem G6.appI (h:G6 W4 g mb s st sd en dv dl pv ps lv ls iv is w) {v':Value} {x:Ini} (ho:w'.ownsRow W4.heap.size 90 3 v' (is.length+1) (yv aay (is++[x]))) (hk:Kp iv.ownBlock.toList w w'):
  Blk w' mb 29 #[.int .i64 sd,.float .f64 en,dv,pv,lv,iv]∧G6 W4 g mb s st sd en dv dl pv ps lv ls v' (is++[x]) (w'.setCell ⟨mb,5,none⟩ v'):=by
 have hb:Blk w' mb 29 #[.int .i64 sd,.float .f64 en,dv,pv,lv,iv]:=h.blk.kp hk fun hm=>yo h.i h.blk (by decide) (Option.mem_toList.1 hm)
 obtain⟨n,e,h1,h2⟩:=h.rd
 have h3:=h1.kp hk fun hm=>yo h.i h1 (by decide) (Option.mem_toList.1 hm)
 have hn:g≠mb:=h3.ne_ hb (by decide)
 refine⟨hb,⟨n,e,h3.far hn _,h2⟩,hb.set_ 5 _,zs (zJ h.d h.i (by decide) hk) hb (by decide),zs (zJ h.p h.i (by decide) hk) hb (by decide),(fun q hq=>⟨(h.pi q hq).1,zs (zJ (h.pi q hq).2 h.i (by decide) hk) hb (by decide)⟩),zs (zJ h.l h.i (by decide) hk) hb (by decide),(fun q hq=>⟨(h.li q hq).1,zs (zJ (h.li q hq).2 h.i (by decide) hk) hb (by decide)⟩),(by rw[List.length_append];exact zs ho hb (by decide)),(h.kp.trans_gr (fun x hx=> .inr (h.i.lt x (Option.mem_toList.1 hx)).1) hk).setCell (.inr h.lo) _,h.lo⟩
theorem G6.md2 {dp pp lp ip:Option Addr} {dn dc pn pc ln lc im ic r0:Nat} {cs:Array Value} (h:G6 W4 g mb s st sd en (.slice dp dn dc) dl (.slice pp pn pc) ps (.slice lp ln lc) ls (.slice ip im ic) is w) (e1:dn=dl.length) (e2:pn=ps.length) (e3:ln=ls.length) (e4:im=is.length) (hb:Blk w r0 29 cs) (e: ∀b,W4.heap.size≤b→b<w.heap.size→b≠r0→w'.heap[b]? =w.heap[b]?):qZ w' ⟨sd,en,dp,dn,dc,dl,pp,pn,pc,ps,lp,ln,lc,ls,ip,im,ic,is⟩:=by
 subst e1 e2 e3 e4
 have k: ∀ {T n s xs a},w.ownsRow W4.heap.size T s a n xs→T≠29→w'.ownsRow W4.heap.size T s a n xs:=fun ho ht=>xN ho fun b hv=>e b (ho.lt b hv).1 (ho.lt b hv).2 fun e'=>yo ho hb ht (e'▸hv)
 exact⟨.of_own Ya (k h.d (by decide)) rfl,rfl,.of_own Yu (k h.p (by decide)) rfl,rfl,fun q hq=>⟨(h.pi q hq).1,.of_own Ye (k (h.pi q hq).2 (by decide)) (h.pi q hq).1⟩,.of_own Yg (k h.l (by decide)) rfl,rfl,fun q hq=>⟨(h.li q hq).1,.of_own YG (k (h.li q hq).2 (by decide)) (h.li q hq).1⟩,.of_own vL (k h.i (by decide)) rfl,rfl⟩
end
structure LpS {α:Type} (one:Rd α) (s:Bs) (c:Int×Option Nat) (k:Int) (i:Nat) (l:List α) (st:Option Nat):Prop where
 rr:RnI one s c.1.toNat c.2 i l st
 cc:c.2.isSome=true→k=c.1∧0≤k∧k≤48
 nn:c.2=none→st=none
section
variable {α:Type} {one:Rd α} {s:Bs} {c:Int×Option Nat} {k:Int} {i:Nat} {l:List α} {st:Option Nat} {a:Nat}
theorem LpS.start (h:c.2.isSome=true→k=c.1∧0≤k∧k≤48):LpS one s c k 0 [] c.2:=⟨.start ..,h,id⟩
theorem LpS.lt (h:LpS one s c k i l (some a)) (hi:(i:Int)<k):i<c.1.toNat∧i<48:=by
 have hy:c.2≠none:=fun h1=>by have:=h.nn h1;cases this
 obtain⟨h1,h2,h3⟩:=h.cc (Option.isSome_iff_ne_none.2 hy)
 exact⟨by omega,by omega⟩
theorem LpS.next (h:LpS one s c k i l (some a)) (hi:(i:Int)<k):LpS one s c k (i+1) (l++[(one s (some a)).1]) (one s (some a)).2:=
 ⟨h.rr.next (h.lt hi).1,h.cc,fun h1=>by have:=h.nn h1;cases this⟩
theorem LpS.fin (h:LpS one s c k i l st) (hgo: ¬((i:Int)<k∧st.isSome=true)):rdN one c.1.toNat s c.2=(l,st):=by
 cases st with
 |none=>exact h.rr.no
 | some a=>
  have hy2:c.2.isSome=true:=by
   cases h1:c.2 with
   |none=>have:=h.nn h1;cases this
   |some b=>rfl
  obtain⟨h1,h2,h3⟩:=h.cc hy2
  have hik:i=c.1.toNat:=by
   have:=h.rr.le
   have: ¬(i:Int)<k:=fun h=>hgo ⟨h,rfl⟩
   omega
  have:=h.rr
  rw[hik]at this
  exact this.fin
end
theorem aMq:(Tryz.prog.info? 23).map (fun i=>(i.zero,i.size,i.bytes))=some (some (.float .f64 0),1,8):=by kernel_rfl
theorem aMs:(Tryz.prog.info? 85).map (fun i=>(i.zero,i.size,i.bytes))=some (some (.slice none 0 0),1,24):=by kernel_rfl
theorem aMr:(Tryz.prog.info? 88).map (fun i=>(i.zero,i.size,i.bytes))=some (some (.agg #[.int .i64 0,.slice none 0 0]),2,32):=by kernel_rfl
theorem aBc:(Tryz.prog.info? 90).map (fun i=>(i.zero,i.size,i.bytes))=some (some (.agg #[.float .f64 0,.int .i64 0,.int .i64 0]),3,24):=by kernel_rfl
end
section
open Go.RowKit Go.Lib
theorem aMO (op:Int):op=0∨op=1∨(op=2∨op=11∨op=13∨op=14)∨(op=3∨op=4∨op=5∨op=6∨op=7∨op=8∨op=12)∨op=9∨op=10∨(¬op=0∧ ¬op=1∧ ¬op=2∧ ¬op=3∧ ¬op=4∧ ¬op=5∧ ¬op=6∧ ¬op=7∧ ¬op=8∧ ¬op=9∧ ¬op=10∧ ¬op=11∧ ¬op=12∧ ¬op=13∧ ¬op=14):=by omega
theorem agX (x:In) (len:Int) (w:World):
  Calls Tryz.prog 112 #[.agg #[.int .i64 x.op,.int .i64 x.a,.int .i64 x.b,.int .i64 x.c],.int .i64 len] w fun r w'=>r= .returned (.bool (vM x len))∧Below w.heap.size w w':=by
 obtain⟨op,a,b,c⟩:=x
 have HB:=hid ((Below.refl _ w).alloc (Nat.le_refl _) (.cells #[.int .i64 op,.int .i64 a,.int .i64 b,.int .i64 c] 84))
 have HA:=hid (fun W=>Kw a W)
 have HBB:=hid (fun W=>Kw b W)
 have HC:=hid (fun W=>Kw c W)
 show Calls _ _ #[.agg #[.int .i64 op,.int .i64 a,.int .i64 b,.int .i64 c],.int .i64 len] w _
 rcases aMO op with rfl|rfl|h|h|rfl|rfl| ⟨h0,h1,h2,h3,h4,h5,h6,h7,h8,h9,h10,h11,h12,h13,h14⟩
 ·rw[show vM ⟨0,a,b,c⟩ len=true by simp[vM]]
  go_enter Tryz.func112,Tryz.ntmps112
  go_wp2
  go_ret
  exact⟨rfl,HB.out⟩
 ·rw[show vM ⟨1,a,b,c⟩ len=rgB a by simp[vM]]
  go_enter Tryz.func112,Tryz.ntmps112
  go_wp2_with ((with_reducible refine(HA.out _).mono ?_);rintro r w' ⟨rfl,rfl⟩)
  go_ret
  exact⟨rfl,HB.out⟩
 ·rw[show vM ⟨op,a,b,c⟩ len=(rgB a&&rgB b)by rcases h with rfl|rfl|rfl|rfl<;>simp[vM]]
  rcases h with rfl|rfl|rfl|rfl
  all_goals
   cases ha:rgB a
   all_goals
    rw[ha]at HA
    clear ha
    go_enter Tryz.func112,Tryz.ntmps112
    go_wp2_with (first | ((with_reducible refine(HA.out _).mono ?_);rintro r w' ⟨rfl,rfl⟩) | ((with_reducible refine(HBB.out _).mono ?_);rintro r w' ⟨rfl,rfl⟩))
    go_ret
    exact⟨rfl,HB.out⟩
 ·rw[show vM ⟨op,a,b,c⟩ len=(rgB a&&(rgB b&&rgB c))by rcases h with rfl|rfl|rfl|rfl|rfl|rfl|rfl<;>simp[vM]]
  rcases h with rfl|rfl|rfl|rfl|rfl|rfl|rfl
  all_goals
   cases ha:rgB a
   all_goals cases hb:rgB b
   all_goals
    rw[ha]at HA
    rw[hb]at HBB
    clear ha hb
    go_enter Tryz.func112,Tryz.ntmps112
    go_wp2_with (first | ((with_reducible refine(HA.out _).mono ?_);rintro r w' ⟨rfl,rfl⟩) | ((with_reducible refine(HBB.out _).mono ?_);rintro r w' ⟨rfl,rfl⟩) | ((with_reducible refine(HC.out _).mono ?_);rintro r w' ⟨rfl,rfl⟩))
    go_ret
    exact⟨rfl,HB.out⟩
 ·rw[show vM ⟨9,a,b,c⟩ len=plB a len by simp[vM]]
  unfold plB
  by_cases h1:0≤a
  ·by_cases h2:a≤len
   ·rw[decide_eq_true h1,decide_eq_true h2]
    go_enter Tryz.func112,Tryz.ntmps112
    go_wp2
    go_ret
    exact⟨rfl,HB.out⟩
   ·rw[decide_eq_true h1,decide_eq_false h2]
    go_enter Tryz.func112,Tryz.ntmps112
    go_wp2
    go_ret
    exact⟨rfl,HB.out⟩
  ·rw[decide_eq_false h1]
   go_enter Tryz.func112,Tryz.ntmps112
   go_wp2
   go_ret
   exact⟨rfl,HB.out⟩
 ·rw[show vM ⟨10,a,b,c⟩ len=(rgB a&&plB b len)by simp[vM]]
  unfold plB
  have hcs:(0≤b∧b≤len∧(decide (0≤b)&&decide (b≤len))=true)∨(0≤b∧ ¬b≤len∧(decide (0≤b)&&decide (b≤len))=false)∨(¬0≤b∧(decide (0≤b)&&decide (b≤len))=false):=by
   by_cases h1:0≤b
   ·by_cases h2:b≤len
    ·exact .inl ⟨h1,h2,by simp[h1,h2]⟩
    ·exact .inr (.inl ⟨h1,h2,by simp[h2]⟩)
   ·exact .inr (.inr ⟨h1,by simp[h1]⟩)
  cases ha:rgB a
  all_goals
   rw[ha]at HA
   clear ha
   rcases hcs with⟨h1,h2,e⟩ | ⟨h1,h2,e⟩ | ⟨h1,e⟩
   all_goals
    rw[e]
    clear e
    go_enter Tryz.func112,Tryz.ntmps112
    go_wp2_with ((with_reducible refine(HA.out _).mono ?_);rintro r w' ⟨rfl,rfl⟩)
    go_ret
    exact⟨by first |rfl| (simp;omega),HB.out⟩
 ·rw[show vM ⟨op,a,b,c⟩ len=false by
   unfold vM
   rw[if_neg h0,if_neg h1,if_neg (by simp only;omega),if_neg (by simp only;omega),if_neg h9,if_neg h10]]
  go_enter Tryz.func112,Tryz.ntmps112
  go_wp2
  go_ret
  exact⟨rfl,HB.out⟩
end
section
open Go.RowKit Go.Lib
section
variable {W:World} {x:MdV} {q:Option Addr} {n c:Nat} {l:List In}
theorem Qo (hv:Vw 4 inC W (.slice q n c) l) (hn:n=l.length) (hnb:n≤1000):
  Calls Tryz.prog 75 #[.slice q n c] W fun r w'=>r= .returned (.bool (xf l))∧Below W.heap.size W w':=by
 obtain⟨r0,hr0⟩: ∃r,r=xf l:=⟨_,rfl⟩
 rw[←hr0]
 have HR:=hid hr0
 have HV:=hid (⟨hv,hn⟩:_∧_)
 clear hr0 hv hn
 go_enter Tryz.func75,Tryz.ntmps75
 go_wp2
 go_loopg [3] (n+1) (fun gg s3 wr=> ∃j:Nat,j≤n∧n+1-j≤gg∧s3= .int .i64 j∧Hid ((l.take j).all (fun x=>vM x l.length)=true)∧Hid (Below W.heap.size W wr))
 case atStart=>exact⟨0,by omega,by omega,rfl,hid (by simp),hid (Below.refl _ _)⟩
 case round=>
  obtain⟨j,hj,hgg,rfl,HJ,HBW⟩:=hrel
  by_cases hjn:j<n
  ·obtain⟨x,hx⟩: ∃x,l[j]? =some x:=⟨_,List.getElem?_eq_getElem (by rw[←HV.out.2];exact hjn)⟩
   obtain⟨b,o,rfl,hxc⟩:=aMu HV.out.1 hx
   obtain⟨x0,x1,x2,x3⟩:=hxc wr HBW.out
   have hji:(j:Int)<(n:Int):=by omega
   have hnz:(n:Int)≤1000:=by omega
   have HP:=hid (agX x n wr)
   have HX:=hid hx
   have HJN:=hid hjn
   clear hx hxc
   go_wp2_with fail
   (with_reducible refine HP.out.mono ?_)
   rintro r w1 ⟨rfl,hb1⟩
   obtain⟨go,hgo⟩: ∃go,go=vM x n:=⟨_,rfl⟩
   rw[←hgo]
   have HG:=hid (⟨hgo,HBW.out.trans (hb1.mono HBW.out.size)⟩:_∧_)
   clear hgo hb1 x0 x1 x2 x3
   cases go with
   |true=>
    have HJ2:Hid ((l.take (j+1)).all (fun x=>vM x l.length)=true):=hid (by rw[zD _ HX.out,HJ.out,←HV.out.2,←HG.out.1];rfl)
    go_wp2
    go_roundg (n+1- (j+1))
    case measure=>omega
    case rel=>exact⟨j+1,by have:=HJN.out;omega,by omega,by go_num,HJ2,hid HG.out.2⟩
   |false=>
    have HZ:Hid (r0=false):=hid (by rw[HR.out];unfold xf;rw[yU HX.out (by rw[←HV.out.2,←HG.out.1]),Bool.false_and])
    go_wp2
    go_ret
    rw[HZ.out]
    exact⟨rfl,HG.out.2⟩
  ·have hji: ¬(j:Int)<(n:Int):=by omega
   have HZ:Hid (r0=(decide ((1:Int)≤n)&&decide ((n:Int)≤48))):=hid (by
    have h1:=HJ.out
    rw[List.take_of_length_le (by rw[←HV.out.2];omega)]at h1
    rw[HR.out]
    unfold xf
    rw[h1,Bool.true_and,←HV.out.2,←Bool.decide_and,←Bool.decide_and]
    exact decide_eq_decide.2 (by omega))
   by_cases h1:(1:Int)≤n
   ·have HZ2:Hid (r0=decide ((n:Int)≤48)):=hid (by rw[HZ.out,decide_eq_true h1,Bool.true_and])
    go_wp2
    go_ret
    rw[HZ2.out]
    exact⟨rfl,HBW.out⟩
   ·have h2:decide ((1:Int)≤n)=false:=decide_eq_false h1
    have HZ2:Hid (r0=false):=hid (by rw[HZ.out,h2,Bool.false_and])
    go_wp2
    go_ret
    rw[HZ2.out]
    exact⟨rfl,HBW.out⟩
theorem agN (a p d i:Nat) (hn: ¬((1:Int)≤a∧(a:Int)≤6∧(1:Int)≤p∧(p:Int)≤4∧(1:Int)≤d∧(d:Int)≤8∧(i:Int)≤16)):
  ((a:Int)<1)∨(¬(a:Int)<1∧6<(a:Int))∨(¬(a:Int)<1∧ ¬6<(a:Int)∧(p:Int)<1)∨(¬(a:Int)<1∧ ¬6<(a:Int)∧ ¬(p:Int)<1∧4<(p:Int))∨
  (¬(a:Int)<1∧ ¬6<(a:Int)∧ ¬(p:Int)<1∧ ¬4<(p:Int)∧(d:Int)<1)∨(¬(a:Int)<1∧ ¬6<(a:Int)∧ ¬(p:Int)<1∧ ¬4<(p:Int)∧ ¬(d:Int)<1∧8<(d:Int))∨
  (¬(a:Int)<1∧ ¬6<(a:Int)∧ ¬(p:Int)<1∧ ¬4<(p:Int)∧ ¬(d:Int)<1∧ ¬8<(d:Int)∧16<(i:Int)):=by omega
theorem V3 (h:qZ W x) (hd:x.dn≤1000) (hp:x.pn≤1000) (hl:x.ln≤1000) (hi:x.im≤1000) (hq: ∀q∈x.ps,q.n≤1000):
  Calls Tryz.prog 35 #[.agg (mdC x).toArray] W fun r w'=>r= .returned (.int .i64 (if yM x.m=true then 0 else 15))∧Below W.heap.size W w':=by
 obtain⟨W1,hW1⟩: ∃W1,W1=W.alloc (.cells (mdC x).toArray 29):=⟨_,rfl⟩
 have hb1:Below W.heap.size W W1:=by rw[hW1];exact(Below.refl _ W).alloc (Nat.le_refl _) _
 have hB1:=MdB.new h
 rw[←hW1]at hB1
 obtain⟨e0,he0⟩: ∃e:Int,e=if yM x.m=true then 0 else 15:=⟨_,rfl⟩
 rw[←he0]
 rw[aag h]at he0
 obtain⟨dp,hdp⟩: ∃p,p=x.dp:=⟨_,rfl⟩
 obtain⟨pp,hpp⟩: ∃p,p=x.pp:=⟨_,rfl⟩
 obtain⟨lp,hlp⟩: ∃p,p=x.lp:=⟨_,rfl⟩
 obtain⟨ip,hip⟩: ∃p,p=x.ip:=⟨_,rfl⟩
 have HC:Hid (∀W',Below W1.heap.size W1 W'→(W'.cell? ⟨W.heap.size,0,none⟩=some (.int .i64 x.seed)∧W'.cell? ⟨W.heap.size,1,none⟩=some (.float .f64 x.en)∧W'.cell? ⟨W.heap.size,2,none⟩=some (.slice dp x.dn x.dc)∧W'.cell? ⟨W.heap.size,3,none⟩=some (.slice pp x.pn x.pc)∧W'.cell? ⟨W.heap.size,4,none⟩=some (.slice lp x.ln x.lc)∧W'.cell? ⟨W.heap.size,5,none⟩=some (.slice ip x.im x.ic))∧qZ W' x∧Below W.heap.size W W'):=hid fun W' hW=>by
  have:=hB1.below hW
  rw[hdp,hpp,hlp,hip]
  exact⟨this.c,this.2,hb1.trans (hW.mono hb1.size)⟩
 have HE:=hid he0
 have HH:=hid (⟨h,hq⟩:_∧_)
 have HW1:=hid hW1
 have HD:=hid hdp
 have HP:=hid hpp
 have HL:=hid hlp
 have HI:=hid hip
 unfold mdC at HW1⊢
 rw[←hdp,←hpp,←hlp,←hip]at HW1⊢
 obtain⟨⟨c0,c1,c2,c3,c4,c5⟩,_,_⟩:=HC.out W1 (Below.refl _ _)
 have HB0:=hid hb1
 clear h hq hW1 hb1 hB1 he0 hdp hpp hlp hip
 have goal15:Hid (aio x=false∨jm x.en=true→e0=15):=hid fun h=>by
  rw[HE.out]
  rcases h with h|h
  ·rw[h];simp
  ·rw[h];simp
 by_cases hcn:(1:Int)≤x.ln∧(x.ln:Int)≤6∧(1:Int)≤x.pn∧(x.pn:Int)≤4∧(1:Int)≤x.dn∧(x.dn:Int)≤8∧(x.im:Int)≤16
 ·have hcB : aio x=true:=by
   unfold aio
   simp only[Bool.and_eq_true,decide_eq_true_eq]
   exact⟨⟨hcn.1,hcn.2.1⟩,⟨hcn.2.2.1,hcn.2.2.2.1⟩,⟨hcn.2.2.2.2.1,hcn.2.2.2.2.2.1⟩,hcn.2.2.2.2.2.2⟩
  have i1: ¬(x.ln:Int)<1:=by omega
  have i2: ¬6<(x.ln:Int):=by omega
  have i3: ¬(x.pn:Int)<1:=by omega
  have i4: ¬4<(x.pn:Int):=by omega
  have i5: ¬(x.dn:Int)<1:=by omega
  have i6: ¬8<(x.dn:Int):=by omega
  have i7: ¬16<(x.im:Int):=by omega
  have HCB:=hid hcB
  clear hcB hcn
  by_cases hnan:jm x.en=true
  ·have HZ:Hid (e0=15):=hid (goal15.out (.inr hnan))
   clear HE
   go_enter Tryz.func35,Tryz.ntmps35
   go_upto_region 1 with fail
   rw[←HW1.out]
   go_wp2
   go_ret
   rw[HZ.out]
   exact⟨rfl,HB0.out⟩
  ·have hnan2 :jm x.en=false:=by simpa using hnan
   have HE1:Hid (e0=if(x.dl.all dlB&&(x.ps.all (fun q=>xf q.l)&&(x.ls.all (lpR x.pn)&&x.is.all (aaz x.ln))))=true then 0 else 15):=hid (by rw[HE.out,HCB.out,hnan2];rfl)
   clear HE goal15 hnan
   go_enter Tryz.func35,Tryz.ntmps35
   go_upto_region 1 with fail
   rw[←HW1.out]
   go_wp2
   go_loopg [3] x.dn (fun gg s3 wr=> ∃(j:Nat),j≤x.dn∧x.dn-j≤gg∧s3= .int .i64 j∧Hid ((x.dl.take j).all dlB=true)∧W1=wr)
   case atStart=>exact⟨0,by omega,by omega,rfl,hid (by simp),rfl⟩
   case round =>
    obtain⟨j,hj,hgg,rfl,HJ,hwr⟩:=hrel
    subst hwr
    by_cases hjn:j<x.dn
    ·obtain⟨d,hd'⟩: ∃d,x.dl[j]? =some d:=⟨_,List.getElem?_eq_getElem (by rw[←HH.out.1.dn];exact hjn)⟩
     obtain⟨g,o,e1,m0⟩:=(HC.out W1 (Below.refl _ _)).2.1.dly hd'
     obtain rfl:dp=some ⟨g,o,none⟩:=HD.out.trans e1
     have hji:(j:Int)<(x.dn:Int):=by omega
     have hjz:(x.dn:Int)≤1000:=by omega
     have HJN:=hid hjn
     have HX:=hid hd'
     clear hd' e1
     by_cases hz:fgt d 0=true
     ·have HX2:Hid ((x.dl.take (j+1)).all dlB=true):=hid (by rw[zD _ HX.out,HJ.out];exact hz)
      go_wp2
      go_roundg (x.dn- (j+1))
      case measure=>omega
      case rel=>exact⟨j+1,by have:=HJN.out;omega,by omega,by go_num,HX2,rfl⟩
     ·have hz2:fgt d 0=false:=by simpa using hz
      have HZ:Hid (e0=15):=hid (by rw[HE1.out,yU HX.out hz2];rfl)
      clear hz HE1
      go_wp2
      go_ret
      rw[HZ.out]
      exact⟨rfl,HB0.out⟩
    ·have hji : ¬(j:Int)<(x.dn:Int):=by omega
     have HE2:Hid (e0=if(x.ps.all (fun q=>xf q.l)&&(x.ls.all (lpR x.pn)&&x.is.all (aaz x.ln)))=true then 0 else 15):=hid (by
      have:=HJ.out
      rw[List.take_of_length_le (by rw[←HH.out.1.dn];omega)]at this
      rw[HE1.out,this,Bool.true_and])
     clear HE1 HJ
     go_wp2
     go_loopg [4] x.pn (fun gg s4 wr=> ∃(j:Nat),j≤x.pn∧x.pn-j≤gg∧s4= .int .i64 j∧Hid (((x.ps.take j).all fun q=>xf q.l)=true)∧Hid (Below W1.heap.size W1 wr))
     case atStart=>exact⟨0,by omega,by omega,rfl,hid (by simp),hid (Below.refl _ _)⟩
     case round=>
      obtain⟨j,hj,hgg,rfl,HJ,HBr⟩:=hrel
      obtain⟨⟨k0,k1,k2,k3,k4,k5⟩,hmr,_⟩:=HC.out wr HBr.out
      by_cases hjn:j<x.pn
      ·obtain⟨q,hq'⟩: ∃q,x.ps[j]? =some q:=⟨_,List.getElem?_eq_getElem (by rw[←HH.out.1.pn];exact hjn)⟩
       obtain⟨g,o,e1,m0⟩:=hmr.prg hq'
       obtain rfl:pp=some ⟨g,o,none⟩:=HP.out.trans e1
       have hqm:=List.mem_of_getElem? hq'
       obtain⟨go,hgo⟩: ∃b,b=xf q.l:=⟨_,rfl⟩
       have HPR:=hid (Qo (hmr.pi q hqm).2 (hmr.pi q hqm).1 (HH.out.2 q hqm))
       rw[←hgo]at HPR
       have hji:(j:Int)<(x.pn:Int):=by omega
       have hjz:(x.pn:Int)≤1000:=by omega
       have HJN:=hid hjn
       have HX:=hid (⟨hq',hgo⟩:_∧_)
       clear hq' e1 hqm hgo hmr
       go_wp2_with fail
       (with_reducible refine HPR.out.mono ?_)
       rintro r w2 ⟨rfl,hb2⟩
       have HB2:=hid (HBr.out.trans (hb2.mono HBr.out.size))
       clear hb2
       cases go with
       |true=>
        have HX2:Hid (((x.ps.take (j+1)).all fun q=>xf q.l)=true):=hid (by rw[zD (fun q:Prg=>xf q.l) HX.out.1,HJ.out,←HX.out.2];rfl)
        go_wp2
        go_roundg (x.pn- (j+1))
        case measure=>omega
        case rel=>exact⟨j+1,by have:=HJN.out;omega,by omega,by go_num,HX2,HB2⟩
       |false=>
        have HZ:Hid (e0=15):=hid (by rw[HE2.out,yU (f:=fun q:Prg=>xf q.l) HX.out.1 HX.out.2.symm];rfl)
        clear HE2
        go_wp2
        go_ret
        rw[HZ.out]
        exact⟨rfl,(HC.out _ HB2.out).2.2⟩
      ·have hji: ¬(j:Int)<(x.pn:Int):=by omega
       have HE3:Hid (e0=if(x.ls.all (lpR x.pn)&&x.is.all (aaz x.ln))=true then 0 else 15):=hid (by
        have:=HJ.out
        rw[List.take_of_length_le (by rw[←HH.out.1.pn];omega)]at this
        rw[HE2.out,this,Bool.true_and])
       obtain⟨w2,rfl⟩: ∃w2,w2=wr:=⟨_,rfl⟩
       clear HE2 HJ c0 c1 c2 c3 c4 c5 hmr
       go_wp2
       go_loopg [5] x.ln (fun gg s5 wr=> ∃(j:Nat),j≤x.ln∧x.ln-j≤gg∧s5= .int .i64 j∧Hid ((x.ls.take j).all (lpR x.pn)=true)∧Hid (Below W1.heap.size W1 wr))
       case atStart=>exact⟨0,by omega,by omega,rfl,hid (by simp),HBr⟩
       case round=>
        obtain⟨j,hj,hgg,rfl,HJ,HBr⟩:=hrel
        obtain⟨⟨r0,r1,r2,r3,r4,r5⟩,hmr,_⟩:=HC.out wr HBr.out
        by_cases hjn:j<x.ln
        ·obtain⟨q,hq'⟩: ∃q,x.ls[j]? =some q:=⟨_,List.getElem?_eq_getElem (by rw[←HH.out.1.ln];exact hjn)⟩
         obtain⟨g,o,e1,m0,m1⟩:=hmr.lpr hq'
         obtain rfl:lp=some ⟨g,o,none⟩:=HL.out.trans e1
         have hji:(j:Int)<(x.ln:Int):=by omega
         have hj0:(0:Int)≤(j:Int):=by omega
         have hjz:(x.ln:Int)≤1000:=by omega
         have HJN:=hid hjn
         have HCW:Hid (∀w',vv wr w'→(w'.cell? ⟨W.heap.size,3,none⟩=some (.slice pp x.pn x.pc)∧w'.cell? ⟨W.heap.size,4,none⟩=some (.slice (some ⟨g,o,none⟩) x.ln x.lc))∧w'.cell? ⟨g,o+j*2,none⟩=some (.int .i64 q.k)∧w'.cell? ⟨g,o+j*2+1,none⟩=some (.slice q.p q.n q.c)):=hid fun w' hw=>by
          obtain⟨⟨_,_,_,z3,z4,_⟩,hm,_⟩:=HC.out w' (HBr.out.trans (hw.out.mono HBr.out.size))
          obtain⟨g',o',e',y0,y1⟩:=hm.lpr hq'
          rw[e1]at e'
          injection e' with e'
          injection e' with e2 e3 _
          subst e2 e3
          exact⟨⟨z3,z4⟩,y0,y1⟩
         have HX:=hid hq'
         clear hq' e1 hmr
         by_cases hz:(0:Int)≤q.k∧q.k≤(x.pn:Int) -1∧(q.n:Int)≤8
         ·have t1: ¬q.k<0:=by omega
          have t2: ¬(x.pn:Int)≤q.k:=by omega
          have t3: ¬8<(q.n:Int):=by omega
          have t4:decide (q.k<0)=false:=decide_eq_false t1
          have t5:decide ((x.pn:Int)≤q.k)=false:=decide_eq_false t2
          have t6:decide (8<(q.n:Int))=false:=decide_eq_false t3
          have HX2:Hid ((x.ls.take (j+1)).all (lpR x.pn)=true):=hid (by
           rw[zD _ HX.out,HJ.out]
           unfold lpR
           simp only[Bool.true_and,Bool.and_eq_true,decide_eq_true_eq]
           exact⟨⟨hz.1,hz.2.1⟩,hz.2.2⟩)
          clear hz
          go_wp2
          refine vU (by kernel_rfl) (by kernel_rfl) (vv wr) (vv.drew wr) ?_
          repeat(first | (refine Qs rfl (fun K hK=>?_);apply Exists.intro;refine⟨fun w0 hw0=>?_,?_⟩;(focus(obtain⟨⟨y0,y1⟩,y2,y3⟩:=HCW.out w0 hw0;go_simp;first |exact rfl|exact⟨rfl,rfl⟩ | (fail)));go_simp;refine hK _ ?_;clear hK K) | (refine aaU _ _ _ rfl rfl (by rfl) (fun K hK=>?_);apply Exists.intro;refine⟨fun w0 hw0=>?_,?_⟩;(focus(obtain⟨⟨y0,y1⟩,y2,y3⟩:=HCW.out w0 hw0;go_simp;first |exact rfl|exact⟨rfl,rfl⟩ | (fail)));go_simp;refine hK _ ?_;clear hK K) | (refine ajj _ _ _ rfl rfl (by rfl) (fun K hK=>?_);go_simp;refine hK _ ?_;clear hK K) | (refine Zp _ _ _ rfl rfl (by rfl) (fun K hK=>?_);go_simp;refine hK _ ?_;clear hK K))
          refine aaT ?_
          intro w3 hw3
          have HB3:Hid (Below W1.heap.size W1 w3):=hid (HBr.out.trans (hw3.out.mono HBr.out.size))
          clear hw3
          go_wp2
          go_roundg (x.ln- (j+1))
          case measure=>omega
          case rel=>exact⟨j+1,by have:=HJN.out;omega,by omega,by go_num,HX2,HB3⟩
         ·have HZ:Hid (e0=15):=hid (by
           rw[HE3.out,yU HX.out (by
            unfold lpR
            rw[←Bool.decide_and]
            exact decide_eq_false (by omega))]
           rfl)
          have hcs:q.k<0∨(¬q.k<0∧(x.pn:Int)≤q.k)∨(¬q.k<0∧ ¬(x.pn:Int)≤q.k∧8<(q.n:Int)):=by omega
          clear hz HE3
          rcases hcs with t1| ⟨t1,t2⟩ | ⟨t1,t2,t3⟩
          ·go_wp2
           refine vU (by kernel_rfl) (by kernel_rfl) (vv wr) (vv.drew wr) ?_
           repeat(first | (refine Qs rfl (fun K hK=>?_);apply Exists.intro;refine⟨fun w0 hw0=>?_,?_⟩;(focus(obtain⟨⟨y0,y1⟩,y2,y3⟩:=HCW.out w0 hw0;go_simp;first |exact rfl|exact⟨rfl,rfl⟩ | (fail)));go_simp;refine hK _ ?_;clear hK K) | (refine aaU _ _ _ rfl rfl (by rfl) (fun K hK=>?_);apply Exists.intro;refine⟨fun w0 hw0=>?_,?_⟩;(focus(obtain⟨⟨y0,y1⟩,y2,y3⟩:=HCW.out w0 hw0;go_simp;first |exact rfl|exact⟨rfl,rfl⟩ | (fail)));go_simp;refine hK _ ?_;clear hK K) | (refine ajj _ _ _ rfl rfl (by rfl) (fun K hK=>?_);go_simp;refine hK _ ?_;clear hK K) | (refine Zp _ _ _ rfl rfl (by rfl) (fun K hK=>?_);go_simp;refine hK _ ?_;clear hK K))
           refine aaT ?_
           intro w3 hw3
           have HB3:Hid (Below W.heap.size W w3):=hid (HC.out w3 (HBr.out.trans (hw3.out.mono HBr.out.size))).2.2
           clear hw3
           go_wp2
           go_ret
           rw[HZ.out]
           exact⟨rfl,HB3.out⟩
          ·have t4:decide (q.k<0)=false:=decide_eq_false t1
           go_wp2
           refine vU (by kernel_rfl) (by kernel_rfl) (vv wr) (vv.drew wr) ?_
           repeat(first | (refine Qs rfl (fun K hK=>?_);apply Exists.intro;refine⟨fun w0 hw0=>?_,?_⟩;(focus(obtain⟨⟨y0,y1⟩,y2,y3⟩:=HCW.out w0 hw0;go_simp;first |exact rfl|exact⟨rfl,rfl⟩ | (fail)));go_simp;refine hK _ ?_;clear hK K) | (refine aaU _ _ _ rfl rfl (by rfl) (fun K hK=>?_);apply Exists.intro;refine⟨fun w0 hw0=>?_,?_⟩;(focus(obtain⟨⟨y0,y1⟩,y2,y3⟩:=HCW.out w0 hw0;go_simp;first |exact rfl|exact⟨rfl,rfl⟩ | (fail)));go_simp;refine hK _ ?_;clear hK K) | (refine ajj _ _ _ rfl rfl (by rfl) (fun K hK=>?_);go_simp;refine hK _ ?_;clear hK K) | (refine Zp _ _ _ rfl rfl (by rfl) (fun K hK=>?_);go_simp;refine hK _ ?_;clear hK K))
           refine aaT ?_
           intro w3 hw3
           have HB3:Hid (Below W.heap.size W w3):=hid (HC.out w3 (HBr.out.trans (hw3.out.mono HBr.out.size))).2.2
           clear hw3
           go_wp2
           go_ret
           rw[HZ.out]
           exact⟨rfl,HB3.out⟩
          ·have t4:decide (q.k<0)=false:=decide_eq_false t1
           have t5:decide ((x.pn:Int)≤q.k)=false:=decide_eq_false t2
           go_wp2
           refine vU (by kernel_rfl) (by kernel_rfl) (vv wr) (vv.drew wr) ?_
           repeat(first | (refine Qs rfl (fun K hK=>?_);apply Exists.intro;refine⟨fun w0 hw0=>?_,?_⟩;(focus(obtain⟨⟨y0,y1⟩,y2,y3⟩:=HCW.out w0 hw0;go_simp;first |exact rfl|exact⟨rfl,rfl⟩ | (fail)));go_simp;refine hK _ ?_;clear hK K) | (refine aaU _ _ _ rfl rfl (by rfl) (fun K hK=>?_);apply Exists.intro;refine⟨fun w0 hw0=>?_,?_⟩;(focus(obtain⟨⟨y0,y1⟩,y2,y3⟩:=HCW.out w0 hw0;go_simp;first |exact rfl|exact⟨rfl,rfl⟩ | (fail)));go_simp;refine hK _ ?_;clear hK K) | (refine ajj _ _ _ rfl rfl (by rfl) (fun K hK=>?_);go_simp;refine hK _ ?_;clear hK K) | (refine Zp _ _ _ rfl rfl (by rfl) (fun K hK=>?_);go_simp;refine hK _ ?_;clear hK K))
           refine aaT ?_
           intro w3 hw3
           have HB3:Hid (Below W.heap.size W w3):=hid (HC.out w3 (HBr.out.trans (hw3.out.mono HBr.out.size))).2.2
           clear hw3
           go_wp2
           go_ret
           rw[HZ.out]
           exact⟨rfl,HB3.out⟩
        ·have hji: ¬(j:Int)<(x.ln:Int):=by omega
         have HE4:Hid (e0=if(x.is.all (aaz x.ln))=true then 0 else 15):=hid (by
          have:=HJ.out
          rw[List.take_of_length_le (by rw[←HH.out.1.ln];omega)]at this
          rw[HE3.out,this,Bool.true_and])
         obtain⟨w3,rfl⟩: ∃w2,w2=wr:=⟨_,rfl⟩
         clear HE3 HJ k0 k1 k2 k3 k4 k5 hmr
         go_wp2
         go_loopg [6] x.im (fun gg s6 wr=> ∃(j:Nat),j≤x.im∧x.im-j≤gg∧s6= .int .i64 j∧Hid ((x.is.take j).all (aaz x.ln)=true)∧Hid (Below W1.heap.size W1 wr))
         case atStart=>exact⟨0,by omega,by omega,rfl,hid (by simp),HBr⟩
         case round=>
          obtain⟨j,hj,hgg,rfl,HJ,HBr⟩:=hrel
          obtain⟨⟨s0,s1,s2,s3,s4,s5⟩,hmr,_⟩:=HC.out wr HBr.out
          by_cases hjn:j<x.im
          ·obtain⟨y,hy'⟩: ∃q,x.is[j]? =some q:=⟨_,List.getElem?_eq_getElem (by rw[←HH.out.1.im];exact hjn)⟩
           obtain⟨g,o,e1,m0,m1,m2⟩:=hmr.ini hy'
           obtain rfl:ip=some ⟨g,o,none⟩:=HI.out.trans e1
           obtain⟨wo,hwo⟩: ∃wo,wo=wr.alloc (.cells #[.float .f64 y.t,.int .i64 y.dst,.int .i64 y.pay] 90):=⟨_,rfl⟩
           have hbo:Below W1.heap.size W1 wo:=by rw[hwo];exact HBr.out.alloc HBr.out.size _
           have hBo:Blk wo wr.heap.size 90 #[.float .f64 y.t,.int .i64 y.dst,.int .i64 y.pay]:=by rw[hwo];exact Blk.new wr _ _
           have hji:(j:Int)<(x.im:Int):=by omega
           have hjz:(x.im:Int)≤1000:=by omega
           have HJN:=hid hjn
           have HX:=hid hy'
           have HBO:=hid (⟨hwo,hbo,hBo⟩:_∧_∧_)
           clear hy' e1 hwo hmr
           go_upto_region 22 with fail
           rw[←HBO.out.1]
           obtain⟨⟨z0,z1,z2,z3,z4,z5⟩,_,_⟩:=HC.out wo HBO.out.2.1
           have q0:wo.cell? ⟨wr.heap.size,0,none⟩=some (.float .f64 y.t):=HBO.out.2.2.cell 0
           have q1:wo.cell? ⟨wr.heap.size,1,none⟩=some (.int .i64 y.dst):=HBO.out.2.2.cell 1
           clear hbo hBo
           by_cases hz:jm y.t=false∧(0:Int)≤y.dst∧y.dst≤(x.ln:Int) -1
           ·have HX2:Hid ((x.is.take (j+1)).all (aaz x.ln)=true):=hid (by
             rw[zD _ HX.out,HJ.out]
             unfold aaz
             rw[hz.1]
             simp only[Bool.true_and,Bool.not_false,decide_eq_true_eq]
             exact hz.2)
            obtain⟨t1,t2,t3⟩:=hz
            have t4: ¬y.dst<0:=by omega
            have t5: ¬(x.ln:Int)≤y.dst:=by omega
            go_wp2
            go_roundg (x.im- (j+1))
            case measure=>omega
            case rel=>exact⟨j+1,by have:=HJN.out;omega,by omega,by go_num,HX2,hid HBO.out.2.1⟩
           ·have HZ:Hid (e0=15):=hid (by
             rw[HE4.out,yU HX.out (by
              unfold aaz
              rw[Bool.and_eq_false_iff]
              by_cases h:jm y.t=true
              ·left;rw[h];rfl
              ·right;exact decide_eq_false (fun h2=>hz ⟨by simpa using h,h2⟩))]
             rfl)
            have hcs:jm y.t=true∨(jm y.t=false∧y.dst<0)∨(jm y.t=false∧ ¬y.dst<0∧(x.ln:Int)≤y.dst):=by
             by_cases h:jm y.t=true
             ·exact .inl h
             ·have h':jm y.t=false:=by simpa using h
              have: ¬((0:Int)≤y.dst∧y.dst≤(x.ln:Int) -1):=fun h2=>hz ⟨h',h2⟩
              by_cases h3:y.dst<0
              ·exact .inr (.inl ⟨h',h3⟩)
              ·exact .inr (.inr ⟨h',h3,by omega⟩)
            have HF:=hid (HC.out wo HBO.out.2.1).2.2
            clear hz HE4
            rcases hcs with t1| ⟨t1,t2⟩ | ⟨t1,t2,t3⟩
            all_goals
             go_wp2
             go_ret
             rw[HZ.out]
             exact⟨rfl,HF.out⟩
          ·have hji: ¬(j:Int)<(x.im:Int):=by omega
           have HZ:Hid (e0=0):=hid (by
            have:=HJ.out
            rw[List.take_of_length_le (by rw[←HH.out.1.im];omega)]at this
            rw[HE4.out,this]
            rfl)
           have HF:=hid (HC.out wr HBr.out).2.2
           clear HE4 HJ hmr
           go_wp2
           go_ret
           rw[HZ.out]
           exact⟨rfl,HF.out⟩
 ·have HZ:Hid (e0=15):=hid (goal15.out (.inl (by
   unfold aio
   rw[←Bool.decide_and,←Bool.decide_and,←Bool.decide_and]
   exact decide_eq_false (fun h=>hcn ⟨h.1.1,h.1.2,h.2.1.1,h.2.1.2,h.2.2.1.1,h.2.2.1.2,h.2.2.2⟩))))
  have hcs:=agN x.ln x.pn x.dn x.im hcn
  clear hcn HE goal15
  rcases hcs with t1| ⟨t1,t2⟩ | ⟨t1,t2,t3⟩ | ⟨t1,t2,t3,t4⟩ | ⟨t1,t2,t3,t4,t5⟩ | ⟨t1,t2,t3,t4,t5,t6⟩ | ⟨t1,t2,t3,t4,t5,t6,t7⟩
  all_goals
   go_enter Tryz.func35,Tryz.ntmps35
   go_upto_region 1 with fail
   rw[←HW1.out]
   go_wp2
   go_ret
   rw[HZ.out]
   exact⟨rfl,HB0.out⟩
end
end
end Go.Proofs.YtcdiljebkpikbaaGreat
