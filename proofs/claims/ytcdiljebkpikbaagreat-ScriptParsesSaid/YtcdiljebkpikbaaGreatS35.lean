/- Parts of the proof: Sdc Sdd Sde Sdf. -/
import Derived.OwnWalk
import Derived.Laws.BitsAllLaws
import Derived.Test.YtcdiljebkpikbaaGreatS31
import Derived.Test.YtcdiljebkpikbaaGreatS34
set_option linter.all false
set_option maxRecDepth 100000
set_option maxHeartbeats 64000000
namespace Go.Proofs.YtcdiljebkpikbaaGreat
section
open Go.RowKit Go.Lib
theorem aaM (w:World) (b:UInt8):(convert 73 9 (.slice (some ⟨w.heap.size,0,none⟩) 1 1)).run Tryz.prog (w.alloc (.cells #[.int .u8 b.toNat] 5))= .ok (.string (S [b])) (w.alloc (.cells #[.int .u8 b.toNat] 5)):=by
 have hB:=Blk.new w 5 #[.int .u8 b.toNat]
 refine run_convert_bytes_back _ 73 9 5 ⟨w.heap.size,0,none⟩ 1 [b] Tryz.underlying73 Tryz.underlying5 Tryz.underlying9 fun j hj=>?_
 obtain rfl:j=0:=by simp at hj;omega
 exact hB.cell 0
def DgP (W:World) (b:Bs) (e:Ending) (w':World):Prop:=e= .returned (.string (S b))∧Below W.heap.size W w'
theorem X4 (n:Nat) (h:n<9223372036854775808):(Zl n).length≤100:=by
 have: ∀k m,m<10^k→(Zl m).length≤k+1:=by
  intro k
  induction k with
  |zero=>intro m hm;rw[V8 (by omega)];simp
  | succ k ih=>
   intro m hm
   by_cases h:m<10
   ·rw[V8 h];simp
   ·rw[agw h,List.length_append]
    have:=ih (m / 10) (by rw[Nat.pow_succ]at hm;omega)
    simp;omega
 have:=this 19 n (Nat.lt_of_lt_of_le h (by decide))
 omega
theorem dig8 (n:Nat) (h:n<10):(UInt8.ofNat (48+n)).toNat=48+n:=by simp;omega
theorem aiN:Zl 9223372036854775808=[57,50,50,51,51,55,50,48,51,54,56,53,52,55,55,53,56,48,56]:=by simp[Zl]
theorem aR0:({ data:= #[45,57,50,50,51,51,55,50,48,51,54,56,53,52,55,55,53,56,48,56] } :ByteArray)=S (Xb (-9223372036854775808)):=by
 unfold Xb
 rw[if_pos (by decide),show(-(-9223372036854775808:Int)).toNat=9223372036854775808 by decide,aiN]
 rfl
theorem Yw (N:Nat) (hN:N<9223372036854775808) (W:World):Calls Tryz.prog 37 #[.int .i64 N] W (DgP W (Zl N)):=by
 have t1: ¬((N:Int)= -9223372036854775808):=by omega
 have t2: ¬(N:Int)<0:=by omega
 have hv: ∀n:Nat,((UInt8.ofNat (48+n%10)).toNat:Int)=48+(n:Int)%10:=fun n=>by rw[dig8 _ (by omega)];omega
 have HL:=hid (X4 N hN)
 have HN:=hid hN
 obtain⟨b,hb⟩: ∃b,b=UInt8.ofNat (48+N%10):=⟨_,rfl⟩
 have hc:=aaM W b
 have hv0:=hv N
 rw[←hb]at hv0
 have HV:=hid hv
 have HB:Hid (∃suf,Zl N=Zl N++suf∧[b]=UInt8.ofNat (48+N%10)::suf):=hid ⟨[],by simp,by rw[hb]⟩
 rw[hv0]at hc
 have HF:Hid (Below W.heap.size W (W.alloc (.cells #[.int .u8 (48+(N:Int)%10)] 5))):=hid ((Below.refl _ W).alloc (Nat.le_refl _) _)
 clear hv hN hb hv0
 go_enter Tryz.func37,Tryz.ntmps37
 go_wp2
 clear hc
 go_loopg [0,3] N (fun gg s0 s3 wr=> ∃(n:Nat) (o:Bs),n≤gg∧n≤N∧s0= .int .i64 n∧s3= .string (S o)∧Hid (∃suf,Zl N=Zl n++suf∧o=UInt8.ofNat (48+n%10)::suf)∧Hid (Below W.heap.size W wr))
 case atStart=>exact⟨N,[b],by omega,by omega,rfl,rfl,HB,HF⟩
 case round=>
  obtain⟨n,o,hgg,hnN,rfl,rfl,HI,HW⟩:=hrel
  by_cases h9:(9:Int)<(n:Int)
  ·obtain⟨q,hq⟩: ∃q,q=n / 10:=⟨_,rfl⟩
   obtain⟨c,hcc⟩: ∃c,c=UInt8.ofNat (48+q%10):=⟨_,rfl⟩
   have hc:=aaM wr c
   have hv1:=HV.out q
   rw[←hcc]at hv1
   rw[hv1]at hc
   have hqn:(n:Int) / 10=(q:Int):=by omega
   have g1:wrap64 (q:Int)=(q:Int):=by have:=HN.out;unfold wrap64;omega
   have g2:(q:Int).tmod 10=(q:Int)%10:=Int.tmod_eq_emod_of_nonneg (by omega)
   have g3:wrap64 (48+(q:Int)%10)=48+(q:Int)%10:=by unfold wrap64;omega
   have g4:(48+(q:Int)%10)%256=48+(q:Int)%10:=by omega
   have hlen: ¬9223372036854775807<1+o.length:=by
    obtain⟨suf,e1,e2⟩:=HI.out
    have:=HL.out
    rw[e1,List.length_append]at this
    rw[e2,List.length_cons]
    omega
   have HF2:Hid (∃suf,Zl N=Zl q++suf∧c::o=UInt8.ofNat (48+q%10)::suf):=hid (by
    obtain⟨suf,e1,e2⟩:=HI.out
    refine⟨o,?_,by rw[hcc]⟩
    rw[e1,agw (n:=n) (by omega),←hq,e2]
    simp)
   have HW2:Hid (Below W.heap.size W (wr.alloc (.cells #[.int .u8 (48+(q:Int)%10)] 5))):=hid (HW.out.alloc HW.out.size _)
   have HQ:Hid (q<n∧q≤N):=hid (by omega)
   clear hq hcc hv1
   go_wp2
   go_roundg q
   case measure=>have:=HQ.out;omega
   case rel=>exact⟨q,c::o,by omega,HQ.out.2,by go_num,rfl,HF2,HW2⟩
  ·have HE:Hid (o=Zl N):=hid (by
    obtain⟨suf,e1,e2⟩:=HI.out
    rw[e1,e2,V8 (n:=n) (by omega),Nat.mod_eq_of_lt (by omega)]
    rfl)
   go_wp2
   go_ret
   exact⟨by rw[←HE.out];rfl,HW.out⟩
theorem vl {x:Int} (hx:okZ x) (W:World):Calls Tryz.prog 37 #[.int .i64 x] W (DgP W (Xb x)):=by
 by_cases hm:x= -9223372036854775808
 ·subst hm
  have HE:=hid aR0
  go_enter Tryz.func37,Tryz.ntmps37
  go_wp2
  go_ret
  exact⟨by rw[←HE.out];rfl,Below.refl _ _⟩
 ·by_cases hn:x<0
  ·obtain⟨q,hq⟩: ∃q,q=(-x).toNat:=⟨_,rfl⟩
   have hqx: -x=(q:Int):=by rw[hq];omega
   have hq2:q<9223372036854775808:=by unfold okZ at hx;omega
   have HI:=hid (fun W'=>Yw q hq2 W')
   have hlen: ¬9223372036854775807<1+(Zl q).length:=by have:=X4 q hq2;omega
   have hw:wrap64 (q:Int)=(q:Int):=by unfold wrap64;omega
   have HE:Hid (Xb x=45::Zl q):=hid (by unfold Xb;rw[if_pos hn,hq])
   rw[HE.out]
   have HX:=hid hx
   clear hq hq2 hx
   go_enter Tryz.func37,Tryz.ntmps37
   go_wp2_with fail
   (with_reducible refine(HI.out _).mono ?_)
   rintro r w2 ⟨rfl,hb2⟩
   have HB:=hid hb2
   clear hb2
   go_wp2
   go_ret
   exact⟨rfl,HB.out⟩
  ·have e:x=((x.toNat:Nat):Int):=by omega
   have HE:Xb x=Zl x.toNat:=by unfold Xb;rw[if_neg hn]
   rw[HE,e]
   exact Yw _ (by unfold okZ at hx;omega) W
/-! words, halves of bytes -/
def HfP (W:World) (c:UInt8) (e:Ending) (w':World):Prop:= ∃v:Nat,e= .returned (.tuple #[.int .u8 v,.bool (xu c).isSome])∧(∀k,xu c=some k→v=k)∧W=w'
theorem aav (c:UInt8) (W:World):Calls Tryz.prog 87 #[.int .u8 c.toNat] W (HfP W c):=by
 have h256:=c.toNat_lt
 obtain⟨o,ho⟩: ∃o,o=xu c:=⟨_,rfl⟩
 unfold HfP
 rw[←ho]
 unfold xu at ho
 by_cases c1:48≤c.toNat∧c.toNat≤57
 ·rw[if_pos c1]at ho
  obtain⟨c1,c2⟩:=c1
  have HO:=hid ho
  have d1:(48:Int)≤(c.toNat:Int):=by omega
  have d2:(c.toNat:Int)≤57:=by omega
  have HC:=hid c1
  clear ho c1 c2
  go_enter Tryz.func87,Tryz.ntmps87
  go_wp2
  go_ret2
  exact⟨c.toNat-48,by rw[HO.out];have:=HC.out;congr 2;go_num,(fun k hk=>by rw[HO.out]at hk;injection hk),rfl⟩
 ·rw[if_neg c1]at ho
  by_cases c2:97≤c.toNat∧c.toNat≤102
  ·rw[if_pos c2]at ho
   obtain⟨c3,c4⟩:=c2
   have HO:=hid ho
   have d1: ¬(c.toNat:Int)≤57:=by omega
   have d0:(48:Int)≤(c.toNat:Int):=by omega
   have d3:(97:Int)≤(c.toNat:Int):=by omega
   have d2:(c.toNat:Int)≤102:=by omega
   have HC:=hid c3
   clear ho c1 c3 c4
   go_enter Tryz.func87,Tryz.ntmps87
   go_wp2
   go_ret2
   exact⟨c.toNat-87,by rw[HO.out];have:=HC.out;congr 2;go_num,(fun k hk=>by rw[HO.out]at hk;injection hk),rfl⟩
  ·rw[if_neg c2]at ho
   have HO:=hid ho
   have hcs:((48:Int)≤(c.toNat:Int)∨ ¬(48:Int)≤(c.toNat:Int))∧((97:Int)≤(c.toNat:Int)∨ ¬(97:Int)≤(c.toNat:Int)):=⟨Decidable.em _,Decidable.em _⟩
   have d5: ¬((48:Int)≤(c.toNat:Int)∧(c.toNat:Int)≤57):=by omega
   have d6: ¬((97:Int)≤(c.toNat:Int)∧(c.toNat:Int)≤102):=by omega
   clear ho c1 c2
   rcases hcs with⟨e1|e1,e2|e2⟩
   ·have d7: ¬(c.toNat:Int)≤57:=by omega
    have d8: ¬(c.toNat:Int)≤102:=by omega
    clear d5 d6
    go_enter Tryz.func87,Tryz.ntmps87
    go_wp2
    go_ret2
    exact⟨0,by rw[HO.out];rfl,(fun k hk=>by rw[HO.out]at hk;cases hk),rfl⟩
   ·have d7: ¬(c.toNat:Int)≤57:=by omega
    clear d5 d6
    go_enter Tryz.func87,Tryz.ntmps87
    go_wp2
    go_ret2
    exact⟨0,by rw[HO.out];rfl,(fun k hk=>by rw[HO.out]at hk;cases hk),rfl⟩
   ·exfalso;omega
   ·clear d5 d6
    go_enter Tryz.func87,Tryz.ntmps87
    go_wp2
    go_ret2
    exact⟨0,by rw[HO.out];rfl,(fun k hk=>by rw[HO.out]at hk;cases hk),rfl⟩
end
section
open Go.RowKit Go.Lib
def u8C (b:UInt8):List Value:=[.int .u8 b.toNat]
theorem aie (b:UInt8):(u8C b).length=1:=rfl
theorem aif (b:UInt8): ∀u∈u8C b,u.oneCell'=true:=by intro u hu;simp[u8C]at hu;rw[hu];rfl
theorem ahP (l:Bs):yv u8C l=cB l:=by
 induction l with
 |nil=>rfl
 |cons b l ih=>rw[jw,ih];rfl
theorem aMt:(Tryz.prog.info? 5).map (fun i=>(i.zero,i.size,i.bytes))=some (some (.int .u8 0),1,1):=by kernel_rfl
end
section
open Go.RowKit Go.Lib
def UnP (W:World) (s:Bs) (e:Ending) (w':World):Prop:= ∃v:Bs,e= .returned (.tuple #[.string (S v),.bool (xr s).isSome])∧(∀z,xr s=some z→v=z)∧v.length≤s.length∧Below W.heap.size W w'
structure UhI (s:Bs) (i:Nat) (l:Bs):Prop where
 eq:qs s=(qs (s.drop i)).map (fun z=>l++z)
 len:i=2*l.length
theorem aan {s:Bs} {i:Nat} {a b:UInt8} (ha:s[i]? =some a) (hb:s[i+1]? =some b):s.drop i=a::b::s.drop (i+2):=by
 obtain⟨h1,e1⟩:=List.getElem?_eq_some_iff.1 ha
 obtain⟨h2,e2⟩:=List.getElem?_eq_some_iff.1 hb
 rw[List.drop_eq_getElem_cons h1,List.drop_eq_getElem_cons h2,e1,e2]
theorem UhI.no {s:Bs} {i:Nat} {l:Bs} {a b:UInt8} (h:UhI s i l) (ha:s[i]? =some a) (hb:s[i+1]? =some b) (hn:xu a=none∨xu b=none):qs s=none:=by
 rw[h.eq,aan ha hb,qs]
 rcases hn with hn|hn
 ·rw[hn];rfl
 ·rw[hn]
  cases xu a<;>rfl
theorem UhI.on {s:Bs} {i x y:Nat} {l:Bs} {a b:UInt8} (h:UhI s i l) (ha:s[i]? =some a) (hb:s[i+1]? =some b) (hx:xu a=some x) (hy:xu b=some y):UhI s (i+2) (l++[UInt8.ofNat (16*x+y)]):=by
 refine⟨?_,by rw[h.len];simp;omega⟩
 rw[h.eq,aan ha hb,qs,hx,hy]
 cases qs (s.drop (i+2))with
 |none=>rfl
 |some z=>simp
theorem UhI.fin {s:Bs} {i:Nat} {l:Bs} (h:UhI s i l) (hi:s.length≤i+1) (hl:i≤s.length):qs s=if s.length%2=0 then some l else none:=by
 have hlen:=h.len
 rw[h.eq]
 by_cases h1:s.length%2=0
 ·rw[if_pos h1,List.drop_of_length_le (by omega)]
  simp[qs]
 ·rw[if_neg h1]
  have:i<s.length:=by omega
  rw[List.drop_eq_getElem_cons this,List.drop_of_length_le (by omega)]
  rfl
theorem X9 {c:UInt8} {x:Nat} (h:xu c=some x):x<16:=by
 unfold xu at h
 split at h
 ·injection h with h;omega
 ·split at h
  ·injection h with h;omega
  ·cases h
theorem kf {s:Bs} (h0:s≠[]) (h:s≠[45]):xr s=qs s:=by
 unfold xr
 rw[if_neg h,if_neg h0]
theorem aBE {x y:Nat} (hx:x<16) (hy:y<16):bits .or .u8 ((x:Int)*16) (y:Int)=((UInt8.ofNat (16*x+y)).toNat:Int):=by
 rw[show(x:Int)*16=((x*16:Nat):Int)by omega,u8_or_nat _ _ (by omega) (by omega),nat_join 4 _ _ (by omega) (by omega)]
 simp
 omega
theorem aii (s:Bs) (hs:s.length≤90000) (W:World):Calls Tryz.prog 47 #[.string (S s)] W (UnP W s):=by
 by_cases h45:s=[45]
 ·subst h45
  go_enter Tryz.func47,Tryz.ntmps47
  go_wp2
  go_ret2
  exact⟨[],rfl,(fun z hz=>by injection hz),Nat.zero_le _,Below.refl _ _⟩
 ·have hS45:(s==[45])=false:=by simpa using h45
  have H45:=hid h45
  have HS:=hid hs
  have HI0:Hid (UhI s 0 []∧W.ownsRow W.heap.size 5 1 (.slice none 0 0) 0 (yv u8C [])∧Below W.heap.size W W):=hid ⟨⟨by simp,rfl⟩,qI _ _ _ _,Below.refl _ _⟩
  clear h45
  go_enter Tryz.func47,Tryz.ntmps47
  go_wp2
  go_loopg [4,5] s.length (fun gg s4 s5 wr=> ∃(i m:Nat) (p:Option Addr) (c:Nat),i≤s.length∧s.length-i≤gg∧s4= .slice p m c∧s5= .int .i64 i∧Hid (i=2*m)∧Hid (∃l,UhI s i l∧wr.ownsRow W.heap.size 5 1 (.slice p m c) m (yv u8C l)∧Below W.heap.size W wr))
  case atStart=>exact⟨0,0,none,0,by omega,by omega,rfl,rfl,hid rfl,hid ⟨[],HI0.out⟩⟩
  case round=>
   obtain⟨i,m,p,c,hm,hgg,rfl,rfl,Hi,HI⟩:=hrel
   obtain⟨l,hI,ho,hb⟩:=HI.out
   have HX:=hid (⟨hI,ho,hb⟩:_∧_∧_)
   clear hI ho hb HI
   by_cases hj:i+1<s.length
   ·have hji:(i:Int)+1<(s.length:Int):=by omega
    have hj0:i<s.length:=by omega
    obtain⟨a,ha⟩: ∃a,s[i]=a:=⟨_,rfl⟩
    obtain⟨b,hb⟩: ∃b,s[i+1]=b:=⟨_,rfl⟩
    have HA:Hid (s[i]? =some a∧s[i+1]? =some b):=hid ⟨by rw[←ha];exact List.getElem?_eq_getElem hj0,by rw[←hb];exact List.getElem?_eq_getElem hj⟩
    have hb2:(S s)[i+1]'(by rw[ja];exact hj)=b:=by rw[←hb];show s.toArray[i+1]=_;simp
    have HFA:=hid (aav a wr)
    have HFB:=hid (aav b wr)
    have hiz:(i:Int)≤90000:=by have:=HS.out;omega
    obtain⟨oa,hoa⟩: ∃o,o=xu a:=⟨_,rfl⟩
    obtain⟨ob,hob⟩: ∃o,o=xu b:=⟨_,rfl⟩
    unfold HfP at HFA HFB
    rw[←hoa]at HFA
    rw[←hob]at HFB
    have HO:=hid (⟨hoa.symm,hob.symm⟩:_∧_)
    have HJ:=hid hj
    clear hoa hob
    cases oa with
    | none=>
     have HN:Hid (xr s=none):=hid (by rw[kf (by rintro rfl;simp at hj0) H45.out];exact HX.out.1.no HA.out.1 HA.out.2 (.inl HO.out.1))
     have HB:=hid HX.out.2.2
     cases ob
     all_goals
      go_wp2_with fail
      (with_reducible refine HFA.out.mono ?_)
      rintro r w2 ⟨x,rfl,_,rfl⟩
      go_wp2_with fail
      (with_reducible refine HFB.out.mono ?_)
      rintro r w2 ⟨y,rfl,_,rfl⟩
      go_wp2
      go_ret2
      exact⟨[],by rw[HN.out];rfl,(fun z hz=>by rw[HN.out]at hz;cases hz),Nat.zero_le _,HB.out⟩
    | some x0=>
     cases ob with
     |none=>
      have HN:Hid (xr s=none):=hid (by rw[kf (by rintro rfl;simp at hj0) H45.out];exact HX.out.1.no HA.out.1 HA.out.2 (.inr HO.out.2))
      have HB:=hid HX.out.2.2
      go_wp2_with fail
      (with_reducible refine HFA.out.mono ?_)
      rintro r w2 ⟨x,rfl,_,rfl⟩
      go_wp2_with fail
      (with_reducible refine HFB.out.mono ?_)
      rintro r w2 ⟨y,rfl,_,rfl⟩
      go_wp2
      go_ret2
      exact⟨[],by rw[HN.out];rfl,(fun z hz=>by rw[HN.out]at hz;cases hz),Nat.zero_le _,HB.out⟩
     |some y0=>
      have HF:=hid (HX.out.1.on HA.out.1 HA.out.2 HO.out.1 HO.out.2)
      have hx16:=X9 HO.out.1
      have hy16:=X9 HO.out.2
      go_wp2_with fail
      (with_reducible refine HFA.out.mono ?_)
      rintro r w2 ⟨x,rfl,hx,rfl⟩
      obtain rfl:=hx x0 rfl
      go_wp2_with fail
      (with_reducible refine HFB.out.mono ?_)
      rintro r w2 ⟨y,rfl,hy,rfl⟩
      obtain rfl:=hy y0 rfl
      clear hx hy
      obtain⟨q,hq⟩: ∃q,q=UInt8.ofNat (16*x+y):=⟨_,rfl⟩
      have hor:=aBE hx16 hy16
      rw[←hq]at hor HF
      clear hq
      go_wp2_with (with_reducible refine yd .append rfl ?_)
      with_reducible refine ki ?_
      refine zO rfl _ _ 73 rfl u8C aMt Tryz.underlying73 rfl (by decide) (by decide) aie aif q HX.out.2.1 (by have:=Hi.out;omega) HX.out.2.2.size rfl rfl ?_
      intro v3 w3 ho3 hk3 _
      obtain⟨p3,c3,rfl⟩:=zm ho3
      have HF3:Hid (∃l,UhI s (i+2) l∧w3.ownsRow W.heap.size 5 1 (.slice p3 (m+1) c3) (m+1) (yv u8C l)∧Below W.heap.size W w3):=hid ⟨_,HF.out,ho3,HX.out.2.2.trans (hk3.to_below HX.out.2.2.size fun x hx=>(HX.out.2.1.lt x (Option.mem_toList.1 hx)).1)⟩
      clear ho3 hk3 hor
      go_wp2
      go_roundg (s.length- (i+2))
      case measure=>omega
      case rel=>exact⟨i+2,m+1,p3,c3,by have:=HJ.out;omega,by omega,rfl,by go_num,hid (by rw[Hi.out];omega),HF3⟩
   ·have hji: ¬(i:Int)+1<(s.length:Int):=by omega
    obtain⟨hI,ho,hb⟩:=HX.out
    have hml:m=l.length:=by have:=hI.len;have:=Hi.out;omega
    have HLN:Hid (l.length≤s.length):=hid (by have:=Hi.out;omega)
    rw[ahP,hml]at ho
    have hconv:=Xj ho
    rw[←hml]at hconv
    have HB:=hid hb
    have hfin:=hI.fin (by omega) hm
    have hiz:(i:Int)≤90000:=by have:=HS.out;omega
    by_cases h0:s=[]
    ·subst h0
     clear hI ho hb hml HX hfin
     go_wp2
     go_ret2
     exact⟨l,rfl,(fun z hz=>by cases hz),HLN.out,HB.out⟩
    ·have hun:=kf h0 H45.out
     have HU:=hid (hun.trans hfin)
     have hE:s.isEmpty=false:=by cases s with
      |nil=>exact absurd rfl h0
      |cons=>rfl
     clear hI ho hb hml HX hfin hun h0 hm hgg hs
     by_cases h2:s.length%2=0
     ·have HE:Hid (xr s=some l):=hid (by rw[HU.out];exact if_pos h2)
      have h4:(((s.length:Int)%2)==0)=true:=by rw[beq_iff_eq];omega
      clear h2
      go_wp2
      go_ret2
      exact⟨l,by rw[HE.out];rfl,(fun z hz=>by rw[HE.out]at hz;injection hz),HLN.out,HB.out⟩
     ·have HE:Hid (xr s=none):=hid (by rw[HU.out];exact if_neg h2)
      have h4:(((s.length:Int)%2)==0)=false:=by rw[beq_eq_false_iff_ne];omega
      clear h2
      go_wp2
      go_ret2
      exact⟨l,by rw[HE.out];rfl,(fun z hz=>by rw[HE.out]at hz;cases hz),HLN.out,HB.out⟩
def kE (c:UInt8):Int:=match xu c with
 |some x=>x
 |none=> -1
theorem Ji (c:UInt8) (W:World):Calls Tryz.prog 100 #[.int .u8 c.toNat] W fun e w'=>e= .returned (.int .i64 (kE c))∧W=w':=by
 have h256:=c.toNat_lt
 obtain⟨z,hz⟩: ∃z,z=kE c:=⟨_,rfl⟩
 rw[←hz]
 unfold kE xu at hz
 by_cases c1:48≤c.toNat∧c.toNat≤57
 ·rw[if_pos c1]at hz
  obtain⟨c1,c2⟩:=c1
  have HZ:Hid (z=(c.toNat:Int) -48):=hid (by rw[hz];simp only[];omega)
  have d1:(48:Int)≤(c.toNat:Int):=by omega
  have d2:(c.toNat:Int)≤57:=by omega
  clear hz c1 c2
  go_enter Tryz.func100,Tryz.ntmps100
  go_wp2
  go_ret
  exact⟨by rw[HZ.out];rfl,rfl⟩
 ·rw[if_neg c1]at hz
  by_cases c2:97≤c.toNat∧c.toNat≤102
  ·rw[if_pos c2]at hz
   obtain⟨c3,c4⟩:=c2
   have HZ:Hid (z=(c.toNat:Int) -87):=hid (by rw[hz];simp only[];omega)
   have d1: ¬(c.toNat:Int)≤57:=by omega
   have d0:(48:Int)≤(c.toNat:Int):=by omega
   have d3:(97:Int)≤(c.toNat:Int):=by omega
   have d2:(c.toNat:Int)≤102:=by omega
   clear hz c1 c3 c4
   go_enter Tryz.func100,Tryz.ntmps100
   go_wp2
   go_ret
   exact⟨by rw[HZ.out];rfl,rfl⟩
  ·rw[if_neg c2]at hz
   have HZ:Hid (z= -1):=hid hz
   have hcs:((48:Int)≤(c.toNat:Int)∧(97:Int)≤(c.toNat:Int)∧ ¬(c.toNat:Int)≤57∧ ¬(c.toNat:Int)≤102)∨((48:Int)≤(c.toNat:Int)∧ ¬(97:Int)≤(c.toNat:Int)∧ ¬(c.toNat:Int)≤57)∨(¬(48:Int)≤(c.toNat:Int)∧ ¬(97:Int)≤(c.toNat:Int)):=by omega
   clear hz c1 c2
   rcases hcs with⟨d1,d2,d3,d4⟩ | ⟨d1,d2,d3⟩ | ⟨d1,d2⟩
   all_goals
    go_enter Tryz.func100,Tryz.ntmps100
    go_wp2
    go_ret
    exact⟨by rw[HZ.out];rfl,rfl⟩
end
section
open Go.RowKit Go.Lib
theorem aau {c:UInt8} :kE c<16∧ -1≤kE c:=by
 unfold kE
 cases h:xu c with
 |none=>decide
 |some x=>have:=X9 h;simp only[];omega
theorem Jo {c:UInt8} (h:kE c<0):xu c=none:=by
 unfold kE at h
 cases h2:xu c with
 |none=>rfl
 |some x=>rw[h2]at h;simp only[]at h;omega
theorem Xd {c:UInt8} (h: ¬kE c<0): ∃x:Nat,xu c=some x∧kE c=x:=by
 unfold kE at h⊢
 cases h2:xu c with
 |none=>rw[h2]at h;simp at h
 |some x=>exact⟨x,rfl,rfl⟩
theorem Xk: ∀s:Bs,¬s.length%2=0→qs s=none
 | [],h=>absurd rfl h
 | [_],_=>rfl
 |a::b::r,h=>by
  have:=Xk r (by simp at h⊢;omega)
  rw[qs,this]
  cases xu a<;>cases xu b<;>rfl
theorem abZ (s:Bs) (hs:s.length≤90000) (W:World):Calls Tryz.prog 53 #[.string (S s)] W (UnP W s):=by
 by_cases h45:s=[45]
 ·subst h45
  go_enter Tryz.func53,Tryz.ntmps53
  go_wp2
  go_ret2
  exact⟨[],rfl,(fun z hz=>by injection hz),Nat.zero_le _,Below.refl _ _⟩
 ·have hS45:(s==[45])=false:=by simpa using h45
  by_cases h0:s=[]
  ·subst h0
   go_enter Tryz.func53,Tryz.ntmps53
   go_wp2
   go_ret2
   exact⟨[],rfl,(fun z hz=>by cases hz),Nat.zero_le _,Below.refl _ _⟩
  ·have hE:s.isEmpty=false:=by cases s with
    |nil=>exact absurd rfl h0
    |cons=>rfl
   have h5:((s.length:Int)==0)=false:=by
    rw[beq_eq_false_iff_ne]
    intro h
    exact h0 (List.eq_nil_of_length_eq_zero (by omega))
   have hun:=kf h0 h45
   have HUN:=hid hun
   have H45:=hid h45
   have HS:=hid hs
   have HI0:Hid (UhI s 0 []∧W.ownsRow W.heap.size 5 1 (.slice none 0 0) 0 (yv u8C [])∧Below W.heap.size W W):=hid ⟨⟨by simp,rfl⟩,qI _ _ _ _,Below.refl _ _⟩
   clear h45 h0 hun
   by_cases h2:s.length%2=0
   ·have h4:(((s.length:Int)%2) != 0)=false:=by
     have:(s.length:Int)%2=0:=by omega
     rw[this];rfl
    have H2:=hid h2
    clear h2
    go_enter Tryz.func53,Tryz.ntmps53
    go_wp2
    go_loopg [4,5] s.length (fun gg s4 s5 wr=> ∃(i m:Nat) (p:Option Addr) (c:Nat),i≤s.length∧s.length-i≤gg∧s4= .slice p m c∧s5= .int .i64 i∧Hid (i=2*m)∧Hid (∃l,UhI s i l∧wr.ownsRow W.heap.size 5 1 (.slice p m c) m (yv u8C l)∧Below W.heap.size W wr))
    case atStart=>exact⟨0,0,none,0,by omega,by omega,rfl,rfl,hid rfl,hid ⟨[],HI0.out⟩⟩
    case round=>
     obtain⟨i,m,p,c,hm,hgg,rfl,rfl,Hi,HI⟩:=hrel
     obtain⟨l,hI,ho,hb⟩:=HI.out
     have HX:=hid (⟨hI,ho,hb⟩:_∧_∧_)
     clear hI ho hb HI
     by_cases hj0:i<s.length
     ·have hj:i+1<s.length:=by have:=Hi.out;have:=H2.out;omega
      have hji0:(i:Int)<(s.length:Int):=by omega
      have hji:(i:Int)+1<(s.length:Int):=by omega
      obtain⟨a,ha⟩: ∃a,s[i]=a:=⟨_,rfl⟩
      obtain⟨b,hb⟩: ∃b,s[i+1]=b:=⟨_,rfl⟩
      have HA:Hid (s[i]? =some a∧s[i+1]? =some b):=hid ⟨by rw[←ha];exact List.getElem?_eq_getElem hj0,by rw[←hb];exact List.getElem?_eq_getElem hj⟩
      have hb2:(S s)[i+1]'(by rw[ja];exact hj)=b:=by rw[←hb];show s.toArray[i+1]=_;simp
      have ha2:(S s)[i]'(by rw[ja];exact hj0)=a:=by rw[←ha];show s.toArray[i]=_;simp
      have hiz:(i:Int)≤90000:=by have:=HS.out;omega
      obtain⟨x,hx⟩: ∃x,x=kE a:=⟨_,rfl⟩
      obtain⟨y,hy⟩: ∃y,y=kE b:=⟨_,rfl⟩
      have HFA:Hid (Calls Tryz.prog 100 #[.int .u8 a.toNat] wr fun e w'=>e= .returned (.int .i64 x)∧wr=w'):=hid (by rw[hx];exact Ji a wr)
      have HFB:Hid (Calls Tryz.prog 100 #[.int .u8 b.toNat] wr fun e w'=>e= .returned (.int .i64 y)∧wr=w'):=hid (by rw[hy];exact Ji b wr)
      have HO:=hid (⟨hx,hy⟩:_∧_)
      have HJ:=hid hj
      have hxb:x<16∧ -1≤x:=by rw[hx];exact aau
      have hyb:y<16∧ -1≤y:=by rw[hy];exact aau
      obtain⟨hx16,hx1⟩:=hxb
      obtain⟨hy16,hy1⟩:=hyb
      clear hx hy
      by_cases hx0:x<0
      ·have HN:Hid (xr s=none):=hid (by rw[HUN.out];exact HX.out.1.no HA.out.1 HA.out.2 (.inl (Jo (by rw[←HO.out.1];exact hx0))))
       have HB:=hid HX.out.2.2
       go_wp2_with fail
       (with_reducible refine HFA.out.mono ?_)
       rintro r w2 ⟨rfl,rfl⟩
       go_wp2_with fail
       (with_reducible refine HFB.out.mono ?_)
       rintro r w2 ⟨rfl,rfl⟩
       go_wp2
       go_ret2
       exact⟨[],by rw[HN.out];rfl,(fun z hz=>by rw[HN.out]at hz;cases hz),Nat.zero_le _,HB.out⟩
      ·by_cases hy0:y<0
       ·have HN:Hid (xr s=none):=hid (by rw[HUN.out];exact HX.out.1.no HA.out.1 HA.out.2 (.inr (Jo (by rw[←HO.out.2];exact hy0))))
        have HB:=hid HX.out.2.2
        go_wp2_with fail
        (with_reducible refine HFA.out.mono ?_)
        rintro r w2 ⟨rfl,rfl⟩
        go_wp2_with fail
        (with_reducible refine HFB.out.mono ?_)
        rintro r w2 ⟨rfl,rfl⟩
        go_wp2
        go_ret2
        exact⟨[],by rw[HN.out];rfl,(fun z hz=>by rw[HN.out]at hz;cases hz),Nat.zero_le _,HB.out⟩
       ·obtain⟨x',hxo,hxx⟩:=Xd (c:=a) (by rw[←HO.out.1];exact hx0)
        obtain⟨y',hyo,hyy⟩:=Xd (c:=b) (by rw[←HO.out.2];exact hy0)
        have HF:=hid (HX.out.1.on HA.out.1 HA.out.2 hxo hyo)
        obtain⟨q,hq⟩: ∃q,q=UInt8.ofNat (16*x'+y'):=⟨_,rfl⟩
        have hor:16*x+y=(q.toNat:Int):=by
         have h1:x=x':=by rw[HO.out.1,hxx]
         have h2:y=y':=by rw[HO.out.2,hyy]
         rw[hq,h1,h2]
         simp
         omega
        rw[←hq]at HF
        clear hq hxo hyo hxx hyy
        go_wp2_with fail
        (with_reducible refine HFA.out.mono ?_)
        rintro r w2 ⟨rfl,rfl⟩
        go_wp2_with fail
        (with_reducible refine HFB.out.mono ?_)
        rintro r w2 ⟨rfl,rfl⟩
        go_wp2_with (with_reducible refine yd .append rfl ?_)
        with_reducible refine ki ?_
        refine zO rfl _ _ 73 rfl u8C aMt Tryz.underlying73 rfl (by decide) (by decide) aie aif q HX.out.2.1 (by have:=Hi.out;omega) HX.out.2.2.size rfl rfl ?_
        intro v3 w3 ho3 hk3 _
        obtain⟨p3,c3,rfl⟩:=zm ho3
        have HF3:Hid (∃l,UhI s (i+2) l∧w3.ownsRow W.heap.size 5 1 (.slice p3 (m+1) c3) (m+1) (yv u8C l)∧Below W.heap.size W w3):=hid ⟨_,HF.out,ho3,HX.out.2.2.trans (hk3.to_below HX.out.2.2.size fun x hx=>(HX.out.2.1.lt x (Option.mem_toList.1 hx)).1)⟩
        clear ho3 hk3 hor
        go_wp2
        go_roundg (s.length- (i+2))
        case measure=>omega
        case rel=>exact⟨i+2,m+1,p3,c3,by have:=HJ.out;omega,by omega,rfl,by go_num,hid (by rw[Hi.out];omega),HF3⟩
     ·have hji: ¬(i:Int)<(s.length:Int):=by omega
      obtain⟨hI,ho,hb⟩:=HX.out
      have hml:m=l.length:=by have:=hI.len;have:=Hi.out;omega
      have HLN:Hid (l.length≤s.length):=hid (by have:=Hi.out;omega)
      rw[ahP,hml]at ho
      have hconv:=Xj ho
      rw[←hml]at hconv
      have HB:=hid hb
      have hfin:=hI.fin (by omega) hm
      rw[if_pos H2.out]at hfin
      have HE:=hid (HUN.out.trans hfin)
      have hiz:(i:Int)≤90000:=by have:=HS.out;omega
      clear hI ho hb hml HX hfin
      go_wp2
      go_ret2
      exact⟨l,by rw[HE.out];rfl,(fun z hz=>by rw[HE.out]at hz;injection hz),HLN.out,HB.out⟩
   ·have h4:(((s.length:Int)%2) != 0)=true:=by
     have:(s.length:Int)%2=1:=by omega
     rw[this];rfl
    obtain⟨l,hI,ho,hb⟩: ∃l:Bs,True∧True∧True:=⟨[],trivial,trivial,trivial⟩
    have HN:Hid (xr s=none):=hid (by
     rw[HUN.out]
     have:=Xk s
     exact this h2)
    clear h2 hI ho hb
    go_enter Tryz.func53,Tryz.ntmps53
    go_wp2
    go_ret2
    exact⟨[],by rw[HN.out];rfl,(fun z hz=>by rw[HN.out]at hz;cases hz),Nat.zero_le _,Below.refl _ _⟩
end
end Go.Proofs.YtcdiljebkpikbaaGreat
