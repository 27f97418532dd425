/- Parts of the proof: Sdc Sdd Sdg Sdk Sdl Sdm Sce Sck Sdi Sep. -/
import Derived.OwnWalk
import Derived.Laws.BitsAllLaws
import Derived.Laws.RangeAny
import Derived.Lib.OthersKept
import Derived.Lib.AppendStr
import Derived.Deep.LoopGhost
import Derived.Deep.Cut
import Derived.Deep.CutRange
import Derived.Deep.CutBlock
import Derived.Test.YtcdiljebkpikbaaGreatW31
set_option linter.all false
set_option maxRecDepth 100000
set_option maxHeartbeats 64000000
namespace Go.Proofs.YtcdiljebkpikbaaGreat
section
open Go.RowKit Go.Lib
theorem aaM (w:World) (b:UInt8):(convert 73 9 (.slice (some ⟨w.heap.size,0,none⟩) 1 1)).run Tryz.prog (w.alloc (.cells #[.int .u8 b.toNat] 5))= .ok (.string (S [b])) (w.alloc (.cells #[.int .u8 b.toNat] 5)):=by
 have hB:=Blk.new w 5 #[.int .u8 b.toNat]
 refine run_convert_bytes_back _ 73 9 5 ⟨w.heap.size,0,none⟩ 1 [b] Tryz.underlying73 Tryz.underlying5 Tryz.underlying9 fun j hj=>?_
 obtain rfl:j=0:=by simp at hj;omega
 exact hB.cell 0
theorem aUU {w:World} {g:Nat} {b:UInt8} (hB:Blk w g 5 #[.int .u8 b.toNat]):(convert 73 9 (.slice (some ⟨g,0,none⟩) 1 1)).run Tryz.prog w= .ok (.string (S [b])) w:=by
 refine run_convert_bytes_back _ 73 9 5 ⟨g,0,none⟩ 1 [b] Tryz.underlying73 Tryz.underlying5 Tryz.underlying9 fun j hj=>?_
 obtain rfl:j=0:=by simp at hj;omega
 exact hB.cell 0
def DgP (W:World) (b:Bs) (e:Ending) (w':World):Prop:=e= .returned (.string (S b))∧Below W.heap.size W w'
theorem X4 (n:Nat) (h:n<9223372036854775808):(Zl n).length≤100:=by
 have: ∀k m,m<10^k→(Zl m).length≤k+1:=by
  intro k
  induction k with
  |zero=>intro m hm;rw[V8 (by omega)];simp
  | succ k ih=>
   intro m hm
   by_cases h:m<10
   ·rw[V8 h];simp
   ·rw[agw h,List.length_append]
    have:=ih (m / 10) (by rw[Nat.pow_succ]at hm;omega)
    simp;omega
 have:=this 19 n (Nat.lt_of_lt_of_le h (by decide))
 omega
theorem aVr (n:Nat) (h:n<10):(UInt8.ofNat (48+n)).toNat=48+n:=by simp;omega
theorem aS5 (n:Nat): ∀(hn:n<9223372036854775808) (W:World),Calls Tryz.prog 32 #[.int .i64 n] W (DgP W (Zl n)):=by
 induction n using Nat.strongRecOn with
 | _ n ih=>
  intro hn W
  have t1: ¬((n:Int)= -9223372036854775808):=by omega
  have t2: ¬(n:Int)<0:=by omega
  by_cases h:n<10
  ·have t3:(n:Int)<10:=by omega
   obtain⟨b,hb⟩: ∃b,b=UInt8.ofNat (48+n):=⟨_,rfl⟩
   have hv:(48+(n:Int))=(b.toNat:Int):=by rw[hb,aVr n h];omega
   have hc:=aaM W b
   rw[←hv]at hc
   rw[V8 h,←hb]
   have HF:Hid (Below W.heap.size W (W.alloc (.cells #[.int .u8 (48+(n:Int))] 5))):=hid ((Below.refl _ W).alloc (Nat.le_refl _) _)
   clear ih hv hb
   go_enter Tryz.func32,Tryz.ntmps32
   go_wp2
   go_ret
   exact⟨rfl,HF.out⟩
  ·have t3: ¬(n:Int)<10:=by omega
   obtain⟨b,hb⟩: ∃b,b=UInt8.ofNat (48+n%10):=⟨_,rfl⟩
   obtain⟨q,hq⟩: ∃q,q=n / 10:=⟨_,rfl⟩
   have hv:(b.toNat:Int)=48+(n:Int)%10:=by rw[hb,aVr _ (by omega)];omega
   have h1:IntKind.i64.wrap ((n:Int) / 10)=(q:Int):=by rw[IntKind.wrap_i64,hq];omega
   have h2:IntKind.u8.wrap (IntKind.i64.wrap (48+(n:Int).tmod 10))=(b.toNat:Int):=by
    rw[hv,IntKind.wrap_i64]
    rw[IntKind.wrap_u8]
    have:(n:Int).tmod 10=((n%10:Nat):Int):=by rw[Int.tmod_eq_emod_of_nonneg (by omega)];omega
    rw[this]
    omega
   have HI:=hid (fun W'=>ih q (by omega) (by omega) W')
   have hlen: ¬9223372036854775807<(Zl q).length+1:=by have:=X4 q (by omega);omega
   rw[agw h,←hb,←hq]
   have H1:=hid h1
   have H2:=hid h2
   have HLN:=hid hlen
   clear ih hb hq hv h1 h2 hlen
   go_enter Tryz.func32,Tryz.ntmps32
   go_wp2
   refine zB (fun _=>True) 10 (by kernel_rfl) trivial (fun hHeld=>?_)
   refine eT 0 hHeld ?_;(try simp only[Act.put,sEa,sEb,sEc]);refine eT 1 hHeld ?_;(try simp only[Act.put,sEa,sEb,sEc]);refine eT 3 hHeld ?_;(try simp only[Act.put,sEa,sEb,sEc]);refine eT 4 hHeld ?_;(try simp only[Act.put,sEa,sEb,sEc]);refine eT 5 hHeld ?_;(try simp only[Act.put,sEa,sEb,sEc]);refine eT 6 hHeld ?_;(try simp only[Act.put,sEa,sEb,sEc])
   rw[H1.out,H2.out]
   refine eR2 (i:=2) (j:=7) (by(simp only[gEa,gEb,gEc];try rfl)) (by(simp only[gEa,gEb,gEc];try rfl)) (by kernel_rfl) (by rfl) (fun K hK=>?_) (fun K hK=>?_)
   ·go_simp
    (with_reducible refine(HI.out _).mono ?_)
    rintro r w2 ⟨rfl,hb2⟩
    have HF:Hid (Below W.heap.size W (w2.alloc (.cells #[.int .u8 b.toNat] 5))):=hid (((Z0 (Below.refl _ W) 1).trans hb2).alloc hb2.size _)
    have HC:=hid (aUU (Blk.new w2 5 #[.int .u8 b.toNat]))
    clear hb2
    refine hK.out _ _ trivial (fun hHeld=>?_)
    clear hK K
    (try simp only[Act.put,sEa,sEb,sEc])
    refine eR 7 (fun K hK=>?_);go_simp;refine hK.out _ _ (by trivial) (fun hHeld=>?_);clear hK K;(try simp only[Act.put,sEa,sEb,sEc])
    have hc:=HC.out
    refine eR 8 (fun K hK=>?_);go_simp;refine hK.out _ _ (by trivial) (fun hHeld=>?_);clear hK K;(try simp only[Act.put,sEa,sEb,sEc])
    have hlen:=HLN.out
    refine eT 9 hHeld ?_;(try simp only[Act.put,sEa,sEb,sEc]);refine eL (fun K hK=>?_);go_simp;refine hK.out _ _ ?_;clear hK K;(try simp only[Act.put,sEa,sEb,sEc])
    go_wp2
    go_ret
    exact⟨rfl,HF.out⟩
   ·go_simp
    have HB:Hid (Blk (W.alloc (.cells #[.int .u8 b.toNat] 5)).drew W.heap.size 5 #[.int .u8 b.toNat]∧Below W.heap.size W (W.alloc (.cells #[.int .u8 b.toNat] 5)).drew):=hid ⟨Blk.new _ _ _,Z0 ((Below.refl _ W).alloc (Nat.le_refl _) _) 1⟩
    refine hK.out _ _ trivial (fun hHeld=>?_)
    clear hK K
    (try simp only[Act.put,sEa,sEb,sEc])
    refine eR2 (i:=2) (j:=8) (by(simp only[gEa,gEb,gEc];try rfl)) (by(simp only[gEa,gEb,gEc];try rfl)) (by kernel_rfl) (by rfl) (fun K hK=>?_) (fun K hK=>?_)
    ·go_simp
     (with_reducible refine(HI.out _).mono ?_)
     rintro r w2 ⟨rfl,hb2⟩
     have HF:Hid (Below W.heap.size W w2):=hid (HB.out.2.trans (hb2.mono HB.out.2.size))
     have HC:=hid (aUU (HB.out.1.below hb2 HB.out.1.lt))
     clear hb2
     refine hK.out _ _ trivial (fun hHeld=>?_)
     clear hK K
     (try simp only[Act.put,sEa,sEb,sEc])
     have hc:=HC.out
     refine eR 8 (fun K hK=>?_);go_simp;refine hK.out _ _ (by trivial) (fun hHeld=>?_);clear hK K;(try simp only[Act.put,sEa,sEb,sEc])
     have hlen:=HLN.out
     refine eT 9 hHeld ?_;(try simp only[Act.put,sEa,sEb,sEc]);refine eL (fun K hK=>?_);go_simp;refine hK.out _ _ ?_;clear hK K;(try simp only[Act.put,sEa,sEb,sEc])
     go_wp2
     go_ret
     exact⟨rfl,HF.out⟩
    ·have hc:=aUU HB.out.1
     go_simp
     refine hK.out _ _ trivial (fun hHeld=>?_)
     clear hK K
     (try simp only[Act.put,sEa,sEb,sEc])
     refine eR 2 (fun K hK=>?_)
     go_simp
     (with_reducible refine(HI.out _).mono ?_)
     rintro r w2 ⟨rfl,hb2⟩
     have HF:Hid (Below W.heap.size W w2):=hid (HB.out.2.trans (hb2.mono HB.out.2.size))
     clear hb2 hc
     refine hK.out _ _ trivial (fun hHeld=>?_)
     clear hK K
     (try simp only[Act.put,sEa,sEb,sEc])
     have hlen:=HLN.out
     refine eT 9 hHeld ?_;(try simp only[Act.put,sEa,sEb,sEc]);refine eL (fun K hK=>?_);go_simp;refine hK.out _ _ ?_;clear hK K;(try simp only[Act.put,sEa,sEb,sEc])
     go_wp2
     go_ret
     exact⟨rfl,HF.out⟩
theorem aiN:Zl 9223372036854775808=[57,50,50,51,51,55,50,48,51,54,56,53,52,55,55,53,56,48,56]:=by simp[Zl]
theorem aR0:({ data:= #[45,57,50,50,51,51,55,50,48,51,54,56,53,52,55,55,53,56,48,56] } :ByteArray)=S (Xb (-9223372036854775808)):=by
 unfold Xb
 rw[if_pos (by decide),show(-(-9223372036854775808:Int)).toNat=9223372036854775808 by decide,aiN]
 rfl
theorem kb {x:Int} (hx:okZ x) (W:World):Calls Tryz.prog 32 #[.int .i64 x] W (DgP W (Xb x)):=by
 by_cases hm:x= -9223372036854775808
 ·subst hm
  have HE:=hid aR0
  go_enter Tryz.func32,Tryz.ntmps32
  go_wp2
  go_ret
  exact⟨by rw[←HE.out];rfl,Below.refl _ _⟩
 ·by_cases hn:x<0
  ·obtain⟨q,hq⟩: ∃q,q=(-x).toNat:=⟨_,rfl⟩
   have hqx: -x=(q:Int):=by rw[hq];omega
   have hq2:q<9223372036854775808:=by unfold okZ at hx;omega
   have HI:=hid (fun W'=>aS5 q hq2 W')
   have hlen: ¬9223372036854775807<1+(Zl q).length:=by have:=X4 q hq2;omega
   have hw:wrap64 (q:Int)=(q:Int):=by unfold wrap64;omega
   have HE:Hid (Xb x=45::Zl q):=hid (by unfold Xb;rw[if_pos hn,hq])
   rw[HE.out]
   have HX:=hid hx
   clear hq hq2 hx
   go_enter Tryz.func32,Tryz.ntmps32
   go_wp2_with fail
   (with_reducible refine(HI.out _).mono ?_)
   rintro r w2 ⟨rfl,hb2⟩
   have HB:=hid hb2
   clear hb2
   go_wp2
   go_ret
   exact⟨rfl,HB.out⟩
  ·have e:x=((x.toNat:Nat):Int):=by omega
   have HE:Xb x=Zl x.toNat:=by unfold Xb;rw[if_neg hn]
   rw[HE,e]
   exact aS5 _ (by unfold okZ at hx;omega) W
theorem Yw (N:Nat) (hN:N<9223372036854775808) (W:World):Calls Tryz.prog 37 #[.int .i64 N] W (DgP W (Zl N)):=by
 have t1: ¬((N:Int)= -9223372036854775808):=by omega
 have t2: ¬(N:Int)<0:=by omega
 have hv: ∀n:Nat,((UInt8.ofNat (48+n%10)).toNat:Int)=48+(n:Int)%10:=fun n=>by rw[aVr _ (by omega)];omega
 have HL:=hid (X4 N hN)
 have HN:=hid hN
 obtain⟨b,hb⟩: ∃b,b=UInt8.ofNat (48+N%10):=⟨_,rfl⟩
 have hc:=aaM W b
 have hv0:=hv N
 rw[←hb]at hv0
 have HV:=hid hv
 have HB:Hid (∃suf,Zl N=Zl N++suf∧[b]=UInt8.ofNat (48+N%10)::suf):=hid ⟨[],by simp,by rw[hb]⟩
 rw[hv0]at hc
 have HF:Hid (Below W.heap.size W (W.alloc (.cells #[.int .u8 (48+(N:Int)%10)] 5))):=hid ((Below.refl _ W).alloc (Nat.le_refl _) _)
 clear hv hN hb hv0
 go_enter Tryz.func37,Tryz.ntmps37
 go_wp2
 clear hc
 go_loopg [0,3] N (fun gg s0 s3 wr=> ∃(n:Nat) (o:Bs),n≤gg∧n≤N∧s0= .int .i64 n∧s3= .string (S o)∧Hid (∃suf,Zl N=Zl n++suf∧o=UInt8.ofNat (48+n%10)::suf)∧Hid (Below W.heap.size W wr))
 case atStart=>exact⟨N,[b],by omega,by omega,rfl,rfl,HB,HF⟩
 case round=>
  obtain⟨n,o,hgg,hnN,rfl,rfl,HI,HW⟩:=hrel
  by_cases h9:(9:Int)<(n:Int)
  ·obtain⟨q,hq⟩: ∃q,q=n / 10:=⟨_,rfl⟩
   obtain⟨c,hcc⟩: ∃c,c=UInt8.ofNat (48+q%10):=⟨_,rfl⟩
   have hc:=aaM wr c
   have hv1:=HV.out q
   rw[←hcc]at hv1
   rw[hv1]at hc
   have hqn:(n:Int) / 10=(q:Int):=by omega
   have g1:wrap64 (q:Int)=(q:Int):=by have:=HN.out;unfold wrap64;omega
   have g2:(q:Int).tmod 10=(q:Int)%10:=Int.tmod_eq_emod_of_nonneg (by omega)
   have g3:wrap64 (48+(q:Int)%10)=48+(q:Int)%10:=by unfold wrap64;omega
   have g4:(48+(q:Int)%10)%256=48+(q:Int)%10:=by omega
   have hlen: ¬9223372036854775807<1+o.length:=by
    obtain⟨suf,e1,e2⟩:=HI.out
    have:=HL.out
    rw[e1,List.length_append]at this
    rw[e2,List.length_cons]
    omega
   have HF2:Hid (∃suf,Zl N=Zl q++suf∧c::o=UInt8.ofNat (48+q%10)::suf):=hid (by
    obtain⟨suf,e1,e2⟩:=HI.out
    refine⟨o,?_,by rw[hcc]⟩
    rw[e1,agw (n:=n) (by omega),←hq,e2]
    simp)
   have HW2:Hid (Below W.heap.size W (wr.alloc (.cells #[.int .u8 (48+(q:Int)%10)] 5))):=hid (HW.out.alloc HW.out.size _)
   have HQ:Hid (q<n∧q≤N):=hid (by omega)
   clear hq hcc hv1
   go_wp2
   go_roundg q
   case measure=>have:=HQ.out;omega
   case rel=>exact⟨q,c::o,by omega,HQ.out.2,by go_num,rfl,HF2,HW2⟩
  ·have HE:Hid (o=Zl N):=hid (by
    obtain⟨suf,e1,e2⟩:=HI.out
    rw[e1,e2,V8 (n:=n) (by omega),Nat.mod_eq_of_lt (by omega)]
    rfl)
   go_wp2
   go_ret
   exact⟨by rw[←HE.out];rfl,HW.out⟩
theorem vl {x:Int} (hx:okZ x) (W:World):Calls Tryz.prog 37 #[.int .i64 x] W (DgP W (Xb x)):=by
 by_cases hm:x= -9223372036854775808
 ·subst hm
  have HE:=hid aR0
  go_enter Tryz.func37,Tryz.ntmps37
  go_wp2
  go_ret
  exact⟨by rw[←HE.out];rfl,Below.refl _ _⟩
 ·by_cases hn:x<0
  ·obtain⟨q,hq⟩: ∃q,q=(-x).toNat:=⟨_,rfl⟩
   have hqx: -x=(q:Int):=by rw[hq];omega
   have hq2:q<9223372036854775808:=by unfold okZ at hx;omega
   have HI:=hid (fun W'=>Yw q hq2 W')
   have hlen: ¬9223372036854775807<1+(Zl q).length:=by have:=X4 q hq2;omega
   have hw:wrap64 (q:Int)=(q:Int):=by unfold wrap64;omega
   have HE:Hid (Xb x=45::Zl q):=hid (by unfold Xb;rw[if_pos hn,hq])
   rw[HE.out]
   have HX:=hid hx
   clear hq hq2 hx
   go_enter Tryz.func37,Tryz.ntmps37
   go_wp2_with fail
   (with_reducible refine(HI.out _).mono ?_)
   rintro r w2 ⟨rfl,hb2⟩
   have HB:=hid hb2
   clear hb2
   go_wp2
   go_ret
   exact⟨rfl,HB.out⟩
  ·have e:x=((x.toNat:Nat):Int):=by omega
   have HE:Xb x=Zl x.toNat:=by unfold Xb;rw[if_neg hn]
   rw[HE,e]
   exact Yw _ (by unfold okZ at hx;omega) W
/-! words, halves of bytes -/
end
section
open Go.RowKit Go.Lib
def u8C (b:UInt8):List Value:=[.int .u8 b.toNat]
theorem aie (b:UInt8):(u8C b).length=1:=rfl
theorem aif (b:UInt8): ∀u∈u8C b,u.oneCell'=true:=by intro u hu;simp[u8C]at hu;rw[hu];rfl
theorem ahP (l:Bs):yv u8C l=cB l:=by
 induction l with
 |nil=>rfl
 |cons b l ih=>rw[jw,ih];rfl
theorem aMt:(Tryz.prog.info? 5).map (fun i=>(i.zero,i.size,i.bytes))=some (some (.int .u8 0),1,1):=by kernel_rfl
theorem aVn {w:World} {g:Nat} {T:TypeId} {l:Bs} (h:Blk w g T (cB l).toArray):Vw 1 u8C w (.slice (some ⟨g,0,none⟩) l.length l.length) l:=by
 refine⟨_,_,rfl,Nat.le_refl _,?_⟩
 by_cases h0:l=[]
 ·exact .inl h0
 ·refine .inr ⟨g,0,rfl,h.lt,fun i x hx q u hu=>?_⟩
  obtain⟨rfl,rfl⟩:q=0∧u= .int .u8 x.toNat:=by
   cases q with
   |zero=>simp[u8C]at hu;exact⟨rfl,hu.symm⟩
   |succ q=>simp[u8C]at hu
  rw[h.cell,Nat.zero_add,Nat.mul_one,Nat.add_zero,List.getElem?_toArray]
  simp[cB,hx]
theorem aTm {l:Bs} {j:Nat} {b:UInt8} (h:l[j]? =some b):aSY (l.take (j+1))=aSY (l.take j)++[aSy (b.toNat / 16),aSy (b.toNat%16)]:=by
 rw[List.take_add_one,h]
 unfold aSY
 simp
theorem aTc (l:Bs):(aSY l).length=2*l.length:=by
 induction l with
 |nil=>rfl
 |cons b l ih=>rw[aTV];simp[ih];omega
def aVp:Bs:=[48,49,50,51,52,53,54,55,56,57,97,98,99,100,101,102]
theorem aUK:({ data:= #[48,49,50,51,52,53,54,55,56,57,97,98,99,100,101,102] } :ByteArray)=S aVp:=rfl
theorem aTW: ∀n,n<16→aVp.getD n 0=aSy n:=by decide
theorem aTX (w:World) (n:Nat) (h:n<16):(Instr.index 9 (.string { data:= #[48,49,50,51,52,53,54,55,56,57,97,98,99,100,101,102] }) (.int .u8 (n:Int))).run Tryz.prog w= .ok (.int .u8 ((aSy n).toNat:Int)) w:=by
 rw[aUK,aBX w 9 aVp .u8 (n:Int) Tryz.underlying9 (by omega) (by show(n:Int)<16;omega),←aTW n h]
 simp
theorem aUW (s:Bs) (hs:s.length≤45000) (W:World):Calls Tryz.prog 33 #[.string (S s)] W (DgP W (aTr s)):=by
 by_cases h0:s=[]
 ·subst h0
  go_enter Tryz.func33,Tryz.ntmps33
  go_wp2
  go_ret
  exact⟨rfl,Below.refl _ _⟩
 ·have hS:s.isEmpty=false:=by cases s with
   |nil=>exact absurd rfl h0
   |cons=>rfl
  have HE:Hid (aTr s=aSY s):=hid (by unfold aTr;rw[if_neg h0])
  obtain⟨i0,hi,hz0,hz1,hz2⟩:=info_parts aMt
  obtain⟨n,hn⟩: ∃n,n=s.length:=⟨_,rfl⟩
  have HN:=hid hn
  have HS:=hid hs
  rw[HE.out]
  clear h0 hn
  go_enter Tryz.func33,Tryz.ntmps33
  go_wp2_with (refine wpList_make_own _ rfl _ _ 73 rfl W.heap.size 5 i0 (.int .u8 0) 1 Tryz.underlying73 hi hz0 hz1 .i64 .i64 (2*(s.length:Int)) (2*s.length) rfl rfl ?c1 ?c2 ?c3 ?c4 ?_)
  case c1=>omega
  case c2=>rw[hz2];omega
  case c3=>unfold maxLen;omega
  case c4=>exact Nat.le_refl _
  intro w1 ho1 hg1
  have HI0:Hid (w1.ownsRow W.heap.size 5 1 (.slice (some ⟨W.heap.size,0,none⟩) 0 (2*s.length)) 0 (yv u8C (aSY (s.take 0)))∧Below W.heap.size W w1):=hid ⟨by simpa[aSY]using ho1,(Below.refl _ W).grown hg1 (Nat.le_refl _) (fun _ h=>by cases h)⟩
  obtain⟨c0,hc0⟩: ∃c,c=2*s.length:=⟨_,rfl⟩
  rw[←hc0]at HI0⊢
  clear ho1 hg1 hc0 hi hz0 hz1 hz2
  go_wp2
  rw[←HN.out]
  go_loopg [3,13] n (fun gg s3 s13 wr=> ∃(j:Nat) (p:Option Addr) (m c:Nat),j≤n∧n-j≤gg∧m=2*j∧s3= .slice p m c∧s13= .int .i64 j∧Hid (wr.ownsRow W.heap.size 5 1 (.slice p m c) m (yv u8C (aSY (s.take j)))∧Below W.heap.size W wr))
  case atStart=>exact⟨0,_,0,c0,by omega,by omega,by omega,rfl,rfl,HI0⟩
  case round=>
   obtain⟨j,p,m,c,hj,hgg,hm,rfl,rfl,HI⟩:=hrel
   by_cases hjn:j<n
   ·have hjs:j<s.length:=by rw[←HN.out];exact hjn
    have hji:(j:Int)<(n:Int):=by omega
    obtain⟨b,hb⟩: ∃b,s[j]=b:=⟨_,rfl⟩
    have HB:Hid (s[j]? =some b):=hid (by rw[←hb];exact List.getElem?_eq_getElem hjs)
    have HJ:=hid (⟨hjn,hm⟩:_∧_)
    have hb256:=b.toNat_lt
    clear hm
    obtain⟨q,hq⟩: ∃q,q=b.toNat / 16:=⟨_,rfl⟩
    obtain⟨r,hr⟩: ∃r,r=b.toNat%16:=⟨_,rfl⟩
    have hq1:(b.toNat:Int) / 16=(q:Int):=by omega
    have hr1:bits .and .u8 (b.toNat:Int) 15=(r:Int):=by
     rw[show(15:Int)=((15:Nat):Int)from rfl,u8_and_nat _ _ hb256 (by decide),hr]
     exact congrArg _ (Nat.and_two_pow_sub_one_eq_mod b.toNat 4)
    have hi1:=fun w=>aTX w q (by omega)
    have hi2:=fun w=>aTX w r (by omega)
    have HX:Hid (aSY (s.take (j+1))=aSY (s.take j)++[aSy q,aSy r]):=hid (by rw[aTm HB.out,hq,hr])
    clear hq hr
    go_wp2
    refine zB (fun _=>True) 13 (by kernel_rfl) trivial (fun hHeld=>?_)
    refine eT 0 hHeld ?_;(try simp only[Act.put,sEa,sEb,sEc]);refine eT 1 hHeld ?_;(try simp only[Act.put,sEa,sEb,sEc]);refine eT 2 hHeld ?_;(try simp only[Act.put,sEa,sEb,sEc]);refine eT 3 hHeld ?_;(try simp only[Act.put,sEa,sEb,sEc]);refine eT 4 hHeld ?_;(try simp only[Act.put,sEa,sEb,sEc]);refine eT 5 hHeld ?_;(try simp only[Act.put,sEa,sEb,sEc]);refine eT 6 hHeld ?_;(try simp only[Act.put,sEa,sEb,sEc]);refine eT 7 hHeld ?_;(try simp only[Act.put,sEa,sEb,sEc]);refine eT 8 hHeld ?_;(try simp only[Act.put,sEa,sEb,sEc]);refine eT 9 hHeld ?_;(try simp only[Act.put,sEa,sEb,sEc]);refine eT 10 hHeld ?_;(try simp only[Act.put,sEa,sEb,sEc])
    clear hq1 hr1 hi1 hi2
    have HO:Hid (Vw 1 u8C (wr.alloc (.cells #[.int .u8 (aSy q).toNat,.int .u8 (aSy r).toNat] 5)).drew (.slice (some ⟨wr.heap.size,0,none⟩) 2 2) [aSy q,aSy r]∧(wr.alloc (.cells #[.int .u8 (aSy q).toNat,.int .u8 (aSy r).toNat] 5)).drew.ownsRow W.heap.size 5 1 (.slice p m c) m (yv u8C (aSY (s.take j)))∧Below W.heap.size W (wr.alloc (.cells #[.int .u8 (aSy q).toNat,.int .u8 (aSy r).toNat] 5)).drew):=hid ⟨aVn (l:=[aSy q,aSy r]) (Blk.new wr _ _).drew,xN HI.out.1 (fun g hg=>(Z0 ((Below.refl _ wr).alloc (Nat.le_refl _) _) 1).block g (HI.out.1.lt g hg).2),HI.out.2.trans (Z0 ((Below.refl _ wr).alloc HI.out.2.size _) 1)⟩
    refine eR 11 (fun K hK=>?_);go_simp;refine hK.out _ _ (by trivial) (fun hHeld=>?_);clear hK K;(try simp only[Act.put,sEa,sEb,sEc])
    refine eR 12 (fun K hK=>?_)
    refine aSX rfl _ _ 73 rfl u8C aMt Tryz.underlying73 rfl (by decide) (by decide) aie aif HO.out.2.1 HO.out.1 (by have:=HS.out;have:=HN.out;have:=HJ.out;simp;omega) HO.out.2.2.size rfl rfl ?_
    intro v3 w3 ho3 hk3
    rw[←HX.out]at ho3
    obtain⟨p3,c3,rfl⟩:=zm ho3
    have HF:Hid (w3.ownsRow W.heap.size 5 1 (.slice p3 (m+2) c3) (m+2) (yv u8C (aSY (s.take (j+1))))∧Below W.heap.size W w3):=hid ⟨ho3,HO.out.2.2.trans (hk3.to_below HO.out.2.2.size fun x hx=>(HO.out.2.1.lt x (Option.mem_toList.1 hx)).1)⟩
    clear ho3 hk3
    refine hK.out _ _ trivial (fun hHeld=>?_)
    clear hK K
    (try simp only[Act.put,sEa,sEb,sEc])
    refine eL (fun K hK=>?_);go_simp;refine hK.out _ _ ?_;clear hK K;(try simp only[Act.put,sEa,sEb,sEc])
    go_wp2
    go_roundg (n- (j+1))
    case measure=>omega
    case rel=>exact⟨j+1,p3,m+2,c3,by have:=HJ.out.1;omega,by omega,by have:=HJ.out.2;omega,rfl,by go_num,HF⟩
   ·have hje:j=n:=by omega
    have hji: ¬(j:Int)<(n:Int):=by omega
    have HF:Hid (Below W.heap.size W wr):=hid HI.out.2
    have ho:=HI.out.1
    rw[hje,HN.out,List.take_length,ahP]at ho
    have hm2:m=(aSY s).length:=by rw[aTc,hm,hje,HN.out]
    rw[hm2]at ho
    have hconv:=Xj ho
    rw[←hm2]at hconv
    clear ho hm2 hm HI
    go_wp2
    go_ret
    exact⟨rfl,HF.out⟩
theorem aTB (w:World) (n:Nat) (h:n<16):(Instr.index 9 (.string { data:= #[48,49,50,51,52,53,54,55,56,57,97,98,99,100,101,102] }) (.int .i64 (n:Int))).run Tryz.prog w= .ok (.int .u8 ((aSy n).toNat:Int)) w:=by
 rw[aUK,aBX w 9 aVp .i64 (n:Int) Tryz.underlying9 (by omega) (by show(n:Int)<16;omega),←aTW n h]
 simp
theorem aUD (s:Bs) (hs:s.length≤45000) (W:World):Calls Tryz.prog 38 #[.string (S s)] W (DgP W (aTr s)):=by
 by_cases h0:s=[]
 ·subst h0
  go_enter Tryz.func38,Tryz.ntmps38
  go_wp2
  go_ret
  exact⟨rfl,Below.refl _ _⟩
 ·have hS:s.isEmpty=false:=by cases s with
   |nil=>exact absurd rfl h0
   |cons=>rfl
  have hl: ¬((s.length:Int)=0):=by
   cases s with
   |nil=>exact absurd rfl h0
   |cons b r=>simp;omega
  have HE:Hid (aTr s=aSY s):=hid (by unfold aTr;rw[if_neg h0])
  obtain⟨n,hn⟩: ∃n,n=s.length:=⟨_,rfl⟩
  have HN:=hid hn
  have HS:=hid hs
  rw[HE.out]
  clear h0 hn
  go_enter Tryz.func38,Tryz.ntmps38
  have HI0:Hid (W.ownsRow W.heap.size 5 1 (.slice none 0 0) 0 (yv u8C (aSY (s.take 0)))∧Below W.heap.size W W):=hid ⟨qI _ _ _ _,Below.refl _ _⟩
  have h8:(((s.length:Nat):Int)==0)=false:=by simpa using hl
  go_wp2
  go_loopg [4,5] n (fun gg s3 s13 wr=> ∃(j:Nat) (p:Option Addr) (m c:Nat),j≤n∧n-j≤gg∧m=2*j∧s3= .slice p m c∧s13= .int .i64 j∧Hid (wr.ownsRow W.heap.size 5 1 (.slice p m c) m (yv u8C (aSY (s.take j)))∧Below W.heap.size W wr))
  case atStart=>exact⟨0,none,0,0,by omega,by omega,by omega,rfl,rfl,HI0⟩
  case round=>
   obtain⟨j,p,m,c,hj,hgg,hm,rfl,rfl,HI⟩:=hrel
   by_cases hjn:j<n
   ·have hjs:j<s.length:=by rw[←HN.out];exact hjn
    have hji:(j:Int)<(s.length:Int):=by omega
    obtain⟨b,hb⟩: ∃b,s[j]=b:=⟨_,rfl⟩
    have HB:Hid (s[j]? =some b):=hid (by rw[←hb];exact List.getElem?_eq_getElem hjs)
    have HJ:=hid (⟨hjn,hm⟩:_∧_)
    have hb256:=b.toNat_lt
    clear hm
    obtain⟨q,hq⟩: ∃q,q=b.toNat / 16:=⟨_,rfl⟩
    obtain⟨r,hr⟩: ∃r,r=b.toNat%16:=⟨_,rfl⟩
    have w1:IntKind.i64.wrap (b.toNat:Int)=(b.toNat:Int):=by rw[IntKind.wrap_i64];omega
    have w2:IntKind.i64.wrap ((b.toNat:Int) / 16)=(q:Int):=by rw[IntKind.wrap_i64];omega
    have w3:(b.toNat:Int).tmod 16=(r:Int):=by rw[Int.tmod_eq_emod_of_nonneg (by omega)];omega
    have w4:IntKind.i64.wrap (r:Int)=(r:Int):=by rw[IntKind.wrap_i64];omega
    have hi1:=fun w=>aTB w q (by omega)
    have hi2:=fun w=>aTB w r (by omega)
    have HX:Hid (aSY (s.take (j+1))=aSY (s.take j)++[aSy q,aSy r]):=hid (by rw[aTm HB.out,hq,hr])
    clear hq hr
    go_wp2
    refine zB (fun _=>True) 17 (by kernel_rfl) trivial (fun hHeld=>?_)
    refine eT 0 hHeld ?_;(try simp only[Act.put,sEa,sEb,sEc]);refine eT 1 hHeld ?_;(try simp only[Act.put,sEa,sEb,sEc]);refine eT 2 hHeld ?_;(try simp only[Act.put,sEa,sEb,sEc]);refine eT 3 hHeld ?_;(try simp only[Act.put,sEa,sEb,sEc]);refine eT 4 hHeld ?_;(try simp only[Act.put,sEa,sEb,sEc]);refine eT 5 hHeld ?_;(try simp only[Act.put,sEa,sEb,sEc]);refine eT 6 hHeld ?_;(try simp only[Act.put,sEa,sEb,sEc]);refine eT 7 hHeld ?_;(try simp only[Act.put,sEa,sEb,sEc]);refine eT 8 hHeld ?_;(try simp only[Act.put,sEa,sEb,sEc]);refine eT 9 hHeld ?_;(try simp only[Act.put,sEa,sEb,sEc]);refine eT 10 hHeld ?_;(try simp only[Act.put,sEa,sEb,sEc]);refine eT 11 hHeld ?_;(try simp only[Act.put,sEa,sEb,sEc]);refine eT 12 hHeld ?_;(try simp only[Act.put,sEa,sEb,sEc]);refine eT 13 hHeld ?_;(try simp only[Act.put,sEa,sEb,sEc]);refine eT 14 hHeld ?_;(try simp only[Act.put,sEa,sEb,sEc])
    clear w1 w2 w3 w4 hi1 hi2
    have HO:Hid (Vw 1 u8C (wr.alloc (.cells #[.int .u8 (aSy q).toNat,.int .u8 (aSy r).toNat] 5)).drew (.slice (some ⟨wr.heap.size,0,none⟩) 2 2) [aSy q,aSy r]∧(wr.alloc (.cells #[.int .u8 (aSy q).toNat,.int .u8 (aSy r).toNat] 5)).drew.ownsRow W.heap.size 5 1 (.slice p m c) m (yv u8C (aSY (s.take j)))∧Below W.heap.size W (wr.alloc (.cells #[.int .u8 (aSy q).toNat,.int .u8 (aSy r).toNat] 5)).drew):=hid ⟨aVn (l:=[aSy q,aSy r]) (Blk.new wr _ _).drew,xN HI.out.1 (fun g hg=>(Z0 ((Below.refl _ wr).alloc (Nat.le_refl _) _) 1).block g (HI.out.1.lt g hg).2),HI.out.2.trans (Z0 ((Below.refl _ wr).alloc HI.out.2.size _) 1)⟩
    refine eR 15 (fun K hK=>?_);go_simp;refine hK.out _ _ (by trivial) (fun hHeld=>?_);clear hK K;(try simp only[Act.put,sEa,sEb,sEc])
    refine eR 16 (fun K hK=>?_)
    refine aSX rfl _ _ 73 rfl u8C aMt Tryz.underlying73 rfl (by decide) (by decide) aie aif HO.out.2.1 HO.out.1 (by have:=HS.out;have:=HN.out;have:=HJ.out;simp;omega) HO.out.2.2.size rfl rfl ?_
    intro v3 w3 ho3 hk3
    rw[←HX.out]at ho3
    obtain⟨p3,c3,rfl⟩:=zm ho3
    have HF:Hid (w3.ownsRow W.heap.size 5 1 (.slice p3 (m+2) c3) (m+2) (yv u8C (aSY (s.take (j+1))))∧Below W.heap.size W w3):=hid ⟨ho3,HO.out.2.2.trans (hk3.to_below HO.out.2.2.size fun x hx=>(HO.out.2.1.lt x (Option.mem_toList.1 hx)).1)⟩
    clear ho3 hk3
    refine hK.out _ _ trivial (fun hHeld=>?_)
    clear hK K
    (try simp only[Act.put,sEa,sEb,sEc])
    refine eL (fun K hK=>?_);go_simp;refine hK.out _ _ ?_;clear hK K;(try simp only[Act.put,sEa,sEb,sEc])
    go_wp2
    go_roundg (n- (j+1))
    case measure=>omega
    case rel=>exact⟨j+1,p3,m+2,c3,by have:=HJ.out.1;omega,by omega,by have:=HJ.out.2;omega,rfl,by go_num,HF⟩
   ·have hje:j=n:=by omega
    have hji: ¬(n:Int)<(s.length:Int):=by rw[←HN.out];omega
    have HF:Hid (Below W.heap.size W wr):=hid HI.out.2
    have ho:=HI.out.1
    rw[hje,HN.out,List.take_length,ahP]at ho
    have hm2:m=(aSY s).length:=by rw[aTc,hm,hje,HN.out]
    rw[hm2]at ho
    have hconv:=Xj ho
    rw[←hm2]at hconv
    clear ho hm2 hm HI
    go_wp2
    go_ret
    exact⟨rfl,HF.out⟩
end
section
open Go.RowKit Go.Lib
theorem ajP (k:Nat) (hk:k<10) (W:World):Calls Tryz.prog 49 #[.int .i64 k] W fun e w'=>e= .returned (.string (S (kw k)))∧Below W.heap.size W w':=by
 have hcs:k=0∨k=1∨k=2∨k=3∨k=4∨k=5∨k=6∨k=7∨k=8∨k=9:=by omega
 rcases hcs with rfl|rfl|rfl|rfl|rfl|rfl|rfl|rfl|rfl|rfl
 all_goals
  go_enter Tryz.func49,Tryz.ntmps49
  go_wp2
  go_ret
  exact⟨rfl,(Below.refl _ _).alloc (Nat.le_refl _) _⟩
theorem aaG (k:Nat) (hk:k<10) (W:World):Calls Tryz.prog 55 #[.int .i64 k] W fun e w'=>e= .returned (.string (S (kw k)))∧Below W.heap.size W w':=by
 have hcs:k=0∨k=1∨k=2∨k=3∨k=4∨k=5∨k=6∨k=7∨k=8∨k=9:=by omega
 rcases hcs with rfl|rfl|rfl|rfl|rfl|rfl|rfl|rfl|rfl|rfl
 all_goals
  go_enter Tryz.func55,Tryz.ntmps55
  go_wp2
  go_ret
  exact⟨rfl,(Below.refl _ _).alloc (Nat.le_refl _) _⟩
end
section
open Go.RowKit Go.Lib
theorem aBq {x:Int} (h:x<0):YH x=false:=by
 unfold YH
 rw[decide_eq_false (by omega),Bool.false_and]
theorem aBp {x:Int} (h:1099511627776<x):YH x=false:=by
 unfold YH
 rw[decide_eq_false (p:=x≤1099511627776) (by omega),Bool.and_false]
theorem aBr {x:Int} (h:0≤x) (h2:x≤1099511627776):YH x=true:=by
 unfold YH
 rw[decide_eq_true h,decide_eq_true h2]
 rfl
theorem QE (x:Int) (W:World):Calls Tryz.prog 36 #[.int .i64 x] W fun e w'=>e= .returned (.bool (YH x))∧W=w':=by
 obtain⟨b,hb⟩: ∃b,b=YH x:=⟨_,rfl⟩
 have HB:=hid hb
 rw[←hb]
 clear hb
 by_cases h0:0≤x
 ·by_cases h1:x≤1099511627776
  ·have HE:Hid (b=true):=hid (by rw[HB.out,aBr h0 h1])
   go_enter Tryz.func36,Tryz.ntmps36
   go_wp2
   go_ret
   exact⟨by rw[HE.out];rfl,rfl⟩
  ·have HE:Hid (b=false):=hid (by rw[HB.out,aBp (by omega)])
   go_enter Tryz.func36,Tryz.ntmps36
   go_wp2
   go_ret
   exact⟨by rw[HE.out];rfl,rfl⟩
 ·have HE:Hid (b=false):=hid (by rw[HB.out,aBq (by omega)])
  go_enter Tryz.func36,Tryz.ntmps36
  go_wp2
  go_ret
  exact⟨by rw[HE.out];rfl,rfl⟩
theorem aSV (l:List Int) (p:Option Addr) (n c:Nat) (hn:n=l.length) (h0:l≠[]) (hl:l.length≤1000) (W:World) (hv:Vw 1 wdC W (.slice p n c) l):Calls Tryz.prog 30 #[.slice p n c] W fun e w'=>e= .returned (.bool (l.all YH))∧W=w':=by
 obtain⟨gb,off,cc,e1,e2,e3,e4⟩:=hv.ex h0
 injection e1 with e1 e5 e6
 subst e1 e6
 have HC:Hid (∀i x,l[i]? =some x→W.cell? ⟨gb,off+i,none⟩=some (.int .i64 x)):=hid fun i x hx=>by
  have:=e4 i x hx 0 (.int .i64 x) rfl
  rw[←this]
  simp
 have HW:=hid (⟨hn,hl⟩:_∧_)
 clear hv e2 e3 e4 e5 hn h0 hl
 go_enter Tryz.func30,Tryz.ntmps30
 go_wp2
 go_loopg [7] n (fun gg s7 wr=> ∃i:Nat,i≤n∧n-i≤gg∧s7= .int .i64 i∧wr=W∧Hid ((l.take i).all YH=true))
 case atStart=>exact⟨0,by omega,by omega,rfl,rfl,hid (by simp)⟩
 case round=>
  obtain⟨i,hi,hgg,rfl,rfl,HI⟩:=hrel
  by_cases hj:i<n
  ·have hjz:(i:Int)<(n:Int):=by omega
   have hiz:(i:Int)≤1000:=by have:=HW.out;omega
   obtain⟨x,hx⟩: ∃x,l[i]? =some x:=⟨_,List.getElem?_eq_getElem (by rw[←HW.out.1];exact hj)⟩
   have hc:=HC.out i x hx
   have HX:=hid hx
   have HJ:=hid hj
   clear hx
   have HNO:Hid (YH x=false→l.all YH=false):=hid fun h=>by
    rw[List.all_eq_false]
    exact⟨x,List.mem_of_getElem? HX.out,by rw[h];decide⟩
   by_cases x0:x<0
   ·have HE:=hid (HNO.out (aBq x0))
    go_wp2
    go_ret
    exact⟨by rw[HE.out];rfl,rfl⟩
   ·by_cases x1:1099511627776<x
    ·have HE:=hid (HNO.out (aBp x1))
     go_wp2
     go_ret
     exact⟨by rw[HE.out];rfl,rfl⟩
    ·have HI2:Hid ((l.take (i+1)).all YH=true):=hid (by rw[List.take_add_one,HX.out,List.all_append,HI.out];simp[aBr (by omega:0≤x) (by omega)])
     go_wp2
     go_roundg (n- (i+1))
     case measure=>have:=HJ.out;omega
     case rel=>exact⟨i+1,by have:=HJ.out;omega,by omega,by go_num,rfl,HI2⟩
  ·have hjz: ¬(i:Int)<(n:Int):=by omega
   have HE:Hid (l.all YH=true):=hid (by have h:=HI.out;rwa[List.take_of_length_le (by rw[←HW.out.1];omega)]at h)
   go_wp2
   go_ret
   exact⟨by rw[HE.out];rfl,rfl⟩
end
section
open Go.RowKit Go.Lib
def bcB (b:Bool):UInt8:=if b then 121 else 110
theorem Ki (l:List Bool) (p:Option Addr) (n c:Nat) (hn:n=l.length) (hl:l.length≤90000) (W:World) (hv:Vw 1 boC W (.slice p n c) l):Calls Tryz.prog 59 #[.slice p n c] W fun e w'=>e= .returned (.string (S (XV l)))∧W=w':=by
 by_cases h0:l=[]
 ·subst h0
  subst hn
  go_enter Tryz.func59,Tryz.ntmps59
  go_wp2
  go_ret
  exact⟨rfl,rfl⟩
 ·obtain⟨gb,off,cc,e1,e2,e3,e4⟩:=hv.ex h0
  injection e1 with e1 e5 e6
  subst e1 e6
  have HC:Hid (∀i x,l[i]? =some x→W.cell? ⟨gb,off+i,none⟩=some (.bool x)):=hid fun i x hx=>by
   have:=e4 i x hx 0 (.bool x) rfl
   rw[←this]
   simp
  have HB:Hid (XV l=l.map bcB):=hid (by unfold XV;rw[if_neg h0];rfl)
  have hnz:((n:Int)==0)=false:=by
   rw[beq_eq_false_iff_ne]
   have:=List.length_pos_iff.2 h0
   omega
  have HW:=hid (⟨hn,hl⟩:_∧_)
  clear hv e2 e3 e4 e5 hn h0 hl
  go_enter Tryz.func59,Tryz.ntmps59
  go_wp2
  go_loopg [3,4] n (fun gg s3 s4 wr=> ∃(i:Nat) (a:Bs),i≤n∧n-i≤gg∧s3= .string (S a)∧s4= .int .i64 i∧wr=W∧Hid (a=(l.take i).map bcB))
  case atStart=>exact⟨0,[],by omega,by omega,rfl,rfl,rfl,hid rfl⟩
  case round=>
   obtain⟨i,a,hi,hgg,rfl,rfl,rfl,HI⟩:=hrel
   by_cases hj:i<n
   ·have hjz:(i:Int)<(n:Int):=by omega
    have hiz:(i:Int)≤90001:=by have:=HW.out;omega
    obtain⟨x,hx⟩: ∃x,l[i]? =some x:=⟨_,List.getElem?_eq_getElem (by rw[←HW.out.1];exact hj)⟩
    have hc:=HC.out i x hx
    have HI2:Hid (a++[bcB x]=(l.take (i+1)).map bcB):=hid (by rw[HI.out,List.take_add_one,hx];simp)
    have hal:(a.length:Int)+1≤90001:=by have h:=HI.out;have:=HW.out;rw[h];simp;omega
    have hal2:(S a).size+1≤140737488355328:=by rw[ja];omega
    have hal3:a.length+1≤140737488355328:=by omega
    have HJ:=hid hj
    clear hx
    cases x
    all_goals
     go_wp2
     go_roundg (n- (i+1))
     case measure=>have:=HJ.out;omega
     case rel=>exact⟨i+1,_,by have:=HJ.out;omega,by omega,by first |rfl|simp,by go_num,rfl,HI2⟩
   ·have hjz: ¬(i:Int)<(n:Int):=by omega
    have HE:Hid (a=XV l):=hid (by have h:=HI.out;rw[List.take_of_length_le (by rw[←HW.out.1];omega)]at h;rw[h,HB.out])
    go_wp2
    go_ret
    exact⟨by rw[HE.out];rfl,rfl⟩
end
section
open Go.RowKit Go.Lib
theorem aUo (l:List Bool) (p:Option Addr) (n c:Nat) (hn:n=l.length) (hl:l.length≤90000) (W:World) (hv:Vw 1 boC W (.slice p n c) l):Calls Tryz.prog 74 #[.slice p n c] W fun e w'=>e= .returned (.string (S (XV l)))∧Below W.heap.size W w':=by
 by_cases h0:l=[]
 ·subst h0
  subst hn
  go_enter Tryz.func74,Tryz.ntmps74
  go_wp2
  go_ret
  exact⟨rfl,Below.refl _ _⟩
 ·obtain⟨gb,off,cc,e1,e2,e3,e4⟩:=hv.ex h0
  injection e1 with e1 e5 e6
  subst e1 e6
  have HC:Hid (∀W',Below W.heap.size W W'→ ∀i x,l[i]? =some x→W'.cell? ⟨gb,off+i,none⟩=some (.bool x)):=hid fun W' hb i x hx=>by
   have:=e4 i x hx 0 (.bool x) rfl
   rw[←this]
   simpa using World.cell?_of_block (hb.block gb e3)
  have HB:Hid (XV l=l.map bcB):=hid (by unfold XV;rw[if_neg h0];rfl)
  have hnz:((n:Int)==0)=false:=by
   rw[beq_eq_false_iff_ne]
   have:=List.length_pos_iff.2 h0
   omega
  have HW:=hid (⟨hn,hl⟩:_∧_)
  have HI0:Hid (W.ownsRow W.heap.size 5 1 (.slice none 0 0) 0 (yv u8C ((l.take 0).map bcB))∧Below W.heap.size W W):=hid ⟨qI _ _ _ _,Below.refl _ _⟩
  clear hv e2 e3 e4 e5 hn h0 hl
  go_enter Tryz.func74,Tryz.ntmps74
  go_wp2
  go_loopg [3,11] n (fun gg s3 s11 wr=> ∃(i:Nat) (q:Option Addr) (k:Nat),i≤n∧n-i≤gg∧s3= .slice q i k∧s11= .int .i64 i∧Hid (wr.ownsRow W.heap.size 5 1 (.slice q i k) i (yv u8C ((l.take i).map bcB))∧Below W.heap.size W wr))
  case atStart=>exact⟨0,none,0,by omega,by omega,rfl,rfl,HI0⟩
  case round=>
   obtain⟨i,q,k,hi,hgg,rfl,rfl,HI⟩:=hrel
   have hiz:(i:Int)≤90001:=by have:=HW.out;omega
   by_cases hj:i<n
   ·have hjz:(i:Int)<(n:Int):=by omega
    obtain⟨x,hx⟩: ∃x,l[i]? =some x:=⟨_,List.getElem?_eq_getElem (by rw[←HW.out.1];exact hj)⟩
    have hc:=HC.out wr HI.out.2 i x hx
    have HT:Hid ((l.take i).map bcB++[bcB x]=(l.take (i+1)).map bcB):=hid (by rw[List.take_add_one,hx];simp)
    have HJ:=hid hj
    clear hx
    obtain⟨y,hy⟩: ∃y,y=bcB x:=⟨_,rfl⟩
    rw[←hy]at HT
    have hyb:(y.toNat:Int)=if x then 121 else 110:=by rw[hy];cases x<;>rfl
    clear hy
    cases x
    all_goals
     simp only[Bool.false_eq_true,if_false,if_true]at hyb
     go_wp2_with (with_reducible refine yd .append rfl ?_)
     with_reducible refine ki ?_
     rw[←hyb]
     refine zO rfl _ _ 73 rfl u8C aMt Tryz.underlying73 rfl (by decide) (by decide) aie aif y HI.out.1 (by have:=HW.out;have:=HJ.out;omega) HI.out.2.size rfl rfl ?_
     intro v3 w3 ho3 hk3 _
     obtain⟨p3,c3,rfl⟩:=zm ho3
     have HF3:Hid (w3.ownsRow W.heap.size 5 1 (.slice p3 (i+1) c3) (i+1) (yv u8C ((l.take (i+1)).map bcB))∧Below W.heap.size W w3):=hid ⟨by rw[←HT.out];exact ho3,HI.out.2.trans (hk3.to_below HI.out.2.size fun x hx=>(HI.out.1.lt x (Option.mem_toList.1 hx)).1)⟩
     clear ho3 hk3 hyb
     go_wp2
     go_roundg (n- (i+1))
     case measure=>have:=HJ.out;omega
     case rel=>exact⟨i+1,p3,c3,by have:=HJ.out;omega,by omega,rfl,by go_num,HF3⟩
   ·have hjz: ¬(i:Int)<(n:Int):=by omega
    obtain⟨ho,hb⟩:=HI.out
    have hin:i=l.length:=by have:=HW.out.1;omega
    have hbl:(XV l).length=i:=by rw[HB.out,List.length_map,hin]
    rw[List.take_of_length_le (by omega),←HB.out,ahP]at ho
    rw[←hbl]at ho
    have hconv:=Xj ho
    rw[hbl]at hconv
    have HBB:=hid hb
    clear ho hb HI hin hbl
    go_wp2
    go_ret
    exact⟨rfl,HBB.out⟩
end
section
open Go.RowKit Go.Lib
theorem ks (s:Bs):strCells (S s)=cB s:=by simp[strCells,S,cB]
theorem yo {W:World} {B n k g:Nat} {T U:TypeId} {v:Value} {xs:List Value} {cs:Array Value} (h:W.ownsRow B T k v n xs) (hb:Blk W g U cs) (ht:T≠U):v.ownBlock≠some g:=aBG (u:=v) (m:=0) (ys:=[]) h hb ht
abbrev OB (B:Nat) (w:World) (v:Value) (b:Bs):Prop:=w.ownsRow B 5 1 v b.length (cB b)
structure Ly (B:Nat) (w w':World):Prop where
 b:Below B w w'
 t: ∀g T cs,T≠5→Blk w g T cs→Blk w' g T cs
theorem Ly.refl (B:Nat) (w:World):Ly B w w:=⟨Below.refl _ _,fun _ _ _ _ h=>h⟩
theorem Ly.trans {B:Nat} {w w1 w2:World} (h:Ly B w w1) (k:Ly B w1 w2):Ly B w w2:=⟨h.b.trans k.b,fun g T cs ht hg=>k.t g T cs ht (h.t g T cs ht hg)⟩
theorem Ly.of {B:Nat} {w w1:World} (h:Below w.heap.size w w1) (hB:B≤w.heap.size):Ly B w w1:=⟨h.mono hB,fun g T cs _ hg=>hg.below h hg.lt⟩
theorem Ly.step {B:Nat} {w w1 w2:World} (h:Ly B w w1) (k:Below w1.heap.size w1 w2) (hB:B≤w.heap.size):Ly B w w2:=h.trans (.of k (Nat.le_trans hB h.b.size))
theorem Ly.grown {B n:Nat} {w w1 w2:World} {v:Value} {xs:List Value} (h:Ly B w w1) (ho:w1.ownsRow B 5 1 v n xs) (hg:w1.grownBy w2 v.ownBlock) (hB:B≤w.heap.size):Ly B w w2:=
 ⟨h.b.grown hg (Nat.le_trans hB h.b.size) fun q hq=>(ho.lt q hq).1,fun g T cs ht hT=>(h.t g T cs ht hT).grown hg (Ne.symm (yo ho (h.t g T cs ht hT) (Ne.symm ht)))⟩
def aSR (B:Nat) (w:World) (b:Bs) (e:Ending) (w':World):Prop:= ∃v',e= .returned v'∧OB B w' v' b∧Ly B w w'
theorem OB.below {B:Nat} {w w':World} {v:Value} {b:Bs} (h:OB B w v b) (hb:Below w.heap.size w w'):OB B w' v b:=xN h fun g hg=>hb.block g (h.lt g hg).2
theorem OB.nil (B:Nat) (w:World):OB B w (.slice none 0 0) []:=⟨rfl,.inl ⟨rfl,rfl⟩⟩
def cZ (l:List Int):Array Value:=(l.map (Value.int .i64)).toArray
theorem aS6 {l:List Int} {j:Nat} {z:Int} (h:l[j]? =some z):(l.take (j+1)).flatMap X6=(l.take j).flatMap X6++X6 z:=by rw[List.take_add_one,h];simp
theorem aTl (l:List Int):(l.flatMap X6).length=8*l.length:=by
 induction l with
 |nil=>rfl
 |cons a l ih=>simp[ih];omega
theorem qk {B g:Nat} {v:Value} {b:Bs} {l:List Int} {w:World} (hown:OB B w v b) (hB:B≤w.heap.size) (hg:Blk w g 3 (cZ l)) (hl:l.length≤100) (hok: ∀z∈l,okZ z) (hb:b.length≤900000):
  Calls Tryz.prog 62 #[v,.slice (some ⟨g,0,none⟩) l.length l.length] w (aSR B w (b++l.flatMap X6)):=by
 obtain⟨i0,hi,hz0,hz1,hz2⟩:=info_parts aVa
 obtain⟨n,hn⟩: ∃n,n=l.length:=⟨_,rfl⟩
 rw[←hn]at hl⊢
 obtain⟨p0,c0,rfl⟩:=zm hown
 have HH:=hid (⟨hn,hok,hb⟩:_∧_∧_)
 have HI0:Hid (OB B w (.slice p0 b.length c0) (b++(l.take 0).flatMap X6)∧Blk w g 3 (cZ l)∧Ly B w w):=hid ⟨by simpa using hown,hg,Ly.refl _ _⟩
 have HP:=hid (fun x (h:okZ x) W=>aUf x W h.1 h.2)
 have hBB:=hB
 clear hown hg hok hb hn
 go_enter Tryz.func62,Tryz.ntmps62
 go_wp2
 go_loopg [0,9] n (fun gg s0 s9 wr=> ∃(j:Nat) (p:Option Addr) (m c:Nat),j≤n∧n-j≤gg∧s0= .slice p m c∧s9= .int .i64 j∧Hid (OB B wr (.slice p m c) (b++(l.take j).flatMap X6)∧Blk wr g 3 (cZ l)∧Ly B w wr))
 case atStart=>exact⟨0,p0,_,c0,by omega,by omega,rfl,rfl,HI0⟩
 case round=>
  obtain⟨j,p,m,c,hj,hgg,rfl,rfl,HI⟩:=hrel
  by_cases hjn:j<n
  ·obtain⟨z,hz⟩: ∃z,l[j]? =some z:=⟨_,List.getElem?_eq_getElem (by rw[←HH.out.1];exact hjn)⟩
   have hji:(j:Int)<(n:Int):=by omega
   have c0:wr.cell? ⟨g,j,none⟩=some (.int .i64 z):=by rw[HI.out.2.1.cell];unfold cZ;rw[List.getElem?_toArray,List.getElem?_map,hz];rfl
   have HZ:=hid hz
   have HJN:=hid hjn
   have HPz:=hid (HP.out z (HH.out.2.1 z (List.mem_of_getElem? hz)))
   clear hz
   go_wp2_with fail
   (with_reducible refine(HPz.out _).mono ?_)
   rintro r w1 ⟨rfl,hb1⟩
   have HO1:Hid (OB B w1 (.slice p m c) (b++(l.take j).flatMap X6)∧Blk w1 g 3 (cZ l)∧Ly B w w1):=hid ⟨HI.out.1.below hb1,HI.out.2.1.below hb1 HI.out.2.1.lt,HI.out.2.2.step hb1 hBB⟩
   clear hb1 c0
   go_wp2_with (with_reducible refine yd .append rfl ?_)
   with_reducible refine ki ?_
   have hll:((l.take j).flatMap X6).length≤800:=by rw[aTl,List.length_take];omega
   refine wpList_append_own_string _ rfl _ _ 73 9 rfl B 5 i0 Tryz.underlying73 Tryz.underlying9 hi hz0 hz1 hz2 _ _ _ rfl HO1.out.1 (S (X6 z)) rfl (by rw[ja,List.length_append,aAY];have:=HH.out.2.2;unfold maxLen;omega) (by rw[ja,List.length_append,aAY];have:=HH.out.2.2;omega) (Nat.le_trans hBB HO1.out.2.2.b.size) ?_
   intro v' w2 hown2 hgr _
   rw[ja,ks]at hown2
   obtain⟨p2,c2,rfl⟩:=zm hown2
   obtain⟨k2,hk2⟩: ∃k,k=(b++(l.take j).flatMap X6).length+(X6 z).length:=⟨_,rfl⟩
   rw[←hk2]at hown2⊢
   have HF:Hid (OB B w2 (.slice p2 k2 c2) (b++(l.take (j+1)).flatMap X6)∧Blk w2 g 3 (cZ l)∧Ly B w w2):=hid ⟨by
     rw[aS6 HZ.out,←List.append_assoc]
     exact aS9 hown2 (hk2.trans List.length_append.symm) (aL2 _ _).symm,HO1.out.2.1.grown hgr (Ne.symm (yo HO1.out.1 HO1.out.2.1 (by decide))),HO1.out.2.2.grown HO1.out.1 hgr hBB⟩
   clear hown2 hgr hll hk2
   go_wp2
   go_roundg (n- (j+1))
   case measure=>omega
   case rel=>exact⟨j+1,_,_,_,by have:=HJN.out;omega,by omega,rfl,by go_num,HF⟩
  ·have hje:j=n:=by omega
   have hji: ¬(j:Int)<(n:Int):=by omega
   have HF:Hid (OB B wr (.slice p m c) (b++l.flatMap X6)∧Ly B w wr):=hid (by
    have:=HI.out
    rw[hje,HH.out.1,List.take_length]at this
    exact⟨this.1,this.2.2⟩)
   go_wp2
   go_ret
   exact⟨_,rfl,HF.out.1,HF.out.2⟩
theorem atN {B:Nat} {v:Value} {b:Bs} {x:Nat} {w:World} (hown:OB B w v b) (hB:B≤w.heap.size) (hx:x<18446744073709551616) (hb:b.length≤900000):
  Calls Tryz.prog 64 #[v,.float .f64 x] w (aSR B w (b++agP x)):=by
 obtain⟨i0,hi,hz0,hz1,hz2⟩:=info_parts aVa
 have HO:=hid (⟨hown,hB,hb⟩:_∧_∧_)
 have HP:=hid (fun W=>aUg x W hx)
 clear hown hB hx hb
 go_enter Tryz.func64,Tryz.ntmps64
 go_wp2_with fail
 (with_reducible refine(HP.out _).mono ?_)
 rintro r w1 ⟨rfl,hb1⟩
 have HB1:=hid hb1
 clear hb1
 go_wp2_with (with_reducible refine yd .append rfl ?_)
 with_reducible refine ki ?_
 refine wpList_append_own_string _ rfl _ _ 73 9 rfl B 5 i0 Tryz.underlying73 Tryz.underlying9 hi hz0 hz1 hz2 _ _ _ rfl (HO.out.1.below HB1.out) (S (be 8 x)) rfl (by rw[ja,aL0];have:=HO.out.2.2;unfold maxLen;omega) (by rw[ja,aL0];have:=HO.out.2.2;omega) (Nat.le_trans HO.out.2.1 HB1.out.size) ?_
 intro v' w2 hown2 hgr _
 rw[ja,ks]at hown2
 have HF:Hid (OB B w2 v' (b++agP x)∧Ly B w w2):=hid ⟨aS9 hown2 List.length_append.symm (aL2 _ _).symm,(Ly.of HB1.out HO.out.2.1).grown (HO.out.1.below HB1.out) hgr HO.out.2.1⟩
 clear hown2 hgr
 go_wp2
 go_ret
 exact⟨_,rfl,HF.out.1,HF.out.2⟩
structure LaD {α:Type} (w0:World) (df:Nat) (caps:Array Value) (val:α→Value) (bs:α→Bs) (l:List α):Prop where
 en: ∀vs W,Sem.run Tryz.prog (callFunc df vs) W= .ok (.enter df vs) W
 go: ∀x∈l,∀(W:World) (v:Value) (b:Bs),OB w0.heap.size W v b→Below w0.heap.size w0 W→b.length+(bs x).length≤900000→Calls Tryz.prog df (#[v,val x]++caps) W (aSR w0.heap.size W (b++bs x))
theorem qa {α:Type} {f:α→Bs} {l:List α} {j:Nat} {z:α} (h:l[j]? =some z):(l.take (j+1)).flatMap f=(l.take j).flatMap f++f z:=by rw[List.take_add_one,h];simp
theorem app {α:Type} (f:α→Bs) {l:List α} {j:Nat} {z:α} (h:l[j]? =some z):((l.take j).flatMap f).length+(f z).length≤(l.flatMap f).length:=by
 have e:l.flatMap f=(l.take (j+1)).flatMap f++(l.drop (j+1)).flatMap f:=by rw[←List.flatMap_append,List.take_append_drop]
 rw[e,qa h,List.length_append,List.length_append]
 omega
end
section
open Go.RowKit Go.Lib
def za (W:World) (b:Nat):Nat→List Value→World
 |_,[]=>W
 |i,v::l=>za (W.setCell ⟨b,i,none⟩ v) b (i+1) l
theorem yB (b:Nat) (l:List Value): ∀(W:World) (i c:Nat),c≠b→(za W b i l).heap[c]? =W.heap[c]? :=by
 induction l with
 |nil=>intro W i c h;rfl
 |cons v l ih=>intro W i c h;exact(ih _ _ _ h).trans (Below.heap_setCell _ _ _ _ h)
theorem zU {O:List Nat} {w:World} {b:Nat} (hb:b∈O∨w.heap.size≤b) (l:List Value): ∀(W:World) (i:Nat),Kp O w W→Kp O w (za W b i l):=by
 induction l with
 |nil=>intro W i h;exact h
 |cons v l ih=>intro W i h;exact ih _ _ (h.setCell hb v)
end
section
open Go.RowKit Go.Lib
theorem yq {w:World} {g:Nat} {T:TypeId} {a b c d e:Value} (h:Blk w g T #[a,b,c,d,e]):(w.cell? ⟨g,0,none⟩=some a∧w.cell? ⟨g,1,none⟩=some b∧w.cell? ⟨g,2,none⟩=some c∧w.cell? ⟨g,3,none⟩=some d∧w.cell? ⟨g,4,none⟩=some e)∧(w.frozen? ⟨g,0,none⟩=false∧w.frozen? ⟨g,1,none⟩=false∧w.frozen? ⟨g,2,none⟩=false∧w.frozen? ⟨g,3,none⟩=false∧w.frozen? ⟨g,4,none⟩=false)∧g<w.heap.size:=
 ⟨⟨h.cell 0,h.cell 1,h.cell 2,h.cell 3,h.cell 4⟩,⟨h.frozen 0,h.frozen 1,h.frozen 2,h.frozen 3,h.frozen 4⟩,h.lt⟩
end
section
open Go.RowKit Go.Lib
theorem af2 (l:List Bool):(XV l).length≤l.length+1:=by
 unfold XV
 split
 ·simp
 ·simp
theorem X3 {x:Int} (h:YH x=true):(Xb x).length≤100:=by
 obtain⟨h1,h2,h3⟩:=aam h
 rw[h1]
 exact X4 _ (by omega)
theorem Qh {x:Int} (h:YH x=true):okZ x:=by
 obtain⟨h1,h2,h3⟩:=aam h
 unfold okZ
 omega
theorem aCB (s1 s2 s3:Bs):S ([99,114,97,115,104,32]++s1++[32]++s2++[32]++s3)=({ data:= #[99,114,97,115,104,32] } :ByteArray)++S s1++({ data:= #[32] } :ByteArray)++S s2++({ data:= #[32] } :ByteArray)++S s3:=by
 rw[←qz,←qz,←qz,←qz,←qz]
 rfl
theorem aCA (s1 s2:Bs):S (s1++[32]++s2)=S s1++({ data:= #[32] } :ByteArray)++S s2:=by
 rw[←qz,←qz]
 rfl
theorem aMD (k:Nat):(kw k).length≤10:=by
 unfold kw
 split<;>decide
theorem aR2 {a:Ac} (hk:a.kind=7) (h:okA a=true):YH a.torn=true∧YH a.bytes=true∧a.keep.length≤64:=by
 unfold okA at h
 rw[hk]at h
 simpa using h
theorem aR4 {a:Ac} (h3:a.kind≠3) (h7:a.kind≠7) (h:okA a=true):YH a.n=true:=by
 unfold okA at h
 rw[if_neg h3,if_neg h7]at h
 simp only[Bool.and_eq_true]at h
 exact h.2
theorem aR3 {a:Ac} (h:okA a=true):1≤a.kind∧a.kind≤9:=by
 unfold okA at h
 simp only[Bool.and_eq_true,decide_eq_true_eq]at h
 exact h.1
theorem aaZ {W:World} {a:AcV} (ha:acd W a) (h:okA a.ac=true):Calls Tryz.prog 27 #[.agg #[.int .i64 a.kind,.int .i64 a.n,.slice a.kp a.kn a.kc,.int .i64 a.torn,.int .i64 a.bytes]] W fun r w'=>r= .returned (.tuple #[.string (S (kH a.ac)),.bool true])∧Below W.heap.size W w':=by
 obtain⟨kd,n,kp,kn,kc,kl,tt,bb⟩:=a
 obtain⟨k1,k2⟩:=aR3 h
 dsimp only[AcV.ac]at k1 k2
 have HK:=hid (⟨k1,k2⟩:_∧_)
 have hn:=ha.n
 have hv:=ha.k
 dsimp only at hn hv
 have HN:=hid hn
 clear hn
 obtain⟨xb,hxb⟩: ∃k,k=W.heap.size:=⟨_,rfl⟩
 obtain⟨w1,hw1⟩: ∃w,w=W.alloc (.cells #[.int .i64 kd,.int .i64 n,.slice kp kn kc,.int .i64 tt,.int .i64 bb] 53):=⟨_,rfl⟩
 have hB:Blk w1 xb 53 #[.int .i64 kd,.int .i64 n,.slice kp kn kc,.int .i64 tt,.int .i64 bb]:=by rw[hw1,hxb];exact Blk.new _ _ _
 have HB:=hid (⟨hB,(by rw[hw1];exact(Below.refl _ W).alloc (Nat.le_refl _) _:Below W.heap.size W w1),hxb,hw1⟩:_∧_∧_∧_)
 obtain⟨⟨c0,c1,c2,c3,c4⟩,_,_⟩:=yq hB
 clear hB hxb hw1 ha
 by_cases h3:kd=3
 ·subst h3
  have HL:Hid (kH (AcV.ac ⟨3,n,kp,kn,kc,kl,tt,bb⟩)=[114,111,117,110,100]):=hid rfl
  rw[HL.out]
  go_enter Tryz.func27,Tryz.ntmps27
  go_upto_region 1 with fail
  rw[←HB.out.2.2.1,←HB.out.2.2.2]
  go_wp2
  go_ret2
  exact⟨rfl,HB.out.2.1⟩
 ·by_cases h7:kd=7
  ·subst h7
   obtain⟨m1,m2,m3⟩:=aR2 rfl h
   dsimp only[AcV.ac]at m1 m2 m3
   have HLE:=hid (Ki kl kp kn kc HN.out (by omega) w1.drew ((hv.below HB.out.2.1).below (Below.refl w1.heap.size w1).drew))
   have HD1:=hid (fun w=>vl (Qh m1) w)
   have HD2:=hid (fun w=>vl (Qh m2) w)
   have HM1:Hid (∀w,Calls Tryz.prog 36 #[.int .i64 tt] w fun e w'=>e= .returned (.bool true)∧w=w'):=hid fun w=>by rw[←m1];exact QE tt w
   have HM2:Hid (∀w,Calls Tryz.prog 36 #[.int .i64 bb] w fun e w'=>e= .returned (.bool true)∧w=w'):=hid fun w=>by rw[←m2];exact QE bb w
   have l1:=af2 kl
   have l2:=X3 m1
   have l3:=X3 m2
   obtain⟨s1,hs1⟩: ∃s,s=XV kl:=⟨_,rfl⟩
   obtain⟨s2,hs2⟩: ∃s,s=Xb tt:=⟨_,rfl⟩
   obtain⟨s3,hs3⟩: ∃s,s=Xb bb:=⟨_,rfl⟩
   have HL:Hid (kH (AcV.ac ⟨7,n,kp,kn,kc,kl,tt,bb⟩)=[99,114,97,115,104,32]++s1++[32]++s2++[32]++s3):=hid (by
    rw[hs1,hs2,hs3]
    show abI [kw 7,XV kl,Xb tt,Xb bb]=_
    simp[abI,kw])
   obtain⟨sx,hsx⟩: ∃sx,sx=kH (AcV.ac ⟨7,n,kp,kn,kc,kl,tt,bb⟩):=⟨_,rfl⟩
   have HSX:Hid (S sx=({ data:= #[99,114,97,115,104,32] } :ByteArray)++S s1++({ data:= #[32] } :ByteArray)++S s2++({ data:= #[32] } :ByteArray)++S s3):=hid (by rw[hsx,HL.out,aCB])
   rw[←hsx]
   clear hsx HL
   rw[←hs1]at HLE l1
   rw[←hs2]at HD1 l2
   rw[←hs3]at HD2 l3
   have hl1:s1.length≤65:=by omega
   have hkn:(kn:Int)≤64:=by have:=HN.out;omega
   clear hs1 hs2 hs3 m1 m2 l1 h HK hv
   go_enter Tryz.func27,Tryz.ntmps27
   go_upto_region 6 with fail
   rw[←HB.out.2.2.1,←HB.out.2.2.2]
   refine zB (fun W'=>W'.cell? ⟨xb,0,none⟩=some (.int .i64 7)∧W'.cell? ⟨xb,1,none⟩=some (.int .i64 n)∧W'.cell? ⟨xb,2,none⟩=some (.slice kp kn kc)∧W'.cell? ⟨xb,3,none⟩=some (.int .i64 tt)∧W'.cell? ⟨xb,4,none⟩=some (.int .i64 bb)) 35 (by kernel_rfl) ⟨c0,c1,c2,c3,c4⟩ (fun hHeld=>?_)
   have HX:Hid (Below w1.heap.size w1 w1.drew):=hid (Below.refl w1.heap.size w1).drew
   refine eT 0 hHeld ?_;(try simp only[Act.put,sEa,sEb,sEc]);refine eT 1 hHeld ?_;(try simp only[Act.put,sEa,sEb,sEc]);refine eT 2 hHeld ?_;(try simp only[Act.put,sEa,sEb,sEc]);refine eT 6 hHeld ?_;(try simp only[Act.put,sEa,sEb,sEc]);refine eT 7 hHeld ?_;(try simp only[Act.put,sEa,sEb,sEc]);refine eT 8 hHeld ?_;(try simp only[Act.put,sEa,sEb,sEc]);refine eT 12 hHeld ?_;(try simp only[Act.put,sEa,sEb,sEc]);refine eT 13 hHeld ?_;(try simp only[Act.put,sEa,sEb,sEc]);refine eT 14 hHeld ?_;(try simp only[Act.put,sEa,sEb,sEc]);refine eT 17 hHeld ?_;(try simp only[Act.put,sEa,sEb,sEc]);refine eT 18 hHeld ?_;(try simp only[Act.put,sEa,sEb,sEc]);refine eT 19 hHeld ?_;(try simp only[Act.put,sEa,sEb,sEc])
   refine eR 3 (fun K hK=>?_)
   go_simp
   (with_reducible refine(HLE.out).mono ?_)
   rintro r w9 ⟨rfl,rfl⟩
   refine hK.out _ _ hHeld (fun hHeld=>?_)
   clear hK K
   (try simp only[Act.put,sEa,sEb,sEc])
   have q2: ¬9223372036854775807<6+s1.length:=by omega
   have q3: ¬9223372036854775807<6+s1.length+1:=by omega
   have q4: ¬9223372036854775807<6+s1.length+1+s2.length:=by omega
   have q5: ¬9223372036854775807<6+s1.length+1+s2.length+1:=by omega
   have q6: ¬9223372036854775807<6+s1.length+1+s2.length+1+s3.length:=by omega
   refine eT 4 hHeld ?_;(try simp only[Act.put,sEa,sEb,sEc]);refine eT 5 hHeld ?_;(try simp only[Act.put,sEa,sEb,sEc])
   refine eR 9 (fun K hK=>?_)
   go_simp
   (with_reducible refine(HD1.out _).mono ?_)
   rintro r w9 ⟨rfl,hb⟩
   have HX:=hid (HX.out.trans (hb.mono HX.out.size))
   obtain⟨⟨c0,c1,c2,c3,c4⟩,_,_⟩:=yq (HB.out.1.below HX.out HB.out.1.lt)
   clear hb
   refine hK.out _ _ ⟨c0,c1,c2,c3,c4⟩ (fun hHeld=>?_)
   clear hK K
   (try simp only[Act.put,sEa,sEb,sEc])
   refine eT 10 hHeld ?_;(try simp only[Act.put,sEa,sEb,sEc]);refine eT 11 hHeld ?_;(try simp only[Act.put,sEa,sEb,sEc])
   refine eR 15 (fun K hK=>?_)
   go_simp
   (with_reducible refine(HD2.out _).mono ?_)
   rintro r w15 ⟨rfl,hb⟩
   have HX:=hid (HX.out.trans (hb.mono HX.out.size))
   obtain⟨⟨c0,c1,c2,c3,c4⟩,_,_⟩:=yq (HB.out.1.below HX.out HB.out.1.lt)
   clear hb
   refine hK.out _ _ ⟨c0,c1,c2,c3,c4⟩ (fun hHeld=>?_)
   clear hK K
   (try simp only[Act.put,sEa,sEb,sEc])
   refine eT 16 hHeld ?_;(try simp only[Act.put,sEa,sEb,sEc])
   refine eR 20 (fun K hK=>?_)
   go_simp
   (with_reducible refine(HM1.out _).mono ?_)
   rintro r w9 ⟨rfl,rfl⟩
   refine hK.out _ _ hHeld (fun hHeld=>?_)
   clear hK K
   (try simp only[Act.put,sEa,sEb,sEc])
   refine eT 21 hHeld ?_;(try simp only[Act.put,sEa,sEb,sEc]);refine eT 22 hHeld ?_;(try simp only[Act.put,sEa,sEb,sEc]);refine eT 23 hHeld ?_;(try simp only[Act.put,sEa,sEb,sEc]);refine eT 24 hHeld ?_;(try simp only[Act.put,sEa,sEb,sEc])
   refine eR 25 (fun K hK=>?_)
   go_simp
   (with_reducible refine(HM2.out _).mono ?_)
   rintro r w9 ⟨rfl,rfl⟩
   refine hK.out _ _ hHeld (fun hHeld=>?_)
   clear hK K
   (try simp only[Act.put,sEa,sEb,sEc])
   refine eT 26 hHeld ?_;(try simp only[Act.put,sEa,sEb,sEc]);refine eT 27 hHeld ?_;(try simp only[Act.put,sEa,sEb,sEc]);refine eT 28 hHeld ?_;(try simp only[Act.put,sEa,sEb,sEc]);refine eT 29 hHeld ?_;(try simp only[Act.put,sEa,sEb,sEc]);refine eT 30 hHeld ?_;(try simp only[Act.put,sEa,sEb,sEc]);refine eT 31 hHeld ?_;(try simp only[Act.put,sEa,sEb,sEc]);refine eT 32 hHeld ?_;(try simp only[Act.put,sEa,sEb,sEc]);refine eT 33 hHeld ?_;(try simp only[Act.put,sEa,sEb,sEc]);refine eT 34 hHeld ?_;(try simp only[Act.put,sEa,sEb,sEc]);refine eL (fun K hK=>?_);go_simp;refine hK.out _ _ ?_;clear hK K;(try simp only[Act.put,sEa,sEb,sEc])
   go_wp2
   go_ret2
   exact⟨by rw[HSX.out];rfl,HB.out.2.1.trans (HX.out.mono HB.out.2.1.size)⟩
  ·have m1:=aR4 (a:=AcV.ac ⟨kd,n,kp,kn,kc,kl,tt,bb⟩) h3 h7 h
   dsimp only[AcV.ac]at m1
   obtain⟨k,hk⟩: ∃k:Nat,(k:Int)=kd:=⟨kd.toNat,by omega⟩
   subst hk
   have HNM:=hid (aaG k (by omega) w1.drew)
   have HD1:=hid (fun w=>vl (Qh m1) w)
   have HM1:Hid (∀w,Calls Tryz.prog 36 #[.int .i64 n] w fun e w'=>e= .returned (.bool true)∧w=w'):=hid fun w=>by rw[←m1];exact QE n w
   have l2:=X3 m1
   have l1:=aMD k
   obtain⟨s1,hs1⟩: ∃s,s=kw k:=⟨_,rfl⟩
   obtain⟨s2,hs2⟩: ∃s,s=Xb n:=⟨_,rfl⟩
   have HL:Hid (kH (AcV.ac ⟨k,n,kp,kn,kc,kl,tt,bb⟩)=s1++[32]++s2):=hid (by
    rw[hs1,hs2]
    unfold kH aos AcV.ac
    rw[if_pos ⟨k1,k2⟩,if_neg h3,if_neg h7]
    simp[abI,kwI])
   obtain⟨sx,hsx⟩: ∃sx,sx=kH (AcV.ac ⟨k,n,kp,kn,kc,kl,tt,bb⟩):=⟨_,rfl⟩
   have HSX:Hid (S sx=S s1++({ data:= #[32] } :ByteArray)++S s2):=hid (by rw[hsx,HL.out,aCA])
   rw[←hsx]
   clear hsx HL
   rw[←hs1]at HNM l1
   rw[←hs2]at HD1 l2
   have k3:((k:Int)==3)=false:=by rw[beq_eq_false_iff_ne];exact h3
   have k7:((k:Int)==7)=false:=by rw[beq_eq_false_iff_ne];exact h7
   have k4: ¬(k:Int)<1:=by omega
   have k5: ¬9<(k:Int):=by omega
   clear hs1 hs2 m1 h HK hv h3 h7 HN
   go_enter Tryz.func27,Tryz.ntmps27
   go_upto_region 7 with fail
   rw[←HB.out.2.2.1,←HB.out.2.2.2]
   refine zB (fun W'=>W'.cell? ⟨xb,0,none⟩=some (.int .i64 k)∧W'.cell? ⟨xb,1,none⟩=some (.int .i64 n)∧W'.cell? ⟨xb,2,none⟩=some (.slice kp kn kc)∧W'.cell? ⟨xb,3,none⟩=some (.int .i64 tt)∧W'.cell? ⟨xb,4,none⟩=some (.int .i64 bb)) 12 (by kernel_rfl) ⟨c0,c1,c2,c3,c4⟩ (fun hHeld=>?_)
   have HX:Hid (Below w1.heap.size w1 w1.drew):=hid (Below.refl w1.heap.size w1).drew
   refine eT 0 hHeld ?_;(try simp only[Act.put,sEa,sEb,sEc]);refine eT 1 hHeld ?_;(try simp only[Act.put,sEa,sEb,sEc]);refine eT 4 hHeld ?_;(try simp only[Act.put,sEa,sEb,sEc]);refine eT 5 hHeld ?_;(try simp only[Act.put,sEa,sEb,sEc]);refine eT 8 hHeld ?_;(try simp only[Act.put,sEa,sEb,sEc]);refine eT 9 hHeld ?_;(try simp only[Act.put,sEa,sEb,sEc])
   refine eR 2 (fun K hK=>?_)
   go_simp
   (with_reducible refine(HNM.out).mono ?_)
   rintro r w2 ⟨rfl,hb⟩
   have HX:=hid (HX.out.trans (hb.mono HX.out.size))
   obtain⟨⟨c0,c1,c2,c3,c4⟩,_,_⟩:=yq (HB.out.1.below HX.out HB.out.1.lt)
   clear hb
   refine hK.out _ _ ⟨c0,c1,c2,c3,c4⟩ (fun hHeld=>?_)
   clear hK K
   (try simp only[Act.put,sEa,sEb,sEc])
   have q2: ¬9223372036854775807<s1.length+1:=by omega
   have q3: ¬9223372036854775807<s1.length+1+s2.length:=by omega
   refine eT 3 hHeld ?_;(try simp only[Act.put,sEa,sEb,sEc])
   refine eR 6 (fun K hK=>?_)
   go_simp
   (with_reducible refine(HD1.out _).mono ?_)
   rintro r w6 ⟨rfl,hb⟩
   have HX:=hid (HX.out.trans (hb.mono HX.out.size))
   obtain⟨⟨c0,c1,c2,c3,c4⟩,_,_⟩:=yq (HB.out.1.below HX.out HB.out.1.lt)
   clear hb
   refine hK.out _ _ ⟨c0,c1,c2,c3,c4⟩ (fun hHeld=>?_)
   clear hK K
   (try simp only[Act.put,sEa,sEb,sEc])
   refine eT 7 hHeld ?_;(try simp only[Act.put,sEa,sEb,sEc])
   refine eR 10 (fun K hK=>?_)
   go_simp
   (with_reducible refine(HM1.out _).mono ?_)
   rintro r w9 ⟨rfl,rfl⟩
   refine hK.out _ _ hHeld (fun hHeld=>?_)
   clear hK K
   (try simp only[Act.put,sEa,sEb,sEc])
   refine eT 11 hHeld ?_;(try simp only[Act.put,sEa,sEb,sEc]);refine eL (fun K hK=>?_);go_simp;refine hK.out _ _ ?_;clear hK K;(try simp only[Act.put,sEa,sEb,sEc])
   go_wp2
   go_ret2
   exact⟨by rw[HSX.out];rfl,HB.out.2.1.trans (HX.out.mono HB.out.2.1.size)⟩
end
end Go.Proofs.YtcdiljebkpikbaaGreat
