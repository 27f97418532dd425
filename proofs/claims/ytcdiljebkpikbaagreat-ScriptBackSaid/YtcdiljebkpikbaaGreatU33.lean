/- Parts of the proof: Sda Sdb Sdc Sdd Sde Sdg Sdh Sdk Sdl. -/
import Derived.Deep.LoopGhost
import Derived.Deep.Cut
import Derived.Deep.CutRange
import Derived.Deep.CutBlock
import Derived.OwnWalk
import Derived.Laws.BitsAllLaws
import Derived.Laws.RangeAny
import Derived.Lib.OthersKept
import Derived.Test.YtcdiljebkpikbaaGreatU31
import Derived.Test.YtcdiljebkpikbaaGreatU32
set_option linter.all false
set_option maxRecDepth 100000
set_option maxHeartbeats 64000000
namespace Go.Proofs.YtcdiljebkpikbaaGreat
section
open Go.RowKit Go.Lib
structure PtI (W:World) (s:Bs) (c:UInt8) (j a m:Nat) (v:Value) (w:World) (outs:List Bs):Prop where
 own:w.ownsRow W.heap.size 9 1 v m (yv jQ outs)
 len:m=outs.length
 eq:zv c s=outs++zv c (s.drop a)
 le:a≤j
 le2:j≤s.length
 no: ∀b∈(s.drop a).take (j-a),b≠c
 few:m≤j
 bel:Below W.heap.size W w
section
variable {W w w':World} {s:Bs} {c:UInt8} {j a m:Nat} {v v':Value} {outs:List Bs} {b:UInt8}
theorem qI (W:World) (B:Nat) (T:TypeId) (s:Nat):W.ownsRow B T s (.slice none 0 0) 0 []:=⟨by simp,.inl ⟨rfl,rfl⟩⟩
theorem PtI.start (W:World) (s:Bs) (c:UInt8):PtI W s c 0 0 0 (.slice none 0 0) W []:=⟨qI _ _ _ _,rfl,by simp,Nat.le_refl _,Nat.zero_le _,by simp,Nat.le_refl _,Below.refl _ _⟩
theorem PtI.on (h:PtI W s c j a m v w outs) (hb:s[j]? =some b) (hn:b≠c):PtI W s c (j+1) a m v w outs:=by
 have hj:=(List.getElem?_eq_some_iff.1 hb).1
 have hle:=h.le
 refine⟨h.own,h.len,h.eq,by have:=h.le;omega,hj,fun x hx=>?_,by have:=h.few;omega,h.bel⟩
 rw[show j+1-a=j-a+1 by omega,List.take_add_one,List.getElem?_drop,show a+(j-a)=j by omega,hb]at hx
 rcases List.mem_append.1 hx with hx|hx
 ·exact h.no x hx
 ·simp at hx
  rw[hx];exact hn
theorem PtI.cut (h:PtI W s c j a m v w outs) (hb:s[j]? =some b) (hn:b=c) (ho:w'.ownsRow W.heap.size 9 1 v' (m+1) (yv jQ (outs++[(s.drop a).take (j-a)]))) (hk:Below W.heap.size W w'):PtI W s c (j+1) (j+1) (m+1) v' w' (outs++[(s.drop a).take (j-a)]):=by
 have hj:=(List.getElem?_eq_some_iff.1 hb).1
 have hle:=h.le
 refine⟨ho,by rw[h.len];simp,?_,Nat.le_refl _,hj,by simp,by have:=h.few;omega,hk⟩
 have e:s.drop a=(s.drop a).take (j-a)++c::s.drop (j+1):=by
  have h1:(s.drop a).drop (j-a)=c::s.drop (j+1):=by
   rw[List.drop_drop,show a+(j-a)=j by omega,List.drop_eq_getElem_cons hj]
   rw[List.getElem?_eq_getElem hj]at hb
   injection hb with hb
   rw[hb,hn]
  rw[←h1,List.take_append_drop]
 rw[h.eq]
 conv=>lhs;rw[e,abU h.no]
 simp
theorem PtI.mle (h:PtI W s c j a m v w outs):m+1≤(zv c s).length:=by
 have h1:=List.length_pos_iff.2 (jq c (s.drop a))
 rw[h.eq,List.length_append,←h.len]
 omega
theorem PtI.fin (h:PtI W s c s.length a m v w outs) (ho:w'.ownsRow W.heap.size 9 1 v' (m+1) (yv jQ (outs++[s.drop a]))):w'.ownsRow W.heap.size 9 1 v' (zv c s).length (yv jQ (zv c s)):=by
 have hn:=h.no
 rw[List.take_of_length_le (by simp)]at hn
 have e:zv c s=outs++[s.drop a]:=by rw[h.eq,ahw hn]
 rw[e]
 have:=h.len
 rw[show(outs++[s.drop a]).length=m+1 by rw[this];simp]
 exact ho
end
def PtP (W:World) (s:Bs) (c:UInt8) (e:Ending) (w':World):Prop:= ∃p n k,e= .returned (.slice p n k)∧n=(zv c s).length∧Vw 1 jQ w' (.slice p n k) (zv c s)∧Below W.heap.size W w'
theorem PtP.of {W w':World} {s:Bs} {c:UInt8} {v:Value} (ho:w'.ownsRow W.heap.size 9 1 v (zv c s).length (yv jQ (zv c s))) (hb:Below W.heap.size W w'):PtP W s c (.returned v) w':=by
 obtain⟨p,k,rfl⟩:=zm ho
 exact⟨p,_,k,rfl,rfl,.of_own v9 ho rfl,hb⟩
theorem JM (s:Bs) (c:UInt8) (hs:s.length≤250000) (hq:(zv c s).length≤100000) (W:World):Calls Tryz.prog 18 #[.string (S s),.int .u8 c.toNat] W (PtP W s c):=by
 obtain⟨n,hn⟩: ∃n,n=s.length:=⟨_,rfl⟩
 have HN:=hid hn
 have HI0:Hid (∃outs,PtI W s c 0 0 0 (.slice none 0 0) W outs):=hid ⟨_,PtI.start W s c⟩
 have HS:=hid hq
 clear hq
 go_enter Tryz.func18,Tryz.ntmps18
 go_wp2
 rw[←HN.out]
 clear hn
 go_loopg [5,6,10] n (fun gg s5 s6 s10 wr=> ∃(j a m:Nat) (p:Option Addr) (k:Nat),j≤n∧n-j≤gg∧a≤j∧s5= .slice p m k∧s6= .int .i64 a∧s10= .int .i64 j∧Hid (∃outs,PtI W s c j a m (.slice p m k) wr outs))
 case atStart=>exact⟨0,0,0,none,0,by omega,by omega,by omega,rfl,rfl,rfl,HI0⟩
 case round=>
  obtain⟨j,a,m,p,k,hj,hgg,ha,rfl,rfl,rfl,HI⟩:=hrel
  obtain⟨outs,hI⟩:=HI.out
  have HX:=hid hI
  by_cases hjn:j<n
  ·have hjs:j<s.length:=by rw[←HN.out];exact hjn
   have hji:(j:Int)<(n:Int):=by omega
   obtain⟨b,hb⟩: ∃b,s[j]=b:=⟨_,rfl⟩
   have HB:Hid (s[j]? =some b):=hid (by rw[←hb];exact List.getElem?_eq_getElem hjs)
   have HJ:=hid hjn
   have haj:(a:Int)≤(j:Int):=by omega
   clear hI HI
   by_cases hc:b=c
   ·subst hc
    go_wp2_with (with_reducible refine yd .append rfl ?_)
    with_reducible refine ki ?_
    refine zO rfl _ _ 56 rfl jQ Qa Tryz.underlying56 rfl (by decide) (by decide) v9 Zv ((s.drop a).take (j-a)) HX.out.own (by have:=HX.out.mle;have:=HS.out;omega) HX.out.bel.size rfl rfl ?_
    intro v3 w3 ho3 hk3 _
    obtain⟨p3,c3,rfl⟩:=zm ho3
    have HF:Hid (∃outs,PtI W s b (j+1) (j+1) (m+1) (.slice p3 (m+1) c3) w3 outs):=hid ⟨_,HX.out.cut HB.out rfl ho3 (HX.out.bel.trans (hk3.to_below HX.out.bel.size fun x hx=>(HX.out.own.lt x (Option.mem_toList.1 hx)).1))⟩
    clear ho3 hk3
    go_wp2
    go_roundg (n- (j+1))
    case measure=>omega
    case rel=>exact⟨j+1,j+1,m+1,p3,c3,by have:=HJ.out;omega,by omega,by omega,rfl,by go_num,by go_num,HF⟩
   ·have hne: ¬((b.toNat:Int)=(c.toNat:Int)):=fun h=>hc (UInt8.toNat_inj.1 (by omega))
    have HF:=hid (⟨_,HX.out.on HB.out hc⟩: ∃outs,PtI W s c (j+1) a m (.slice p m k) wr outs)
    go_wp2
    go_roundg (n- (j+1))
    case measure=>omega
    case rel=>exact⟨j+1,a,m,p,k,by have:=HJ.out;omega,by omega,by omega,rfl,rfl,by go_num,HF⟩
  ·have hje:j=n:=by omega
   have hji: ¬(j:Int)<(n:Int):=by omega
   have haj:(a:Int)≤(s.length:Int):=by rw[←HN.out];omega
   rw[hje,HN.out]at HX
   clear hI HI
   go_wp2_with (with_reducible refine yd .append rfl ?_)
   with_reducible refine ki ?_
   refine zO rfl _ _ 56 rfl jQ Qa Tryz.underlying56 rfl (by decide) (by decide) v9 Zv ((s.drop a).take (s.length-a)) HX.out.own (by have:=HX.out.mle;have:=HS.out;omega) HX.out.bel.size rfl rfl ?_
   intro v3 w3 ho3 hk3 _
   rw[show(s.drop a).take (s.length-a)=s.drop a from List.take_of_length_le (by simp)]at ho3
   have HF:=hid (PtP.of (HX.out.fin ho3) (HX.out.bel.trans (hk3.to_below HX.out.bel.size fun x hx=>(HX.out.own.lt x (Option.mem_toList.1 hx)).1)))
   obtain⟨p3,c3,rfl⟩:=zm ho3
   clear ho3 hk3
   go_wp2
   go_ret
   exact HF.out
theorem ah9 (s:Bs) (c:UInt8) (hs:s.length≤90000) (W:World):Calls Tryz.prog 18 #[.string (S s),.int .u8 c.toNat] W (PtP W s c):=JM s c (by omega) (by have:=xz c s;omega) W
end
section
open Go.RowKit Go.Lib
def aSk (W:World) (s:Bs) (e:Ending) (w':World):Prop:= ∃n:Int,e= .returned (.tuple #[.int .i64 n,.bool (yR s).isSome])∧(∀k,yR s=some k→n=k)∧W=w'
theorem aCa (r:Bs): ∀a,a≤r.foldl (fun n b=>n*10+(b.toNat-48)) a:=by
 induction r with
 |nil=>intro a;exact Nat.le_refl _
 |cons b r ih=>intro a;exact Nat.le_trans (by omega) (ih (a*10+(b.toNat-48)))
theorem ajO (l r:Bs):QL l≤QL (l++r):=by
 unfold QL
 rw[List.foldl_append]
 exact aCa r _
theorem aik (l:Bs) (j:Nat):QL (l.take j)≤QL l:=by
 have:=ajO (l.take j) (l.drop j)
 rwa[List.take_append_drop]at this
theorem ajb {s:Bs} {j:Nat} (h:1099511627776<QL (s.take j)):yR s=none:=by
 unfold yR
 rw[if_neg (fun h2=>by have:=aik s j;omega)]
theorem Qj {s:Bs} {j:Nat} {b:UInt8} (hb:s[j]? =some b) (h:aal b=false):yR s=none:=by
 unfold yR
 rw[if_neg (fun h2=>by
  have:=List.all_eq_true.1 h2.2.1 b (List.mem_of_getElem? hb)
  rw[h]at this;cases this)]
structure NuI (s:Bs) (j n:Nat):Prop where
 v:n=QL (s.take j)
 d: ∀b∈s.take j,aal b=true
theorem NuI.on {s:Bs} {j n:Nat} {b:UInt8} (h:NuI s j n) (hb:s[j]? =some b) (hd:aal b=true):NuI s (j+1) (n*10+(b.toNat-48)):=by
 have e:s.take (j+1)=s.take j++[b]:=by rw[List.take_add_one,hb];rfl
 refine⟨by rw[e,aij,←h.v],fun x hx=>?_⟩
 rw[e]at hx
 rcases List.mem_append.1 hx with hx|hx
 ·exact h.d x hx
 ·simp at hx;rw[hx];exact hd
theorem aaI {s:Bs} {n:Nat} (h:NuI s s.length n):yR s=if s≠[]∧(s.getD 0 0≠48∨s.length=1)∧n≤1099511627776 then some n else none:=by
 obtain⟨hv,hd⟩:=h
 rw[List.take_length]at hv hd
 unfold yR
 have:s.all aal=true:=List.all_eq_true.2 hd
 rw[hv]
 by_cases h1:s≠[]∧(s.getD 0 0≠48∨s.length=1)∧QL s≤1099511627776
 ·rw[if_pos h1,if_pos ⟨h1.1,this,h1.2.1,h1.2.2⟩]
 ·rw[if_neg h1,if_neg (fun h=>h1 ⟨h.1,h.2.2.1,h.2.2.2⟩)]
theorem agv (b:UInt8) (h0:48≤b.toNat) (h1:b.toNat≤57):aal b=true:=by simp[aal,h0,h1]
theorem kJ (s:Bs) (hs:s.length≤90000) (W:World):Calls Tryz.prog 46 #[.string (S s)] W (aSk W s):=by
 obtain⟨n,hn⟩: ∃n,n=s.length:=⟨_,rfl⟩
 have HN:=hid hn
 have HI0:Hid (NuI s 0 0):=hid ⟨by simp[QL],by simp⟩
 have HS:=hid hs
 go_enter Tryz.func46,Tryz.ntmps46
 go_wp2
 rw[←HN.out]
 clear hn
 go_loopg [4,8] n (fun gg s4 s8 wr=> ∃(j m:Nat),j≤n∧n-j≤gg∧m≤20000000000000∧s4= .int .i64 m∧s8= .int .i64 j∧Hid (NuI s j m)∧W=wr)
 case atStart=>exact⟨0,0,by omega,by omega,by omega,rfl,rfl,HI0,rfl⟩
 case round=>
  obtain⟨j,m,hj,hgg,hm,rfl,rfl,HI,rfl⟩:=hrel
  by_cases hjn:j<n
  ·have hjs:j<s.length:=by rw[←HN.out];exact hjn
   have hji:(j:Int)<(n:Int):=by omega
   obtain⟨b,hb⟩: ∃b,s[j]=b:=⟨_,rfl⟩
   have HB:Hid (s[j]? =some b):=hid (by rw[←hb];exact List.getElem?_eq_getElem hjs)
   have HJ:=hid hjn
   have hb256:=b.toNat_lt
   by_cases c1:(b.toNat:Int)<48
   ·have hno:Hid (yR s=none):=hid (Qj HB.out (by unfold aal;rw[decide_eq_false (by omega)];rfl))
    go_wp2
    go_ret2
    exact⟨0,by rw[hno.out];rfl,(fun k hk=>by rw[hno.out]at hk;cases hk),rfl⟩
   ·by_cases c2:(57:Int)<(b.toNat:Int)
    ·have hno:Hid (yR s=none):=hid (Qj HB.out (by unfold aal;rw[decide_eq_false (p:=b.toNat≤57) (by omega),Bool.and_false]))
     go_wp2
     go_ret2
     exact⟨0,by rw[hno.out];rfl,(fun k hk=>by rw[hno.out]at hk;cases hk),rfl⟩
    ·by_cases c3:(1099511627776:Int)<(m:Int)
     ·have hno:Hid (yR s=none):=hid (ajb (j:=j) (by rw[←HI.out.v];omega))
      go_wp2
      go_ret2
      exact⟨0,by rw[hno.out];rfl,(fun k hk=>by rw[hno.out]at hk;cases hk),rfl⟩
     ·have HF:=hid (HI.out.on HB.out (agv b (by omega) (by omega)))
      have hB:Hid (48≤b.toNat∧b.toNat≤57):=hid (by omega)
      go_wp2
      go_roundg (n- (j+1))
      case measure=>omega
      case rel=>exact⟨j+1,m*10+(b.toNat-48),by have:=HJ.out;omega,by omega,by have:=hB.out;omega,by have:=hB.out;go_num,by go_num,HF,rfl⟩
  ·have hje:j=n:=by omega
   have hji: ¬(j:Int)<(n:Int):=by omega
   have HE:=HI.out
   rw[hje,HN.out]at HE
   have HO:=hid (aaI HE)
   clear HE HI
   cases s with
   |nil=>
    go_wp2
    go_ret2
    exact⟨m,by rw[HO.out];rfl,(fun k hk=>by rw[HO.out]at hk;cases hk),rfl⟩
   | cons b r=>
    have hyes: ∀(h:(b::r).getD 0 0≠48∨(b::r).length=1) (h2:m≤1099511627776),yR (b::r)=some m:=fun h h2=>by rw[HO.out,if_pos ⟨by simp,h,h2⟩]
    have hno1: ¬m≤1099511627776→yR (b::r)=none:=fun h2=>by rw[HO.out,if_neg (fun h=>h2 h.2.2)]
    have HY:=hid (⟨hyes,hno1⟩:_∧_)
    have hb256:=b.toNat_lt
    clear hyes hno1
    by_cases c1:(b.toNat:Int)=48
    ·obtain rfl:b=48:=UInt8.toNat_inj.1 (by show b.toNat=48;omega)
     cases r with
     | nil=>
      by_cases c3:(m:Int)≤1099511627776
      ·go_wp2
       go_ret2
       have e:=HY.out.1 (.inr rfl) (by omega)
       exact⟨m,by rw[e];rfl,(fun k hk=>by rw[e]at hk;injection hk with hk;rw[hk]),rfl⟩
      ·go_wp2
       go_ret2
       have e:=HY.out.2 (by omega)
       exact⟨m,by rw[e];rfl,(fun k hk=>by rw[e]at hk;cases hk),rfl⟩
     |cons c r=>
      have e:Hid (yR (48::c::r)=none):=hid (by rw[HO.out,if_neg (fun h=>by have:=h.2.1;simp at this)])
      go_wp2
      go_ret2
      exact⟨m,by rw[e.out];rfl,(fun k hk=>by rw[e.out]at hk;cases hk),rfl⟩
    ·have hn:(b::r).getD 0 0≠48:=by
      show b≠48
      rintro rfl
      exact c1 rfl
     have HNE:=hid hn
     clear hn
     by_cases c3:(m:Int)≤1099511627776
     ·go_wp2
      go_ret2
      have e:=HY.out.1 (.inl HNE.out) (by omega)
      exact⟨m,by rw[e];rfl,(fun k hk=>by rw[e]at hk;injection hk with hk;rw[hk]),rfl⟩
     ·go_wp2
      go_ret2
      have e:=HY.out.2 (by omega)
      exact⟨m,by rw[e];rfl,(fun k hk=>by rw[e]at hk;cases hk),rfl⟩
theorem NuI.lt {s:Bs} {j n:Nat} (h:NuI s j n) (hj:j≤13):n≤9999999999999:=by
 have hd:=h.d
 rw[h.v]
 have: ∀(l:Bs),(∀b∈l,aal b=true)→ ∀a,l.foldl (fun n b=>n*10+(b.toNat-48)) a+1≤(a+1)*10^l.length:=by
  intro l
  induction l with
  |nil=>intro _ a;simp
  |cons b l ih=>
   intro hl a
   have hb:=hl b (by simp)
   unfold aal at hb
   simp only[Bool.and_eq_true,decide_eq_true_eq]at hb
   refine Nat.le_trans (ih (fun x hx=>hl x (by simp[hx])) _) ?_
   have h5:a*10+(b.toNat-48)+1≤(a+1)*10:=by omega
   rw[List.length_cons,Nat.pow_succ,Nat.mul_comm (10^l.length),←Nat.mul_assoc]
   exact Nat.mul_le_mul_right _ h5
 have h1:=this (s.take j) hd 0
 have h2:10^(s.take j).length≤10^13:=Nat.pow_le_pow_right (by omega) (by simp;omega)
 unfold QL
 omega
end
section
open Go.RowKit Go.Lib
theorem aaM (w:World) (b:UInt8):(convert 73 9 (.slice (some ⟨w.heap.size,0,none⟩) 1 1)).run Tryz.prog (w.alloc (.cells #[.int .u8 b.toNat] 5))= .ok (.string (S [b])) (w.alloc (.cells #[.int .u8 b.toNat] 5)):=by
 have hB:=Blk.new w 5 #[.int .u8 b.toNat]
 refine run_convert_bytes_back _ 73 9 5 ⟨w.heap.size,0,none⟩ 1 [b] Tryz.underlying73 Tryz.underlying5 Tryz.underlying9 fun j hj=>?_
 obtain rfl:j=0:=by simp at hj;omega
 exact hB.cell 0
theorem aVE {w:World} {g:Nat} {b:UInt8} (hB:Blk w g 5 #[.int .u8 b.toNat]):(convert 73 9 (.slice (some ⟨g,0,none⟩) 1 1)).run Tryz.prog w= .ok (.string (S [b])) w:=by
 refine run_convert_bytes_back _ 73 9 5 ⟨g,0,none⟩ 1 [b] Tryz.underlying73 Tryz.underlying5 Tryz.underlying9 fun j hj=>?_
 obtain rfl:j=0:=by simp at hj;omega
 exact hB.cell 0
def DgP (W:World) (b:Bs) (e:Ending) (w':World):Prop:=e= .returned (.string (S b))∧Below W.heap.size W w'
theorem X4 (n:Nat) (h:n<9223372036854775808):(Zl n).length≤100:=by
 have: ∀k m,m<10^k→(Zl m).length≤k+1:=by
  intro k
  induction k with
  |zero=>intro m hm;rw[V8 (by omega)];simp
  | succ k ih=>
   intro m hm
   by_cases h:m<10
   ·rw[V8 h];simp
   ·rw[agw h,List.length_append]
    have:=ih (m / 10) (by rw[Nat.pow_succ]at hm;omega)
    simp;omega
 have:=this 19 n (Nat.lt_of_lt_of_le h (by decide))
 omega
theorem aWe (n:Nat) (h:n<10):(UInt8.ofNat (48+n)).toNat=48+n:=by simp;omega
theorem aTr (n:Nat): ∀(hn:n<9223372036854775808) (W:World),Calls Tryz.prog 32 #[.int .i64 n] W (DgP W (Zl n)):=by
 induction n using Nat.strongRecOn with
 | _ n ih=>
  intro hn W
  have t1: ¬((n:Int)= -9223372036854775808):=by omega
  have t2: ¬(n:Int)<0:=by omega
  by_cases h:n<10
  ·have t3:(n:Int)<10:=by omega
   obtain⟨b,hb⟩: ∃b,b=UInt8.ofNat (48+n):=⟨_,rfl⟩
   have hv:(48+(n:Int))=(b.toNat:Int):=by rw[hb,aWe n h];omega
   have hc:=aaM W b
   rw[←hv]at hc
   rw[V8 h,←hb]
   have HF:Hid (Below W.heap.size W (W.alloc (.cells #[.int .u8 (48+(n:Int))] 5))):=hid ((Below.refl _ W).alloc (Nat.le_refl _) _)
   clear ih hv hb
   go_enter Tryz.func32,Tryz.ntmps32
   go_wp2
   go_ret
   exact⟨rfl,HF.out⟩
  ·have t3: ¬(n:Int)<10:=by omega
   obtain⟨b,hb⟩: ∃b,b=UInt8.ofNat (48+n%10):=⟨_,rfl⟩
   obtain⟨q,hq⟩: ∃q,q=n / 10:=⟨_,rfl⟩
   have hv:(b.toNat:Int)=48+(n:Int)%10:=by rw[hb,aWe _ (by omega)];omega
   have h1:IntKind.i64.wrap ((n:Int) / 10)=(q:Int):=by rw[IntKind.wrap_i64,hq];omega
   have h2:IntKind.u8.wrap (IntKind.i64.wrap (48+(n:Int).tmod 10))=(b.toNat:Int):=by
    rw[hv,IntKind.wrap_i64]
    rw[IntKind.wrap_u8]
    have:(n:Int).tmod 10=((n%10:Nat):Int):=by rw[Int.tmod_eq_emod_of_nonneg (by omega)];omega
    rw[this]
    omega
   have HI:=hid (fun W'=>ih q (by omega) (by omega) W')
   have hlen: ¬9223372036854775807<(Zl q).length+1:=by have:=X4 q (by omega);omega
   rw[agw h,←hb,←hq]
   have H1:=hid h1
   have H2:=hid h2
   have HLN:=hid hlen
   clear ih hb hq hv h1 h2 hlen
   go_enter Tryz.func32,Tryz.ntmps32
   go_wp2
   refine zB (fun _=>True) 10 (by kernel_rfl) trivial (fun hHeld=>?_)
   refine eT 0 hHeld ?_;(try simp only[Act.put,sEa,sEb,sEc]);refine eT 1 hHeld ?_;(try simp only[Act.put,sEa,sEb,sEc]);refine eT 3 hHeld ?_;(try simp only[Act.put,sEa,sEb,sEc]);refine eT 4 hHeld ?_;(try simp only[Act.put,sEa,sEb,sEc]);refine eT 5 hHeld ?_;(try simp only[Act.put,sEa,sEb,sEc]);refine eT 6 hHeld ?_;(try simp only[Act.put,sEa,sEb,sEc])
   rw[H1.out,H2.out]
   refine eR2 (i:=2) (j:=7) (by(simp only[gEa,gEb,gEc];try rfl)) (by(simp only[gEa,gEb,gEc];try rfl)) (by kernel_rfl) (by rfl) (fun K hK=>?_) (fun K hK=>?_)
   ·go_simp
    (with_reducible refine(HI.out _).mono ?_)
    rintro r w2 ⟨rfl,hb2⟩
    have HF:Hid (Below W.heap.size W (w2.alloc (.cells #[.int .u8 b.toNat] 5))):=hid (((Z0 (Below.refl _ W) 1).trans hb2).alloc hb2.size _)
    have HC:=hid (aVE (Blk.new w2 5 #[.int .u8 b.toNat]))
    clear hb2
    refine hK.out _ _ trivial (fun hHeld=>?_)
    clear hK K
    (try simp only[Act.put,sEa,sEb,sEc])
    refine eR 7 (fun K hK=>?_);go_simp;refine hK.out _ _ (by trivial) (fun hHeld=>?_);clear hK K;(try simp only[Act.put,sEa,sEb,sEc])
    have hc:=HC.out
    refine eR 8 (fun K hK=>?_);go_simp;refine hK.out _ _ (by trivial) (fun hHeld=>?_);clear hK K;(try simp only[Act.put,sEa,sEb,sEc])
    have hlen:=HLN.out
    refine eT 9 hHeld ?_;(try simp only[Act.put,sEa,sEb,sEc]);refine eL (fun K hK=>?_);go_simp;refine hK.out _ _ ?_;clear hK K;(try simp only[Act.put,sEa,sEb,sEc])
    go_wp2
    go_ret
    exact⟨rfl,HF.out⟩
   ·go_simp
    have HB:Hid (Blk (W.alloc (.cells #[.int .u8 b.toNat] 5)).drew W.heap.size 5 #[.int .u8 b.toNat]∧Below W.heap.size W (W.alloc (.cells #[.int .u8 b.toNat] 5)).drew):=hid ⟨Blk.new _ _ _,Z0 ((Below.refl _ W).alloc (Nat.le_refl _) _) 1⟩
    refine hK.out _ _ trivial (fun hHeld=>?_)
    clear hK K
    (try simp only[Act.put,sEa,sEb,sEc])
    refine eR2 (i:=2) (j:=8) (by(simp only[gEa,gEb,gEc];try rfl)) (by(simp only[gEa,gEb,gEc];try rfl)) (by kernel_rfl) (by rfl) (fun K hK=>?_) (fun K hK=>?_)
    ·go_simp
     (with_reducible refine(HI.out _).mono ?_)
     rintro r w2 ⟨rfl,hb2⟩
     have HF:Hid (Below W.heap.size W w2):=hid (HB.out.2.trans (hb2.mono HB.out.2.size))
     have HC:=hid (aVE (HB.out.1.below hb2 HB.out.1.lt))
     clear hb2
     refine hK.out _ _ trivial (fun hHeld=>?_)
     clear hK K
     (try simp only[Act.put,sEa,sEb,sEc])
     have hc:=HC.out
     refine eR 8 (fun K hK=>?_);go_simp;refine hK.out _ _ (by trivial) (fun hHeld=>?_);clear hK K;(try simp only[Act.put,sEa,sEb,sEc])
     have hlen:=HLN.out
     refine eT 9 hHeld ?_;(try simp only[Act.put,sEa,sEb,sEc]);refine eL (fun K hK=>?_);go_simp;refine hK.out _ _ ?_;clear hK K;(try simp only[Act.put,sEa,sEb,sEc])
     go_wp2
     go_ret
     exact⟨rfl,HF.out⟩
    ·have hc:=aVE HB.out.1
     go_simp
     refine hK.out _ _ trivial (fun hHeld=>?_)
     clear hK K
     (try simp only[Act.put,sEa,sEb,sEc])
     refine eR 2 (fun K hK=>?_)
     go_simp
     (with_reducible refine(HI.out _).mono ?_)
     rintro r w2 ⟨rfl,hb2⟩
     have HF:Hid (Below W.heap.size W w2):=hid (HB.out.2.trans (hb2.mono HB.out.2.size))
     clear hb2 hc
     refine hK.out _ _ trivial (fun hHeld=>?_)
     clear hK K
     (try simp only[Act.put,sEa,sEb,sEc])
     have hlen:=HLN.out
     refine eT 9 hHeld ?_;(try simp only[Act.put,sEa,sEb,sEc]);refine eL (fun K hK=>?_);go_simp;refine hK.out _ _ ?_;clear hK K;(try simp only[Act.put,sEa,sEb,sEc])
     go_wp2
     go_ret
     exact⟨rfl,HF.out⟩
theorem aiN:Zl 9223372036854775808=[57,50,50,51,51,55,50,48,51,54,56,53,52,55,55,53,56,48,56]:=by simp[Zl]
theorem aR0:({ data:= #[45,57,50,50,51,51,55,50,48,51,54,56,53,52,55,55,53,56,48,56] } :ByteArray)=S (Xb (-9223372036854775808)):=by
 unfold Xb
 rw[if_pos (by decide),show(-(-9223372036854775808:Int)).toNat=9223372036854775808 by decide,aiN]
 rfl
theorem aST {x:Int} (hx:okZ x) (W:World):Calls Tryz.prog 32 #[.int .i64 x] W (DgP W (Xb x)):=by
 by_cases hm:x= -9223372036854775808
 ·subst hm
  have HE:=hid aR0
  go_enter Tryz.func32,Tryz.ntmps32
  go_wp2
  go_ret
  exact⟨by rw[←HE.out];rfl,Below.refl _ _⟩
 ·by_cases hn:x<0
  ·obtain⟨q,hq⟩: ∃q,q=(-x).toNat:=⟨_,rfl⟩
   have hqx: -x=(q:Int):=by rw[hq];omega
   have hq2:q<9223372036854775808:=by unfold okZ at hx;omega
   have HI:=hid (fun W'=>aTr q hq2 W')
   have hlen: ¬9223372036854775807<1+(Zl q).length:=by have:=X4 q hq2;omega
   have hw:wrap64 (q:Int)=(q:Int):=by unfold wrap64;omega
   have HE:Hid (Xb x=45::Zl q):=hid (by unfold Xb;rw[if_pos hn,hq])
   rw[HE.out]
   have HX:=hid hx
   clear hq hq2 hx
   go_enter Tryz.func32,Tryz.ntmps32
   go_wp2_with fail
   (with_reducible refine(HI.out _).mono ?_)
   rintro r w2 ⟨rfl,hb2⟩
   have HB:=hid hb2
   clear hb2
   go_wp2
   go_ret
   exact⟨rfl,HB.out⟩
  ·have e:x=((x.toNat:Nat):Int):=by omega
   have HE:Xb x=Zl x.toNat:=by unfold Xb;rw[if_neg hn]
   rw[HE,e]
   exact aTr _ (by unfold okZ at hx;omega) W
theorem Yw (N:Nat) (hN:N<9223372036854775808) (W:World):Calls Tryz.prog 37 #[.int .i64 N] W (DgP W (Zl N)):=by
 have t1: ¬((N:Int)= -9223372036854775808):=by omega
 have t2: ¬(N:Int)<0:=by omega
 have hv: ∀n:Nat,((UInt8.ofNat (48+n%10)).toNat:Int)=48+(n:Int)%10:=fun n=>by rw[aWe _ (by omega)];omega
 have HL:=hid (X4 N hN)
 have HN:=hid hN
 obtain⟨b,hb⟩: ∃b,b=UInt8.ofNat (48+N%10):=⟨_,rfl⟩
 have hc:=aaM W b
 have hv0:=hv N
 rw[←hb]at hv0
 have HV:=hid hv
 have HB:Hid (∃suf,Zl N=Zl N++suf∧[b]=UInt8.ofNat (48+N%10)::suf):=hid ⟨[],by simp,by rw[hb]⟩
 rw[hv0]at hc
 have HF:Hid (Below W.heap.size W (W.alloc (.cells #[.int .u8 (48+(N:Int)%10)] 5))):=hid ((Below.refl _ W).alloc (Nat.le_refl _) _)
 clear hv hN hb hv0
 go_enter Tryz.func37,Tryz.ntmps37
 go_wp2
 clear hc
 go_loopg [0,3] N (fun gg s0 s3 wr=> ∃(n:Nat) (o:Bs),n≤gg∧n≤N∧s0= .int .i64 n∧s3= .string (S o)∧Hid (∃suf,Zl N=Zl n++suf∧o=UInt8.ofNat (48+n%10)::suf)∧Hid (Below W.heap.size W wr))
 case atStart=>exact⟨N,[b],by omega,by omega,rfl,rfl,HB,HF⟩
 case round=>
  obtain⟨n,o,hgg,hnN,rfl,rfl,HI,HW⟩:=hrel
  by_cases h9:(9:Int)<(n:Int)
  ·obtain⟨q,hq⟩: ∃q,q=n / 10:=⟨_,rfl⟩
   obtain⟨c,hcc⟩: ∃c,c=UInt8.ofNat (48+q%10):=⟨_,rfl⟩
   have hc:=aaM wr c
   have hv1:=HV.out q
   rw[←hcc]at hv1
   rw[hv1]at hc
   have hqn:(n:Int) / 10=(q:Int):=by omega
   have g1:wrap64 (q:Int)=(q:Int):=by have:=HN.out;unfold wrap64;omega
   have g2:(q:Int).tmod 10=(q:Int)%10:=Int.tmod_eq_emod_of_nonneg (by omega)
   have g3:wrap64 (48+(q:Int)%10)=48+(q:Int)%10:=by unfold wrap64;omega
   have g4:(48+(q:Int)%10)%256=48+(q:Int)%10:=by omega
   have hlen: ¬9223372036854775807<1+o.length:=by
    obtain⟨suf,e1,e2⟩:=HI.out
    have:=HL.out
    rw[e1,List.length_append]at this
    rw[e2,List.length_cons]
    omega
   have HF2:Hid (∃suf,Zl N=Zl q++suf∧c::o=UInt8.ofNat (48+q%10)::suf):=hid (by
    obtain⟨suf,e1,e2⟩:=HI.out
    refine⟨o,?_,by rw[hcc]⟩
    rw[e1,agw (n:=n) (by omega),←hq,e2]
    simp)
   have HW2:Hid (Below W.heap.size W (wr.alloc (.cells #[.int .u8 (48+(q:Int)%10)] 5))):=hid (HW.out.alloc HW.out.size _)
   have HQ:Hid (q<n∧q≤N):=hid (by omega)
   clear hq hcc hv1
   go_wp2
   go_roundg q
   case measure=>have:=HQ.out;omega
   case rel=>exact⟨q,c::o,by omega,HQ.out.2,by go_num,rfl,HF2,HW2⟩
  ·have HE:Hid (o=Zl N):=hid (by
    obtain⟨suf,e1,e2⟩:=HI.out
    rw[e1,e2,V8 (n:=n) (by omega),Nat.mod_eq_of_lt (by omega)]
    rfl)
   go_wp2
   go_ret
   exact⟨by rw[←HE.out];rfl,HW.out⟩
theorem vl {x:Int} (hx:okZ x) (W:World):Calls Tryz.prog 37 #[.int .i64 x] W (DgP W (Xb x)):=by
 by_cases hm:x= -9223372036854775808
 ·subst hm
  have HE:=hid aR0
  go_enter Tryz.func37,Tryz.ntmps37
  go_wp2
  go_ret
  exact⟨by rw[←HE.out];rfl,Below.refl _ _⟩
 ·by_cases hn:x<0
  ·obtain⟨q,hq⟩: ∃q,q=(-x).toNat:=⟨_,rfl⟩
   have hqx: -x=(q:Int):=by rw[hq];omega
   have hq2:q<9223372036854775808:=by unfold okZ at hx;omega
   have HI:=hid (fun W'=>Yw q hq2 W')
   have hlen: ¬9223372036854775807<1+(Zl q).length:=by have:=X4 q hq2;omega
   have hw:wrap64 (q:Int)=(q:Int):=by unfold wrap64;omega
   have HE:Hid (Xb x=45::Zl q):=hid (by unfold Xb;rw[if_pos hn,hq])
   rw[HE.out]
   have HX:=hid hx
   clear hq hq2 hx
   go_enter Tryz.func37,Tryz.ntmps37
   go_wp2_with fail
   (with_reducible refine(HI.out _).mono ?_)
   rintro r w2 ⟨rfl,hb2⟩
   have HB:=hid hb2
   clear hb2
   go_wp2
   go_ret
   exact⟨rfl,HB.out⟩
  ·have e:x=((x.toNat:Nat):Int):=by omega
   have HE:Xb x=Zl x.toNat:=by unfold Xb;rw[if_neg hn]
   rw[HE,e]
   exact Yw _ (by unfold okZ at hx;omega) W
/-! words, halves of bytes -/
def HfP (W:World) (c:UInt8) (e:Ending) (w':World):Prop:= ∃v:Nat,e= .returned (.tuple #[.int .u8 v,.bool (xu c).isSome])∧(∀k,xu c=some k→v=k)∧W=w'
theorem aav (c:UInt8) (W:World):Calls Tryz.prog 87 #[.int .u8 c.toNat] W (HfP W c):=by
 have h256:=c.toNat_lt
 obtain⟨o,ho⟩: ∃o,o=xu c:=⟨_,rfl⟩
 unfold HfP
 rw[←ho]
 unfold xu at ho
 by_cases c1:48≤c.toNat∧c.toNat≤57
 ·rw[if_pos c1]at ho
  obtain⟨c1,c2⟩:=c1
  have HO:=hid ho
  have d1:(48:Int)≤(c.toNat:Int):=by omega
  have d2:(c.toNat:Int)≤57:=by omega
  have HC:=hid c1
  clear ho c1 c2
  go_enter Tryz.func87,Tryz.ntmps87
  go_wp2
  go_ret2
  exact⟨c.toNat-48,by rw[HO.out];have:=HC.out;congr 2;go_num,(fun k hk=>by rw[HO.out]at hk;injection hk),rfl⟩
 ·rw[if_neg c1]at ho
  by_cases c2:97≤c.toNat∧c.toNat≤102
  ·rw[if_pos c2]at ho
   obtain⟨c3,c4⟩:=c2
   have HO:=hid ho
   have d1: ¬(c.toNat:Int)≤57:=by omega
   have d0:(48:Int)≤(c.toNat:Int):=by omega
   have d3:(97:Int)≤(c.toNat:Int):=by omega
   have d2:(c.toNat:Int)≤102:=by omega
   have HC:=hid c3
   clear ho c1 c3 c4
   go_enter Tryz.func87,Tryz.ntmps87
   go_wp2
   go_ret2
   exact⟨c.toNat-87,by rw[HO.out];have:=HC.out;congr 2;go_num,(fun k hk=>by rw[HO.out]at hk;injection hk),rfl⟩
  ·rw[if_neg c2]at ho
   have HO:=hid ho
   have hcs:((48:Int)≤(c.toNat:Int)∨ ¬(48:Int)≤(c.toNat:Int))∧((97:Int)≤(c.toNat:Int)∨ ¬(97:Int)≤(c.toNat:Int)):=⟨Decidable.em _,Decidable.em _⟩
   have d5: ¬((48:Int)≤(c.toNat:Int)∧(c.toNat:Int)≤57):=by omega
   have d6: ¬((97:Int)≤(c.toNat:Int)∧(c.toNat:Int)≤102):=by omega
   clear ho c1 c2
   rcases hcs with⟨e1|e1,e2|e2⟩
   ·have d7: ¬(c.toNat:Int)≤57:=by omega
    have d8: ¬(c.toNat:Int)≤102:=by omega
    clear d5 d6
    go_enter Tryz.func87,Tryz.ntmps87
    go_wp2
    go_ret2
    exact⟨0,by rw[HO.out];rfl,(fun k hk=>by rw[HO.out]at hk;cases hk),rfl⟩
   ·have d7: ¬(c.toNat:Int)≤57:=by omega
    clear d5 d6
    go_enter Tryz.func87,Tryz.ntmps87
    go_wp2
    go_ret2
    exact⟨0,by rw[HO.out];rfl,(fun k hk=>by rw[HO.out]at hk;cases hk),rfl⟩
   ·exfalso;omega
   ·clear d5 d6
    go_enter Tryz.func87,Tryz.ntmps87
    go_wp2
    go_ret2
    exact⟨0,by rw[HO.out];rfl,(fun k hk=>by rw[HO.out]at hk;cases hk),rfl⟩
end
section
open Go.RowKit Go.Lib
def u8C (b:UInt8):List Value:=[.int .u8 b.toNat]
theorem aie (b:UInt8):(u8C b).length=1:=rfl
theorem aif (b:UInt8): ∀u∈u8C b,u.oneCell'=true:=by intro u hu;simp[u8C]at hu;rw[hu];rfl
theorem ahP (l:Bs):yv u8C l=cB l:=by
 induction l with
 |nil=>rfl
 |cons b l ih=>rw[jw,ih];rfl
theorem aMt:(Tryz.prog.info? 5).map (fun i=>(i.zero,i.size,i.bytes))=some (some (.int .u8 0),1,1):=by kernel_rfl
theorem aWj {w:World} {g:Nat} {T:TypeId} {l:Bs} (h:Blk w g T (cB l).toArray):Vw 1 u8C w (.slice (some ⟨g,0,none⟩) l.length l.length) l:=by
 refine⟨_,_,rfl,Nat.le_refl _,?_⟩
 by_cases h0:l=[]
 ·exact .inl h0
 ·refine .inr ⟨g,0,rfl,h.lt,fun i x hx q u hu=>?_⟩
  obtain⟨rfl,rfl⟩:q=0∧u= .int .u8 x.toNat:=by
   cases q with
   |zero=>simp[u8C]at hu;exact⟨rfl,hu.symm⟩
   |succ q=>simp[u8C]at hu
  rw[h.cell,Nat.zero_add,Nat.mul_one,Nat.add_zero,List.getElem?_toArray]
  simp[cB,hx]
theorem aUF {l:Bs} {j:Nat} {b:UInt8} (h:l[j]? =some b):aTs (l.take (j+1))=aTs (l.take j)++[aSy (b.toNat / 16),aSy (b.toNat%16)]:=by
 rw[List.take_add_one,h]
 unfold aTs
 simp
theorem aT9 (l:Bs):(aTs l).length=2*l.length:=by
 induction l with
 |nil=>rfl
 |cons b l ih=>rw[aSY];simp[ih];omega
def aWf:Bs:=[48,49,50,51,52,53,54,55,56,57,97,98,99,100,101,102]
theorem aVZ:({ data:= #[48,49,50,51,52,53,54,55,56,57,97,98,99,100,101,102] } :ByteArray)=S aWf:=rfl
theorem aVI: ∀n,n<16→aWf.getD n 0=aSy n:=by decide
theorem aUG (w:World) (n:Nat) (h:n<16):(Instr.index 9 (.string { data:= #[48,49,50,51,52,53,54,55,56,57,97,98,99,100,101,102] }) (.int .u8 (n:Int))).run Tryz.prog w= .ok (.int .u8 ((aSy n).toNat:Int)) w:=by
 rw[aVZ,aBX w 9 aWf .u8 (n:Int) Tryz.underlying9 (by omega) (by show(n:Int)<16;omega),←aVI n h]
 simp
theorem aVJ (s:Bs) (hs:s.length≤45000) (W:World):Calls Tryz.prog 33 #[.string (S s)] W (DgP W (aTG s)):=by
 by_cases h0:s=[]
 ·subst h0
  go_enter Tryz.func33,Tryz.ntmps33
  go_wp2
  go_ret
  exact⟨rfl,Below.refl _ _⟩
 ·have hS:s.isEmpty=false:=by cases s with
   |nil=>exact absurd rfl h0
   |cons=>rfl
  have HE:Hid (aTG s=aTs s):=hid (by unfold aTG;rw[if_neg h0])
  obtain⟨i0,hi,hz0,hz1,hz2⟩:=info_parts aMt
  obtain⟨n,hn⟩: ∃n,n=s.length:=⟨_,rfl⟩
  have HN:=hid hn
  have HS:=hid hs
  rw[HE.out]
  clear h0 hn
  go_enter Tryz.func33,Tryz.ntmps33
  go_wp2_with (refine wpList_make_own _ rfl _ _ 73 rfl W.heap.size 5 i0 (.int .u8 0) 1 Tryz.underlying73 hi hz0 hz1 .i64 .i64 (2*(s.length:Int)) (2*s.length) rfl rfl ?c1 ?c2 ?c3 ?c4 ?_)
  case c1=>omega
  case c2=>rw[hz2];omega
  case c3=>unfold maxLen;omega
  case c4=>exact Nat.le_refl _
  intro w1 ho1 hg1
  have HI0:Hid (w1.ownsRow W.heap.size 5 1 (.slice (some ⟨W.heap.size,0,none⟩) 0 (2*s.length)) 0 (yv u8C (aTs (s.take 0)))∧Below W.heap.size W w1):=hid ⟨by simpa[aTs]using ho1,(Below.refl _ W).grown hg1 (Nat.le_refl _) (fun _ h=>by cases h)⟩
  obtain⟨c0,hc0⟩: ∃c,c=2*s.length:=⟨_,rfl⟩
  rw[←hc0]at HI0⊢
  clear ho1 hg1 hc0 hi hz0 hz1 hz2
  go_wp2
  rw[←HN.out]
  go_loopg [3,13] n (fun gg s3 s13 wr=> ∃(j:Nat) (p:Option Addr) (m c:Nat),j≤n∧n-j≤gg∧m=2*j∧s3= .slice p m c∧s13= .int .i64 j∧Hid (wr.ownsRow W.heap.size 5 1 (.slice p m c) m (yv u8C (aTs (s.take j)))∧Below W.heap.size W wr))
  case atStart=>exact⟨0,_,0,c0,by omega,by omega,by omega,rfl,rfl,HI0⟩
  case round=>
   obtain⟨j,p,m,c,hj,hgg,hm,rfl,rfl,HI⟩:=hrel
   by_cases hjn:j<n
   ·have hjs:j<s.length:=by rw[←HN.out];exact hjn
    have hji:(j:Int)<(n:Int):=by omega
    obtain⟨b,hb⟩: ∃b,s[j]=b:=⟨_,rfl⟩
    have HB:Hid (s[j]? =some b):=hid (by rw[←hb];exact List.getElem?_eq_getElem hjs)
    have HJ:=hid (⟨hjn,hm⟩:_∧_)
    have hb256:=b.toNat_lt
    clear hm
    obtain⟨q,hq⟩: ∃q,q=b.toNat / 16:=⟨_,rfl⟩
    obtain⟨r,hr⟩: ∃r,r=b.toNat%16:=⟨_,rfl⟩
    have hq1:(b.toNat:Int) / 16=(q:Int):=by omega
    have hr1:bits .and .u8 (b.toNat:Int) 15=(r:Int):=by
     rw[show(15:Int)=((15:Nat):Int)from rfl,u8_and_nat _ _ hb256 (by decide),hr]
     exact congrArg _ (Nat.and_two_pow_sub_one_eq_mod b.toNat 4)
    have hi1:=fun w=>aUG w q (by omega)
    have hi2:=fun w=>aUG w r (by omega)
    have HX:Hid (aTs (s.take (j+1))=aTs (s.take j)++[aSy q,aSy r]):=hid (by rw[aUF HB.out,hq,hr])
    clear hq hr
    go_wp2
    refine zB (fun _=>True) 13 (by kernel_rfl) trivial (fun hHeld=>?_)
    refine eT 0 hHeld ?_;(try simp only[Act.put,sEa,sEb,sEc]);refine eT 1 hHeld ?_;(try simp only[Act.put,sEa,sEb,sEc]);refine eT 2 hHeld ?_;(try simp only[Act.put,sEa,sEb,sEc]);refine eT 3 hHeld ?_;(try simp only[Act.put,sEa,sEb,sEc]);refine eT 4 hHeld ?_;(try simp only[Act.put,sEa,sEb,sEc]);refine eT 5 hHeld ?_;(try simp only[Act.put,sEa,sEb,sEc]);refine eT 6 hHeld ?_;(try simp only[Act.put,sEa,sEb,sEc]);refine eT 7 hHeld ?_;(try simp only[Act.put,sEa,sEb,sEc]);refine eT 8 hHeld ?_;(try simp only[Act.put,sEa,sEb,sEc]);refine eT 9 hHeld ?_;(try simp only[Act.put,sEa,sEb,sEc]);refine eT 10 hHeld ?_;(try simp only[Act.put,sEa,sEb,sEc])
    clear hq1 hr1 hi1 hi2
    have HO:Hid (Vw 1 u8C (wr.alloc (.cells #[.int .u8 (aSy q).toNat,.int .u8 (aSy r).toNat] 5)).drew (.slice (some ⟨wr.heap.size,0,none⟩) 2 2) [aSy q,aSy r]∧(wr.alloc (.cells #[.int .u8 (aSy q).toNat,.int .u8 (aSy r).toNat] 5)).drew.ownsRow W.heap.size 5 1 (.slice p m c) m (yv u8C (aTs (s.take j)))∧Below W.heap.size W (wr.alloc (.cells #[.int .u8 (aSy q).toNat,.int .u8 (aSy r).toNat] 5)).drew):=hid ⟨aWj (l:=[aSy q,aSy r]) (Blk.new wr _ _).drew,xN HI.out.1 (fun g hg=>(Z0 ((Below.refl _ wr).alloc (Nat.le_refl _) _) 1).block g (HI.out.1.lt g hg).2),HI.out.2.trans (Z0 ((Below.refl _ wr).alloc HI.out.2.size _) 1)⟩
    refine eR 11 (fun K hK=>?_);go_simp;refine hK.out _ _ (by trivial) (fun hHeld=>?_);clear hK K;(try simp only[Act.put,sEa,sEb,sEc])
    refine eR 12 (fun K hK=>?_)
    refine aTO rfl _ _ 73 rfl u8C aMt Tryz.underlying73 rfl (by decide) (by decide) aie aif HO.out.2.1 HO.out.1 (by have:=HS.out;have:=HN.out;have:=HJ.out;simp;omega) HO.out.2.2.size rfl rfl ?_
    intro v3 w3 ho3 hk3
    rw[←HX.out]at ho3
    obtain⟨p3,c3,rfl⟩:=zm ho3
    have HF:Hid (w3.ownsRow W.heap.size 5 1 (.slice p3 (m+2) c3) (m+2) (yv u8C (aTs (s.take (j+1))))∧Below W.heap.size W w3):=hid ⟨ho3,HO.out.2.2.trans (hk3.to_below HO.out.2.2.size fun x hx=>(HO.out.2.1.lt x (Option.mem_toList.1 hx)).1)⟩
    clear ho3 hk3
    refine hK.out _ _ trivial (fun hHeld=>?_)
    clear hK K
    (try simp only[Act.put,sEa,sEb,sEc])
    refine eL (fun K hK=>?_);go_simp;refine hK.out _ _ ?_;clear hK K;(try simp only[Act.put,sEa,sEb,sEc])
    go_wp2
    go_roundg (n- (j+1))
    case measure=>omega
    case rel=>exact⟨j+1,p3,m+2,c3,by have:=HJ.out.1;omega,by omega,by have:=HJ.out.2;omega,rfl,by go_num,HF⟩
   ·have hje:j=n:=by omega
    have hji: ¬(j:Int)<(n:Int):=by omega
    have HF:Hid (Below W.heap.size W wr):=hid HI.out.2
    have ho:=HI.out.1
    rw[hje,HN.out,List.take_length,ahP]at ho
    have hm2:m=(aTs s).length:=by rw[aT9,hm,hje,HN.out]
    rw[hm2]at ho
    have hconv:=Xj ho
    rw[←hm2]at hconv
    clear ho hm2 hm HI
    go_wp2
    go_ret
    exact⟨rfl,HF.out⟩
end
section
open Go.RowKit Go.Lib
def UnP (W:World) (s:Bs) (e:Ending) (w':World):Prop:= ∃v:Bs,e= .returned (.tuple #[.string (S v),.bool (xr s).isSome])∧(∀z,xr s=some z→v=z)∧v.length≤s.length∧Below W.heap.size W w'
structure UhI (s:Bs) (i:Nat) (l:Bs):Prop where
 eq:qs s=(qs (s.drop i)).map (fun z=>l++z)
 len:i=2*l.length
theorem aan {s:Bs} {i:Nat} {a b:UInt8} (ha:s[i]? =some a) (hb:s[i+1]? =some b):s.drop i=a::b::s.drop (i+2):=by
 obtain⟨h1,e1⟩:=List.getElem?_eq_some_iff.1 ha
 obtain⟨h2,e2⟩:=List.getElem?_eq_some_iff.1 hb
 rw[List.drop_eq_getElem_cons h1,List.drop_eq_getElem_cons h2,e1,e2]
theorem UhI.no {s:Bs} {i:Nat} {l:Bs} {a b:UInt8} (h:UhI s i l) (ha:s[i]? =some a) (hb:s[i+1]? =some b) (hn:xu a=none∨xu b=none):qs s=none:=by
 rw[h.eq,aan ha hb,qs]
 rcases hn with hn|hn
 ·rw[hn];rfl
 ·rw[hn]
  cases xu a<;>rfl
theorem UhI.on {s:Bs} {i x y:Nat} {l:Bs} {a b:UInt8} (h:UhI s i l) (ha:s[i]? =some a) (hb:s[i+1]? =some b) (hx:xu a=some x) (hy:xu b=some y):UhI s (i+2) (l++[UInt8.ofNat (16*x+y)]):=by
 refine⟨?_,by rw[h.len];simp;omega⟩
 rw[h.eq,aan ha hb,qs,hx,hy]
 cases qs (s.drop (i+2))with
 |none=>rfl
 |some z=>simp
theorem UhI.fin {s:Bs} {i:Nat} {l:Bs} (h:UhI s i l) (hi:s.length≤i+1) (hl:i≤s.length):qs s=if s.length%2=0 then some l else none:=by
 have hlen:=h.len
 rw[h.eq]
 by_cases h1:s.length%2=0
 ·rw[if_pos h1,List.drop_of_length_le (by omega)]
  simp[qs]
 ·rw[if_neg h1]
  have:i<s.length:=by omega
  rw[List.drop_eq_getElem_cons this,List.drop_of_length_le (by omega)]
  rfl
theorem X9 {c:UInt8} {x:Nat} (h:xu c=some x):x<16:=by
 unfold xu at h
 split at h
 ·injection h with h;omega
 ·split at h
  ·injection h with h;omega
  ·cases h
theorem kf {s:Bs} (h0:s≠[]) (h:s≠[45]):xr s=qs s:=by
 unfold xr
 rw[if_neg h,if_neg h0]
theorem aBE {x y:Nat} (hx:x<16) (hy:y<16):bits .or .u8 ((x:Int)*16) (y:Int)=((UInt8.ofNat (16*x+y)).toNat:Int):=by
 rw[show(x:Int)*16=((x*16:Nat):Int)by omega,u8_or_nat _ _ (by omega) (by omega),nat_join 4 _ _ (by omega) (by omega)]
 simp
 omega
theorem aii (s:Bs) (hs:s.length≤90000) (W:World):Calls Tryz.prog 47 #[.string (S s)] W (UnP W s):=by
 by_cases h45:s=[45]
 ·subst h45
  go_enter Tryz.func47,Tryz.ntmps47
  go_wp2
  go_ret2
  exact⟨[],rfl,(fun z hz=>by injection hz),Nat.zero_le _,Below.refl _ _⟩
 ·have hS45:(s==[45])=false:=by simpa using h45
  have H45:=hid h45
  have HS:=hid hs
  have HI0:Hid (UhI s 0 []∧W.ownsRow W.heap.size 5 1 (.slice none 0 0) 0 (yv u8C [])∧Below W.heap.size W W):=hid ⟨⟨by simp,rfl⟩,qI _ _ _ _,Below.refl _ _⟩
  clear h45
  go_enter Tryz.func47,Tryz.ntmps47
  go_wp2
  go_loopg [4,5] s.length (fun gg s4 s5 wr=> ∃(i m:Nat) (p:Option Addr) (c:Nat),i≤s.length∧s.length-i≤gg∧s4= .slice p m c∧s5= .int .i64 i∧Hid (i=2*m)∧Hid (∃l,UhI s i l∧wr.ownsRow W.heap.size 5 1 (.slice p m c) m (yv u8C l)∧Below W.heap.size W wr))
  case atStart=>exact⟨0,0,none,0,by omega,by omega,rfl,rfl,hid rfl,hid ⟨[],HI0.out⟩⟩
  case round=>
   obtain⟨i,m,p,c,hm,hgg,rfl,rfl,Hi,HI⟩:=hrel
   obtain⟨l,hI,ho,hb⟩:=HI.out
   have HX:=hid (⟨hI,ho,hb⟩:_∧_∧_)
   clear hI ho hb HI
   by_cases hj:i+1<s.length
   ·have hji:(i:Int)+1<(s.length:Int):=by omega
    have hj0:i<s.length:=by omega
    obtain⟨a,ha⟩: ∃a,s[i]=a:=⟨_,rfl⟩
    obtain⟨b,hb⟩: ∃b,s[i+1]=b:=⟨_,rfl⟩
    have HA:Hid (s[i]? =some a∧s[i+1]? =some b):=hid ⟨by rw[←ha];exact List.getElem?_eq_getElem hj0,by rw[←hb];exact List.getElem?_eq_getElem hj⟩
    have hb2:(S s)[i+1]'(by rw[ja];exact hj)=b:=by rw[←hb];show s.toArray[i+1]=_;simp
    have HFA:=hid (aav a wr)
    have HFB:=hid (aav b wr)
    have hiz:(i:Int)≤90000:=by have:=HS.out;omega
    obtain⟨oa,hoa⟩: ∃o,o=xu a:=⟨_,rfl⟩
    obtain⟨ob,hob⟩: ∃o,o=xu b:=⟨_,rfl⟩
    unfold HfP at HFA HFB
    rw[←hoa]at HFA
    rw[←hob]at HFB
    have HO:=hid (⟨hoa.symm,hob.symm⟩:_∧_)
    have HJ:=hid hj
    clear hoa hob
    cases oa with
    | none=>
     have HN:Hid (xr s=none):=hid (by rw[kf (by rintro rfl;simp at hj0) H45.out];exact HX.out.1.no HA.out.1 HA.out.2 (.inl HO.out.1))
     have HB:=hid HX.out.2.2
     cases ob
     all_goals
      go_wp2_with fail
      (with_reducible refine HFA.out.mono ?_)
      rintro r w2 ⟨x,rfl,_,rfl⟩
      go_wp2_with fail
      (with_reducible refine HFB.out.mono ?_)
      rintro r w2 ⟨y,rfl,_,rfl⟩
      go_wp2
      go_ret2
      exact⟨[],by rw[HN.out];rfl,(fun z hz=>by rw[HN.out]at hz;cases hz),Nat.zero_le _,HB.out⟩
    | some x0=>
     cases ob with
     |none=>
      have HN:Hid (xr s=none):=hid (by rw[kf (by rintro rfl;simp at hj0) H45.out];exact HX.out.1.no HA.out.1 HA.out.2 (.inr HO.out.2))
      have HB:=hid HX.out.2.2
      go_wp2_with fail
      (with_reducible refine HFA.out.mono ?_)
      rintro r w2 ⟨x,rfl,_,rfl⟩
      go_wp2_with fail
      (with_reducible refine HFB.out.mono ?_)
      rintro r w2 ⟨y,rfl,_,rfl⟩
      go_wp2
      go_ret2
      exact⟨[],by rw[HN.out];rfl,(fun z hz=>by rw[HN.out]at hz;cases hz),Nat.zero_le _,HB.out⟩
     |some y0=>
      have HF:=hid (HX.out.1.on HA.out.1 HA.out.2 HO.out.1 HO.out.2)
      have hx16:=X9 HO.out.1
      have hy16:=X9 HO.out.2
      go_wp2_with fail
      (with_reducible refine HFA.out.mono ?_)
      rintro r w2 ⟨x,rfl,hx,rfl⟩
      obtain rfl:=hx x0 rfl
      go_wp2_with fail
      (with_reducible refine HFB.out.mono ?_)
      rintro r w2 ⟨y,rfl,hy,rfl⟩
      obtain rfl:=hy y0 rfl
      clear hx hy
      obtain⟨q,hq⟩: ∃q,q=UInt8.ofNat (16*x+y):=⟨_,rfl⟩
      have hor:=aBE hx16 hy16
      rw[←hq]at hor HF
      clear hq
      go_wp2_with (with_reducible refine yd .append rfl ?_)
      with_reducible refine ki ?_
      refine zO rfl _ _ 73 rfl u8C aMt Tryz.underlying73 rfl (by decide) (by decide) aie aif q HX.out.2.1 (by have:=Hi.out;omega) HX.out.2.2.size rfl rfl ?_
      intro v3 w3 ho3 hk3 _
      obtain⟨p3,c3,rfl⟩:=zm ho3
      have HF3:Hid (∃l,UhI s (i+2) l∧w3.ownsRow W.heap.size 5 1 (.slice p3 (m+1) c3) (m+1) (yv u8C l)∧Below W.heap.size W w3):=hid ⟨_,HF.out,ho3,HX.out.2.2.trans (hk3.to_below HX.out.2.2.size fun x hx=>(HX.out.2.1.lt x (Option.mem_toList.1 hx)).1)⟩
      clear ho3 hk3 hor
      go_wp2
      go_roundg (s.length- (i+2))
      case measure=>omega
      case rel=>exact⟨i+2,m+1,p3,c3,by have:=HJ.out;omega,by omega,rfl,by go_num,hid (by rw[Hi.out];omega),HF3⟩
   ·have hji: ¬(i:Int)+1<(s.length:Int):=by omega
    obtain⟨hI,ho,hb⟩:=HX.out
    have hml:m=l.length:=by have:=hI.len;have:=Hi.out;omega
    have HLN:Hid (l.length≤s.length):=hid (by have:=Hi.out;omega)
    rw[ahP,hml]at ho
    have hconv:=Xj ho
    rw[←hml]at hconv
    have HB:=hid hb
    have hfin:=hI.fin (by omega) hm
    have hiz:(i:Int)≤90000:=by have:=HS.out;omega
    by_cases h0:s=[]
    ·subst h0
     clear hI ho hb hml HX hfin
     go_wp2
     go_ret2
     exact⟨l,rfl,(fun z hz=>by cases hz),HLN.out,HB.out⟩
    ·have hun:=kf h0 H45.out
     have HU:=hid (hun.trans hfin)
     have hE:s.isEmpty=false:=by cases s with
      |nil=>exact absurd rfl h0
      |cons=>rfl
     clear hI ho hb hml HX hfin hun h0 hm hgg hs
     by_cases h2:s.length%2=0
     ·have HE:Hid (xr s=some l):=hid (by rw[HU.out];exact if_pos h2)
      have h4:(((s.length:Int)%2)==0)=true:=by rw[beq_iff_eq];omega
      clear h2
      go_wp2
      go_ret2
      exact⟨l,by rw[HE.out];rfl,(fun z hz=>by rw[HE.out]at hz;injection hz),HLN.out,HB.out⟩
     ·have HE:Hid (xr s=none):=hid (by rw[HU.out];exact if_neg h2)
      have h4:(((s.length:Int)%2)==0)=false:=by rw[beq_eq_false_iff_ne];omega
      clear h2
      go_wp2
      go_ret2
      exact⟨l,by rw[HE.out];rfl,(fun z hz=>by rw[HE.out]at hz;cases hz),HLN.out,HB.out⟩
end
section
open Go.RowKit Go.Lib
theorem ajP (k:Nat) (hk:k<10) (W:World):Calls Tryz.prog 49 #[.int .i64 k] W fun e w'=>e= .returned (.string (S (kw k)))∧Below W.heap.size W w':=by
 have hcs:k=0∨k=1∨k=2∨k=3∨k=4∨k=5∨k=6∨k=7∨k=8∨k=9:=by omega
 rcases hcs with rfl|rfl|rfl|rfl|rfl|rfl|rfl|rfl|rfl|rfl
 all_goals
  go_enter Tryz.func49,Tryz.ntmps49
  go_wp2
  go_ret
  exact⟨rfl,(Below.refl _ _).alloc (Nat.le_refl _) _⟩
theorem aaG (k:Nat) (hk:k<10) (W:World):Calls Tryz.prog 55 #[.int .i64 k] W fun e w'=>e= .returned (.string (S (kw k)))∧Below W.heap.size W w':=by
 have hcs:k=0∨k=1∨k=2∨k=3∨k=4∨k=5∨k=6∨k=7∨k=8∨k=9:=by omega
 rcases hcs with rfl|rfl|rfl|rfl|rfl|rfl|rfl|rfl|rfl|rfl
 all_goals
  go_enter Tryz.func55,Tryz.ntmps55
  go_wp2
  go_ret
  exact⟨rfl,(Below.refl _ _).alloc (Nat.le_refl _) _⟩
end
section
open Go.RowKit Go.Lib
theorem aSz:(Tryz.prog.info? 4).map (fun i=>(i.zero,i.size,i.bytes))=some (some (.bool false),1,1):=by kernel_rfl
section
variable {α:Type} {B B' k:Nat} {enc:α→List Value} {w w':World} {v:Value} {l:List α}
structure VwF (B k:Nat) (enc:α→List Value) (w:World) (v:Value) (l:List α):Prop where
 any: ∀w',w.heap.size≤w'.heap.size→(∀b,B≤b→b<w.heap.size→w'.heap[b]? =w.heap[b]?)→Vw k enc w' v l
theorem VwF.of_own {n:Nat} {T:TypeId} (hk: ∀x,(enc x).length=k) (h:w.ownsRow B T k v n (yv enc l)) (hn:n=l.length):VwF B k enc w v l:=⟨fun w' hs hb=>(Vw.of_own hk h hn).of_block (fun b hlt he=>hb b (h.lt b he).1 hlt) hs⟩
theorem VwF.vw (h:VwF B k enc w v l):Vw k enc w v l:=h.any w (Nat.le_refl _) fun _ _ _=>rfl
theorem VwF.nil (B k:Nat) (enc:α→List Value) (w:World) (p:Option Addr) (c:Nat):VwF B k enc w (.slice p 0 c) []:=⟨fun _ _ _=> .nil ..⟩
theorem VwF.mono (h:VwF B k enc w v l) (hB:B'≤B):VwF B' k enc w v l:=⟨fun w' hs hb=>h.any w' hs fun b h1 h2=>hb b (Nat.le_trans hB h1) h2⟩
theorem VwF.to (h:VwF B k enc w v l) (hs:w.heap.size≤w'.heap.size) (hb: ∀b,B≤b→b<w.heap.size→w'.heap[b]? =w.heap[b]?):VwF B k enc w' v l:=
 ⟨fun w'' hs' hb'=>h.any w'' (Nat.le_trans hs hs') fun b h1 h2=>(hb' b h1 (Nat.lt_of_lt_of_le h2 hs)).trans (hb b h1 h2)⟩
end
def BtP (W:World) (s:Bs) (e:Ending) (w':World):Prop:= ∃(l:List Bool) (p:Option Addr) (n c:Nat),e= .returned (.tuple #[.slice p n c,.bool (zX s).isSome])∧n=l.length∧(∀z,zX s=some z→l=z)∧VwF W.heap.size 1 boC w' (.slice p n c) l∧Below W.heap.size W w'
structure BtI (s:Bs) (i:Nat) (l:List Bool):Prop where
 eq:l=(s.take i).map fun b=>decide (b=121)
 all:(s.take i).all aca=true
 le:i≤s.length
 len:i=l.length
theorem BtI.zero (s:Bs):BtI s 0 []:=⟨by simp,by simp,by omega,rfl⟩
theorem BtI.on {s:Bs} {i:Nat} {l:List Bool} {c:UInt8} (h:BtI s i l) (hc:s[i]? =some c) (hb:aca c=true):BtI s (i+1) (l++[decide (c=121)]):=by
 have hl:i<s.length:=(List.getElem?_eq_some_iff.1 hc).1
 have ht:s.take (i+1)=s.take i++[c]:=by rw[List.take_add_one,hc];rfl
 refine⟨?_,?_,by omega,by rw[h.len];simp⟩
 ·rw[ht,List.map_append,←h.eq];rfl
 ·rw[ht,List.all_append,h.all];simp[hb]
theorem BtI.no {s:Bs} {i:Nat} {l:List Bool} {c:UInt8} (h:BtI s i l) (hc:s[i]? =some c) (hb:aca c=false) (h45:s≠[45]):zX s=none:=by
 unfold zX
 rw[if_neg h45,if_neg]
 rintro⟨ha,-,-⟩
 rw[List.all_eq_true]at ha
 have:=ha c (List.mem_of_getElem? hc)
 rw[hb]at this
 cases this
theorem BtI.fin {s:Bs} {l:List Bool} {i:Nat} (h:BtI s i l) (hi:s.length≤i) (h45:s≠[45]):zX s=if 1≤i∧i≤64 then some l else none:=by
 have hx:=h.le
 have he:i=s.length:=by omega
 have ha:=h.all
 have hq:=h.eq
 rw[he,List.take_length]at ha hq
 unfold zX
 rw[if_neg h45,he,←hq]
 by_cases hh:1≤s.length∧s.length≤64
 ·rw[if_pos ⟨ha,hh⟩,if_pos hh]
 ·rw[if_neg (fun hy=>hh hy.2),if_neg hh]
theorem Jm (s:Bs) (m:Nat) (hz:m<(S s).size):(S s)[m]'hz=s[m]'(by rw[ja]at hz;exact hz):=by
 show s.toArray[m]'_=_
 exact List.getElem_toArray _
theorem aMf {s:Bs} {m:Nat} {a:UInt8} (hm:m<s.length) (ha:s[m]? =some a) (h:128≤a.toNat):128≤(Utf8.decode (S s) m).1:=by
 have hz:m<(S s).size:=by rw[ja];exact hm
 have he:(S s)[m]'hz=a:=by
  have:=List.getElem?_eq_some_iff.1 ha
  rw[←this.2]
  exact Jm s m hz
 exact(decode_high (S s) m hz (by rw[he];exact h)).1
theorem anQ {s:Bs} {m:Nat} {a:UInt8} (hm:m<s.length) (ha:s[m]? =some a) (h:a.toNat<128):Utf8.decode (S s) m=(a.toNat,1):=by
 have hz:m<(S s).size:=by rw[ja];exact hm
 have he:(S s)[m]'hz=a:=by
  have:=List.getElem?_eq_some_iff.1 ha
  rw[←this.2]
  exact Jm s m hz
 rw[decode_ascii (S s) m hz (by rw[he];exact h),he]
theorem ab9 (s:Bs) (hs:s.length≤90000) (W:World):Calls Tryz.prog 51 #[.string (S s)] W (BtP W s):=by
 by_cases h45:s=[45]
 ·subst h45
  go_enter Tryz.func51,Tryz.ntmps51
  go_wp2
  go_ret2
  exact⟨[],none,0,0,rfl,rfl,(fun z hz=>by injection hz),.nil ..,Below.refl _ _⟩
 ·have hS45:(s==[45])=false:=by simpa using h45
  have H45:=hid h45
  have HS:=hid hs
  clear h45
  go_enter Tryz.func51,Tryz.ntmps51
  go_wp2
  go_loopg [4] s.length (fun gg s4 wr=> ∃(m:Nat) (p:Option Addr) (c:Nat),m≤s.length∧s.length-m≤gg∧s4= .slice p m c∧Hid (∃l,BtI s m l∧wr.ownsRow (W.heap.size+1) 4 1 (.slice p m c) m (yv boC l)∧wr.heap[W.heap.size]? =some (.stringIter (S s) m)∧Below W.heap.size W wr))
  case atStart=>
   refine⟨0,none,0,by omega,by omega,rfl,hid ⟨[],BtI.zero s,qI _ _ _ _,?_,?_⟩⟩
   ·exact World.iter_heap W (S s) 0
   ·exact(Below.refl _ _).alloc (Nat.le_refl _) _
  case round=>
   obtain⟨m,p,c,hm,hgg,rfl,HI⟩:=hrel
   obtain⟨l,hI,ho,hit,hb⟩:=HI.out
   have HX:=hid (⟨hI,ho,hb⟩:_∧_∧_)
   clear hI ho hb HI
   have hiz:(m:Int)≤90000:=by have:=HS.out;omega
   by_cases hj:m<s.length
   ·have hj2:m<(S s).size:=by rw[ja];exact hj
    obtain⟨a,ha⟩: ∃a,s[m]? =some a:=⟨_,List.getElem?_eq_getElem hj⟩
    have HA:=hid ha
    have HJ:=hid hj
    have hrun: ∀ty,(Instr.next (.pointer (some ⟨W.heap.size,0,none⟩)) true ty).run Tryz.prog wr=_:=fun ty=>Lib.run_next_any_at wr W.heap.size (S s) m ty hit hj2
    have hbi:=Lib.below_iterAt HX.out.2.2 (Nat.le_refl _) (S s) (m+(Utf8.decode (S s) m).2)
    have hoi:(wr.iterAt W.heap.size (S s) (m+(Utf8.decode (S s) m).2)).ownsRow (W.heap.size+1) 4 1 (.slice p m c) m (yv boC l):=xN HX.out.2.1 fun b hb=>Lib.iterAt_other _ _ _ _ _ (by have:=(HX.out.2.1.lt b hb).1;omega)
    have hti:=Lib.iterAt_heap wr W.heap.size (S s) m (m+(Utf8.decode (S s) m).2) hit
    have hsi:=Lib.iterAt_size wr W.heap.size (S s) (m+(Utf8.decode (S s) m).2)
    by_cases hq:aca a=true
    ·have hcs:a=121∨a=110:=by simpa[aca]using hq
     have hlo:=anQ hj ha (by rcases hcs with rfl|rfl<;>decide)
     rw[hlo]at hrun hbi hoi hti hsi
     simp only[]at hrun hbi hoi hti hsi
     obtain⟨wi,hwi⟩: ∃wi,wi=wr.iterAt W.heap.size (S s) (m+1):=⟨_,rfl⟩
     rw[←hwi]at hbi hoi hti hsi
     have hnx: ∀ty,(Instr.next (.pointer (some ⟨W.heap.size,0,none⟩)) true ty).run Tryz.prog wr= .ok (.tuple #[.bool true,.int .i64 m,.int .i32 a.toNat]) wi:=by rw[hwi];exact hrun
     have HY:=hid (⟨hoi,hti,hbi⟩:_∧_∧_)
     obtain⟨z,hz⟩: ∃z,z=decide (a=121):=⟨_,rfl⟩
     have HF:=hid (HX.out.1.on HA.out hq)
     rw[←hz]at HF
     have hfs:(((a.toNat:Int) != 121)=false∧((a.toNat:Int)==121)=z)∨(((a.toNat:Int) != 121)=true∧((a.toNat:Int) != 110)=false∧((a.toNat:Int)==121)=z):=by
      rw[hz]
      rcases hcs with rfl|rfl
      ·exact .inl ⟨rfl,rfl⟩
      ·exact .inr ⟨rfl,rfl,rfl⟩
     clear hz hq hcs hlo hrun hwi hbi hoi hti hsi hit ha
     rcases hfs with⟨f1,f3⟩ | ⟨f1,f2,f3⟩
     all_goals
      go_wp2_with (with_reducible refine yd .append rfl ?_)
      with_reducible refine ki ?_
      refine zO rfl _ _ 49 rfl boC aSz Tryz.underlying49 rfl (by decide) (by decide) XW af3 z HY.out.1 (by have:=HX.out.1.le;omega) (Nat.succ_le_of_lt (Array.getElem?_eq_some_iff.1 HY.out.2.1).1) rfl rfl ?_
      intro v3 w3 ho3 hk3 _
      obtain⟨p3,c3,rfl⟩:=zm ho3
      have HF3:Hid (∃l,BtI s (m+1) l∧w3.ownsRow (W.heap.size+1) 4 1 (.slice p3 (m+1) c3) (m+1) (yv boC l)∧w3.heap[W.heap.size]? =some (.stringIter (S s) (m+1))∧Below W.heap.size W w3):=hid ⟨_,HF.out,ho3,(hk3.block _ (Array.getElem?_eq_some_iff.1 HY.out.2.1).1 (fun hx=>by have:=(HY.out.1.lt _ (Option.mem_toList.1 hx)).1;omega)).trans HY.out.2.1,HY.out.2.2.trans (hk3.to_below HY.out.2.2.size fun x hx=>by have:=(HY.out.1.lt x (Option.mem_toList.1 hx)).1;omega)⟩
      clear ho3 hk3
      go_wp2
      go_roundg (s.length- (m+1))
      case measure=>have:=HJ.out;omega
      case rel=>exact⟨m+1,p3,c3,by have:=HJ.out;omega,by omega,rfl,HF3⟩
    ·have hq2:aca a=false:=by simpa using hq
     have HN:=hid (HX.out.1.no HA.out hq2 H45.out)
     have HB:=hid hbi
     have hne:a≠121∧a≠110:=by simpa[aca]using hq2
     have hd:(Utf8.decode (S s) m).1≠121∧(Utf8.decode (S s) m).1≠110:=by
      by_cases h128:a.toNat<128
      ·rw[anQ hj ha h128]
       exact⟨fun h=>hne.1 (UInt8.toNat_inj.1 h),fun h=>hne.2 (UInt8.toNat_inj.1 h)⟩
      ·have:=aMf hj ha (by omega)
       omega
     obtain⟨wi,hwi⟩: ∃wi,wi=wr.iterAt W.heap.size (S s) (m+(Utf8.decode (S s) m).2):=⟨_,rfl⟩
     obtain⟨r,hr⟩: ∃r,r=(Utf8.decode (S s) m).1:=⟨_,rfl⟩
     rw[←hwi]at HB
     rw[←hr]at hd
     have hnx: ∀ty,(Instr.next (.pointer (some ⟨W.heap.size,0,none⟩)) true ty).run Tryz.prog wr= .ok (.tuple #[.bool true,.int .i64 m,.int .i32 r]) wi:=by rw[hwi,hr];exact hrun
     have f1:((r:Int) != 121)=true:=by have:=hd.1;simp;omega
     have f2:((r:Int) != 110)=true:=by have:=hd.2;simp;omega
     clear hne hq hq2 hd hwi hr hrun hbi hoi hti hsi hit ha
     go_wp2
     go_ret2
     exact⟨[],none,0,0,by rw[HN.out];rfl,rfl,(fun z hz=>by rw[HN.out]at hz;cases hz),.nil ..,HB.out⟩
   ·have hnx: ∀ty,(Instr.next (.pointer (some ⟨W.heap.size,0,none⟩)) true ty).run Tryz.prog wr=_:=fun ty=>Lib.run_next_end_at wr W.heap.size (S s) m ty hit (by rw[ja];exact hj)
    have hfin:=HX.out.1.fin (by omega) H45.out
    obtain⟨hI,ho,hb⟩:=HX.out
    have HV:=hid ((VwF.of_own XW ho hI.len).mono (Nat.le_succ _))
    have HL:=hid hI.len
    have HB:=hid hb
    have HF:=hid hfin
    clear hI ho hb hfin HX hit
    have h3:m=0∨(1≤m∧m≤64)∨64<m:=by omega
    rcases h3 with h3| ⟨h3,h4⟩ |h3
    ·have HE:Hid (zX s=none):=hid (by rw[HF.out,if_neg (by omega)])
     subst h3
     go_wp2
     go_ret2
     exact⟨l,p,0,c,by rw[HE.out];rfl,HL.out,(fun z hz=>by rw[HE.out]at hz;cases hz),HV.out,HB.out⟩
    ·have HE:Hid (zX s=some l):=hid (by rw[HF.out,if_pos ⟨h3,h4⟩])
     have h5:(1:Int)≤(m:Int):=by omega
     have h6:(m:Int)≤64:=by omega
     go_wp2
     go_ret2
     exact⟨l,p,m,c,by rw[HE.out];rfl,HL.out,(fun z hz=>by rw[HE.out]at hz;injection hz),HV.out,HB.out⟩
    ·have HE:Hid (zX s=none):=hid (by rw[HF.out,if_neg (by omega)])
     have h5:(1:Int)≤(m:Int):=by omega
     have h6: ¬(m:Int)≤64:=by omega
     go_wp2
     go_ret2
     exact⟨l,p,m,c,by rw[HE.out];rfl,HL.out,(fun z hz=>by rw[HE.out]at hz;cases hz),HV.out,HB.out⟩
end
section
open Go.RowKit Go.Lib
theorem aBq {x:Int} (h:x<0):YH x=false:=by
 unfold YH
 rw[decide_eq_false (by omega),Bool.false_and]
theorem aBp {x:Int} (h:1099511627776<x):YH x=false:=by
 unfold YH
 rw[decide_eq_false (p:=x≤1099511627776) (by omega),Bool.and_false]
theorem aBr {x:Int} (h:0≤x) (h2:x≤1099511627776):YH x=true:=by
 unfold YH
 rw[decide_eq_true h,decide_eq_true h2]
 rfl
theorem QE (x:Int) (W:World):Calls Tryz.prog 36 #[.int .i64 x] W fun e w'=>e= .returned (.bool (YH x))∧W=w':=by
 obtain⟨b,hb⟩: ∃b,b=YH x:=⟨_,rfl⟩
 have HB:=hid hb
 rw[←hb]
 clear hb
 by_cases h0:0≤x
 ·by_cases h1:x≤1099511627776
  ·have HE:Hid (b=true):=hid (by rw[HB.out,aBr h0 h1])
   go_enter Tryz.func36,Tryz.ntmps36
   go_wp2
   go_ret
   exact⟨by rw[HE.out];rfl,rfl⟩
  ·have HE:Hid (b=false):=hid (by rw[HB.out,aBp (by omega)])
   go_enter Tryz.func36,Tryz.ntmps36
   go_wp2
   go_ret
   exact⟨by rw[HE.out];rfl,rfl⟩
 ·have HE:Hid (b=false):=hid (by rw[HB.out,aBq (by omega)])
  go_enter Tryz.func36,Tryz.ntmps36
  go_wp2
  go_ret
  exact⟨by rw[HE.out];rfl,rfl⟩
theorem aTb (l:List Int) (p:Option Addr) (n c:Nat) (hn:n=l.length) (h0:l≠[]) (hl:l.length≤1000) (W:World) (hv:Vw 1 wdC W (.slice p n c) l):Calls Tryz.prog 30 #[.slice p n c] W fun e w'=>e= .returned (.bool (l.all YH))∧W=w':=by
 obtain⟨gb,off,cc,e1,e2,e3,e4⟩:=hv.ex h0
 injection e1 with e1 e5 e6
 subst e1 e6
 have HC:Hid (∀i x,l[i]? =some x→W.cell? ⟨gb,off+i,none⟩=some (.int .i64 x)):=hid fun i x hx=>by
  have:=e4 i x hx 0 (.int .i64 x) rfl
  rw[←this]
  simp
 have HW:=hid (⟨hn,hl⟩:_∧_)
 clear hv e2 e3 e4 e5 hn h0 hl
 go_enter Tryz.func30,Tryz.ntmps30
 go_wp2
 go_loopg [7] n (fun gg s7 wr=> ∃i:Nat,i≤n∧n-i≤gg∧s7= .int .i64 i∧wr=W∧Hid ((l.take i).all YH=true))
 case atStart=>exact⟨0,by omega,by omega,rfl,rfl,hid (by simp)⟩
 case round=>
  obtain⟨i,hi,hgg,rfl,rfl,HI⟩:=hrel
  by_cases hj:i<n
  ·have hjz:(i:Int)<(n:Int):=by omega
   have hiz:(i:Int)≤1000:=by have:=HW.out;omega
   obtain⟨x,hx⟩: ∃x,l[i]? =some x:=⟨_,List.getElem?_eq_getElem (by rw[←HW.out.1];exact hj)⟩
   have hc:=HC.out i x hx
   have HX:=hid hx
   have HJ:=hid hj
   clear hx
   have HNO:Hid (YH x=false→l.all YH=false):=hid fun h=>by
    rw[List.all_eq_false]
    exact⟨x,List.mem_of_getElem? HX.out,by rw[h];decide⟩
   by_cases x0:x<0
   ·have HE:=hid (HNO.out (aBq x0))
    go_wp2
    go_ret
    exact⟨by rw[HE.out];rfl,rfl⟩
   ·by_cases x1:1099511627776<x
    ·have HE:=hid (HNO.out (aBp x1))
     go_wp2
     go_ret
     exact⟨by rw[HE.out];rfl,rfl⟩
    ·have HI2:Hid ((l.take (i+1)).all YH=true):=hid (by rw[List.take_add_one,HX.out,List.all_append,HI.out];simp[aBr (by omega:0≤x) (by omega)])
     go_wp2
     go_roundg (n- (i+1))
     case measure=>have:=HJ.out;omega
     case rel=>exact⟨i+1,by have:=HJ.out;omega,by omega,by go_num,rfl,HI2⟩
  ·have hjz: ¬(i:Int)<(n:Int):=by omega
   have HE:Hid (l.all YH=true):=hid (by have h:=HI.out;rwa[List.take_of_length_le (by rw[←HW.out.1];omega)]at h)
   go_wp2
   go_ret
   exact⟨by rw[HE.out];rfl,rfl⟩
end
section
open Go.RowKit Go.Lib
def bcB (b:Bool):UInt8:=if b then 121 else 110
theorem Ki (l:List Bool) (p:Option Addr) (n c:Nat) (hn:n=l.length) (hl:l.length≤90000) (W:World) (hv:Vw 1 boC W (.slice p n c) l):Calls Tryz.prog 59 #[.slice p n c] W fun e w'=>e= .returned (.string (S (XV l)))∧W=w':=by
 by_cases h0:l=[]
 ·subst h0
  subst hn
  go_enter Tryz.func59,Tryz.ntmps59
  go_wp2
  go_ret
  exact⟨rfl,rfl⟩
 ·obtain⟨gb,off,cc,e1,e2,e3,e4⟩:=hv.ex h0
  injection e1 with e1 e5 e6
  subst e1 e6
  have HC:Hid (∀i x,l[i]? =some x→W.cell? ⟨gb,off+i,none⟩=some (.bool x)):=hid fun i x hx=>by
   have:=e4 i x hx 0 (.bool x) rfl
   rw[←this]
   simp
  have HB:Hid (XV l=l.map bcB):=hid (by unfold XV;rw[if_neg h0];rfl)
  have hnz:((n:Int)==0)=false:=by
   rw[beq_eq_false_iff_ne]
   have:=List.length_pos_iff.2 h0
   omega
  have HW:=hid (⟨hn,hl⟩:_∧_)
  clear hv e2 e3 e4 e5 hn h0 hl
  go_enter Tryz.func59,Tryz.ntmps59
  go_wp2
  go_loopg [3,4] n (fun gg s3 s4 wr=> ∃(i:Nat) (a:Bs),i≤n∧n-i≤gg∧s3= .string (S a)∧s4= .int .i64 i∧wr=W∧Hid (a=(l.take i).map bcB))
  case atStart=>exact⟨0,[],by omega,by omega,rfl,rfl,rfl,hid rfl⟩
  case round=>
   obtain⟨i,a,hi,hgg,rfl,rfl,rfl,HI⟩:=hrel
   by_cases hj:i<n
   ·have hjz:(i:Int)<(n:Int):=by omega
    have hiz:(i:Int)≤90001:=by have:=HW.out;omega
    obtain⟨x,hx⟩: ∃x,l[i]? =some x:=⟨_,List.getElem?_eq_getElem (by rw[←HW.out.1];exact hj)⟩
    have hc:=HC.out i x hx
    have HI2:Hid (a++[bcB x]=(l.take (i+1)).map bcB):=hid (by rw[HI.out,List.take_add_one,hx];simp)
    have hal:(a.length:Int)+1≤90001:=by have h:=HI.out;have:=HW.out;rw[h];simp;omega
    have hal2:(S a).size+1≤140737488355328:=by rw[ja];omega
    have hal3:a.length+1≤140737488355328:=by omega
    have HJ:=hid hj
    clear hx
    cases x
    all_goals
     go_wp2
     go_roundg (n- (i+1))
     case measure=>have:=HJ.out;omega
     case rel=>exact⟨i+1,_,by have:=HJ.out;omega,by omega,by first |rfl|simp,by go_num,rfl,HI2⟩
   ·have hjz: ¬(i:Int)<(n:Int):=by omega
    have HE:Hid (a=XV l):=hid (by have h:=HI.out;rw[List.take_of_length_le (by rw[←HW.out.1];omega)]at h;rw[h,HB.out])
    go_wp2
    go_ret
    exact⟨by rw[HE.out];rfl,rfl⟩
end
end Go.Proofs.YtcdiljebkpikbaaGreat
