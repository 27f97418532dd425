/- Parts of the proof: Scd Sda Sdb. -/
import Derived.Deep.LoopGhost
import Derived.Deep.Cut
import Derived.Deep.CutRange
import Derived.Deep.CutBlock
import Derived.Test.YtcdiljebkpikbaaGreatS31
set_option linter.all false
set_option maxRecDepth 100000
set_option maxHeartbeats 64000000
namespace Go.Proofs.YtcdiljebkpikbaaGreat
section
open Go.RowKit Go.Lib
def boC (b:Bool):List Value:=[.bool b]
theorem XW (b:Bool):(boC b).length=1:=rfl
theorem af3 (b:Bool): ∀u∈boC b,u.oneCell'=true:=by
 intro u hu
 simp[boC]at hu
 subst hu
 rfl
structure AcV where
 kind:Int
 n:Int
 kp:Option Addr
 kn:Nat
 kc:Nat
 keep:List Bool
 torn:Int
 bytes:Int
def acC (a:AcV):List Value:=[.int .i64 a.kind,.int .i64 a.n,.slice a.kp a.kn a.kc,.int .i64 a.torn,.int .i64 a.bytes]
theorem J0 (a:AcV):(acC a).length=5:=rfl
theorem ack (a:AcV): ∀u∈acC a,u.oneCell'=true:=by
 intro u hu
 simp[acC]at hu
 rcases hu with rfl|rfl|rfl|rfl|rfl<;>rfl
def AcV.ac (a:AcV):Ac:=⟨a.kind,a.n,a.keep,a.torn,a.bytes⟩
structure acd (W:World) (a:AcV):Prop where
 n:a.kn=a.keep.length
 k:Vw 1 boC W (.slice a.kp a.kn a.kc) a.keep
structure ScV where
 sec:Int
 fr:Int
 x:MdV
 ap:Option Addr
 an:Nat
 ac:Nat
 ats:List AcV
def scC (s:ScV):List Value:= .int .i64 s.sec:: .int .i64 s.fr::(mdC s.x++[.slice s.ap s.an s.ac])
def ScV.s (s:ScV):Scr:=⟨s.sec,s.fr,s.x.m,s.ats.map AcV.ac⟩
structure aci (W:World) (s:ScV):Prop where
 m:qZ W s.x
 a:Vw 5 acC W (.slice s.ap s.an s.ac) s.ats
 an:s.an=s.ats.length
 ai: ∀a∈s.ats,acd W a
theorem acd.below {W W':World} {a:AcV} (h:acd W a) (hb:Below W.heap.size W W'):acd W' a:=⟨h.n,h.k.below hb⟩
theorem aci.below {W W':World} {s:ScV} (h:aci W s) (hb:Below W.heap.size W W'):aci W' s:=⟨h.m.below hb,h.a.below hb,h.an,fun a ha=>(h.ai a ha).below hb⟩
def mdZ:MdV:=⟨0,0,none,0,0,[],none,0,0,[],none,0,0,[],none,0,0,[]⟩
def scZ:ScV:=⟨0,0,mdZ,none,0,0,[]⟩
theorem qS (W:World):qZ W mdZ:=⟨.nil ..,rfl,.nil ..,rfl,(fun q h=>by cases h),.nil ..,rfl,(fun q h=>by cases h),.nil ..,rfl⟩
theorem jW (W:World):aci W scZ:=⟨qS W,.nil ..,rfl,fun a h=>by cases h⟩
def aCx (p:PR) (s:Scr) (i e:Int):Prop:=match p with
 | .full=>i=0∧e=11∧s=scZ.s
 | .line n=>i=n∧e=30∧s=scZ.s
 | .ok x=>i=0∧e=0∧s=x
end
section
open Go.RowKit Go.Lib
structure PtI (W:World) (s:Bs) (c:UInt8) (j a m:Nat) (v:Value) (w:World) (outs:List Bs):Prop where
 own:w.ownsRow W.heap.size 9 1 v m (yv jQ outs)
 len:m=outs.length
 eq:zv c s=outs++zv c (s.drop a)
 le:a≤j
 le2:j≤s.length
 no: ∀b∈(s.drop a).take (j-a),b≠c
 few:m≤j
 bel:Below W.heap.size W w
section
variable {W w w':World} {s:Bs} {c:UInt8} {j a m:Nat} {v v':Value} {outs:List Bs} {b:UInt8}
theorem qI (W:World) (B:Nat) (T:TypeId) (s:Nat):W.ownsRow B T s (.slice none 0 0) 0 []:=⟨by simp,.inl ⟨rfl,rfl⟩⟩
theorem PtI.start (W:World) (s:Bs) (c:UInt8):PtI W s c 0 0 0 (.slice none 0 0) W []:=⟨qI _ _ _ _,rfl,by simp,Nat.le_refl _,Nat.zero_le _,by simp,Nat.le_refl _,Below.refl _ _⟩
theorem PtI.on (h:PtI W s c j a m v w outs) (hb:s[j]? =some b) (hn:b≠c):PtI W s c (j+1) a m v w outs:=by
 have hj:=(List.getElem?_eq_some_iff.1 hb).1
 have hle:=h.le
 refine⟨h.own,h.len,h.eq,by have:=h.le;omega,hj,fun x hx=>?_,by have:=h.few;omega,h.bel⟩
 rw[show j+1-a=j-a+1 by omega,List.take_add_one,List.getElem?_drop,show a+(j-a)=j by omega,hb]at hx
 rcases List.mem_append.1 hx with hx|hx
 ·exact h.no x hx
 ·simp at hx
  rw[hx];exact hn
theorem PtI.cut (h:PtI W s c j a m v w outs) (hb:s[j]? =some b) (hn:b=c) (ho:w'.ownsRow W.heap.size 9 1 v' (m+1) (yv jQ (outs++[(s.drop a).take (j-a)]))) (hk:Below W.heap.size W w'):PtI W s c (j+1) (j+1) (m+1) v' w' (outs++[(s.drop a).take (j-a)]):=by
 have hj:=(List.getElem?_eq_some_iff.1 hb).1
 have hle:=h.le
 refine⟨ho,by rw[h.len];simp,?_,Nat.le_refl _,hj,by simp,by have:=h.few;omega,hk⟩
 have e:s.drop a=(s.drop a).take (j-a)++c::s.drop (j+1):=by
  have h1:(s.drop a).drop (j-a)=c::s.drop (j+1):=by
   rw[List.drop_drop,show a+(j-a)=j by omega,List.drop_eq_getElem_cons hj]
   rw[List.getElem?_eq_getElem hj]at hb
   injection hb with hb
   rw[hb,hn]
  rw[←h1,List.take_append_drop]
 rw[h.eq]
 conv=>lhs;rw[e,abU h.no]
 simp
theorem PtI.mle (h:PtI W s c j a m v w outs):m+1≤(zv c s).length:=by
 have h1:=List.length_pos_iff.2 (jq c (s.drop a))
 rw[h.eq,List.length_append,←h.len]
 omega
theorem PtI.fin (h:PtI W s c s.length a m v w outs) (ho:w'.ownsRow W.heap.size 9 1 v' (m+1) (yv jQ (outs++[s.drop a]))):w'.ownsRow W.heap.size 9 1 v' (zv c s).length (yv jQ (zv c s)):=by
 have hn:=h.no
 rw[List.take_of_length_le (by simp)]at hn
 have e:zv c s=outs++[s.drop a]:=by rw[h.eq,ahw hn]
 rw[e]
 have:=h.len
 rw[show(outs++[s.drop a]).length=m+1 by rw[this];simp]
 exact ho
end
def PtP (W:World) (s:Bs) (c:UInt8) (e:Ending) (w':World):Prop:= ∃p n k,e= .returned (.slice p n k)∧n=(zv c s).length∧Vw 1 jQ w' (.slice p n k) (zv c s)∧Below W.heap.size W w'
theorem PtP.of {W w':World} {s:Bs} {c:UInt8} {v:Value} (ho:w'.ownsRow W.heap.size 9 1 v (zv c s).length (yv jQ (zv c s))) (hb:Below W.heap.size W w'):PtP W s c (.returned v) w':=by
 obtain⟨p,k,rfl⟩:=zm ho
 exact⟨p,_,k,rfl,rfl,.of_own v9 ho rfl,hb⟩
theorem JM (s:Bs) (c:UInt8) (hs:s.length≤250000) (hq:(zv c s).length≤100000) (W:World):Calls Tryz.prog 18 #[.string (S s),.int .u8 c.toNat] W (PtP W s c):=by
 obtain⟨n,hn⟩: ∃n,n=s.length:=⟨_,rfl⟩
 have HN:=hid hn
 have HI0:Hid (∃outs,PtI W s c 0 0 0 (.slice none 0 0) W outs):=hid ⟨_,PtI.start W s c⟩
 have HS:=hid hq
 clear hq
 go_enter Tryz.func18,Tryz.ntmps18
 go_wp2
 rw[←HN.out]
 clear hn
 go_loopg [5,6,10] n (fun gg s5 s6 s10 wr=> ∃(j a m:Nat) (p:Option Addr) (k:Nat),j≤n∧n-j≤gg∧a≤j∧s5= .slice p m k∧s6= .int .i64 a∧s10= .int .i64 j∧Hid (∃outs,PtI W s c j a m (.slice p m k) wr outs))
 case atStart=>exact⟨0,0,0,none,0,by omega,by omega,by omega,rfl,rfl,rfl,HI0⟩
 case round=>
  obtain⟨j,a,m,p,k,hj,hgg,ha,rfl,rfl,rfl,HI⟩:=hrel
  obtain⟨outs,hI⟩:=HI.out
  have HX:=hid hI
  by_cases hjn:j<n
  ·have hjs:j<s.length:=by rw[←HN.out];exact hjn
   have hji:(j:Int)<(n:Int):=by omega
   obtain⟨b,hb⟩: ∃b,s[j]=b:=⟨_,rfl⟩
   have HB:Hid (s[j]? =some b):=hid (by rw[←hb];exact List.getElem?_eq_getElem hjs)
   have HJ:=hid hjn
   have haj:(a:Int)≤(j:Int):=by omega
   clear hI HI
   by_cases hc:b=c
   ·subst hc
    go_wp2_with (with_reducible refine yd .append rfl ?_)
    with_reducible refine ki ?_
    refine zO rfl _ _ 56 rfl jQ Qa Tryz.underlying56 rfl (by decide) (by decide) v9 Zv ((s.drop a).take (j-a)) HX.out.own (by have:=HX.out.mle;have:=HS.out;omega) HX.out.bel.size rfl rfl ?_
    intro v3 w3 ho3 hk3 _
    obtain⟨p3,c3,rfl⟩:=zm ho3
    have HF:Hid (∃outs,PtI W s b (j+1) (j+1) (m+1) (.slice p3 (m+1) c3) w3 outs):=hid ⟨_,HX.out.cut HB.out rfl ho3 (HX.out.bel.trans (hk3.to_below HX.out.bel.size fun x hx=>(HX.out.own.lt x (Option.mem_toList.1 hx)).1))⟩
    clear ho3 hk3
    go_wp2
    go_roundg (n- (j+1))
    case measure=>omega
    case rel=>exact⟨j+1,j+1,m+1,p3,c3,by have:=HJ.out;omega,by omega,by omega,rfl,by go_num,by go_num,HF⟩
   ·have hne: ¬((b.toNat:Int)=(c.toNat:Int)):=fun h=>hc (UInt8.toNat_inj.1 (by omega))
    have HF:=hid (⟨_,HX.out.on HB.out hc⟩: ∃outs,PtI W s c (j+1) a m (.slice p m k) wr outs)
    go_wp2
    go_roundg (n- (j+1))
    case measure=>omega
    case rel=>exact⟨j+1,a,m,p,k,by have:=HJ.out;omega,by omega,by omega,rfl,rfl,by go_num,HF⟩
  ·have hje:j=n:=by omega
   have hji: ¬(j:Int)<(n:Int):=by omega
   have haj:(a:Int)≤(s.length:Int):=by rw[←HN.out];omega
   rw[hje,HN.out]at HX
   clear hI HI
   go_wp2_with (with_reducible refine yd .append rfl ?_)
   with_reducible refine ki ?_
   refine zO rfl _ _ 56 rfl jQ Qa Tryz.underlying56 rfl (by decide) (by decide) v9 Zv ((s.drop a).take (s.length-a)) HX.out.own (by have:=HX.out.mle;have:=HS.out;omega) HX.out.bel.size rfl rfl ?_
   intro v3 w3 ho3 hk3 _
   rw[show(s.drop a).take (s.length-a)=s.drop a from List.take_of_length_le (by simp)]at ho3
   have HF:=hid (PtP.of (HX.out.fin ho3) (HX.out.bel.trans (hk3.to_below HX.out.bel.size fun x hx=>(HX.out.own.lt x (Option.mem_toList.1 hx)).1)))
   obtain⟨p3,c3,rfl⟩:=zm ho3
   clear ho3 hk3
   go_wp2
   go_ret
   exact HF.out
theorem ah9 (s:Bs) (c:UInt8) (hs:s.length≤90000) (W:World):Calls Tryz.prog 18 #[.string (S s),.int .u8 c.toNat] W (PtP W s c):=JM s c (by omega) (by have:=xz c s;omega) W
theorem JB (s:Bs) (c:UInt8) (hs:s.length≤90000) (W:World):Calls Tryz.prog 22 #[.string (S s),.int .u8 c.toNat] W (PtP W s c):=by
 obtain⟨n,hn⟩: ∃n,n=s.length:=⟨_,rfl⟩
 have HN:=hid hn
 have HI0:Hid (∃outs,PtI W s c 0 0 0 (.slice none 0 0) W outs):=hid ⟨_,PtI.start W s c⟩
 have HS:=hid hs
 go_enter Tryz.func22,Tryz.ntmps22
 clear hn
 go_wp2
 go_loopg [5,6,7] n (fun gg s5 s6 s10 wr=> ∃(j a m:Nat) (p:Option Addr) (k:Nat),j≤n∧n-j≤gg∧a≤j∧s5= .slice p m k∧s6= .int .i64 a∧s10= .int .i64 j∧Hid (∃outs,PtI W s c j a m (.slice p m k) wr outs))
 case atStart=>exact⟨0,0,0,none,0,by omega,by omega,by omega,rfl,rfl,rfl,HI0⟩
 case round=>
  obtain⟨j,a,m,p,k,hj,hgg,ha,rfl,rfl,rfl,HI⟩:=hrel
  obtain⟨outs,hI⟩:=HI.out
  have HX:=hid hI
  by_cases hjn:j<n
  ·have hjs:j<s.length:=by rw[←HN.out];exact hjn
   have hji:(j:Int)<(s.length:Int):=by omega
   obtain⟨b,hb⟩: ∃b,s[j]=b:=⟨_,rfl⟩
   have HB:Hid (s[j]? =some b):=hid (by rw[←hb];exact List.getElem?_eq_getElem hjs)
   have HJ:=hid hjn
   have haj:(a:Int)≤(j:Int):=by omega
   clear hI HI
   by_cases hc:b=c
   ·subst hc
    go_wp2_with (with_reducible refine yd .append rfl ?_)
    with_reducible refine ki ?_
    refine zO rfl _ _ 56 rfl jQ Qa Tryz.underlying56 rfl (by decide) (by decide) v9 Zv ((s.drop a).take (j-a)) HX.out.own (by have:=HX.out.few;have:=HS.out;omega) HX.out.bel.size rfl rfl ?_
    intro v3 w3 ho3 hk3 _
    obtain⟨p3,c3,rfl⟩:=zm ho3
    have HF:Hid (∃outs,PtI W s b (j+1) (j+1) (m+1) (.slice p3 (m+1) c3) w3 outs):=hid ⟨_,HX.out.cut HB.out rfl ho3 (HX.out.bel.trans (hk3.to_below HX.out.bel.size fun x hx=>(HX.out.own.lt x (Option.mem_toList.1 hx)).1))⟩
    clear ho3 hk3
    go_wp2
    go_roundg (n- (j+1))
    case measure=>omega
    case rel=>exact⟨j+1,j+1,m+1,p3,c3,by have:=HJ.out;omega,by omega,by omega,rfl,by go_num,by go_num,HF⟩
   ·have hne: ¬((b.toNat:Int)=(c.toNat:Int)):=fun h=>hc (UInt8.toNat_inj.1 (by omega))
    have HF:=hid (⟨_,HX.out.on HB.out hc⟩: ∃outs,PtI W s c (j+1) a m (.slice p m k) wr outs)
    go_wp2
    go_roundg (n- (j+1))
    case measure=>omega
    case rel=>exact⟨j+1,a,m,p,k,by have:=HJ.out;omega,by omega,by omega,rfl,rfl,by go_num,HF⟩
  ·have hje:j=n:=by omega
   have hji: ¬(n:Int)<(s.length:Int):=by rw[←HN.out];omega
   have haj:(a:Int)≤(s.length:Int):=by rw[←HN.out];omega
   rw[hje,HN.out]at HX
   clear hI HI
   go_wp2_with (with_reducible refine yd .append rfl ?_)
   with_reducible refine ki ?_
   refine zO rfl _ _ 56 rfl jQ Qa Tryz.underlying56 rfl (by decide) (by decide) v9 Zv ((s.drop a).take (s.length-a)) HX.out.own (by have:=HX.out.few;have:=HS.out;omega) HX.out.bel.size rfl rfl ?_
   intro v3 w3 ho3 hk3 _
   rw[show(s.drop a).take (s.length-a)=s.drop a from List.take_of_length_le (by simp)]at ho3
   have HF:=hid (PtP.of (HX.out.fin ho3) (HX.out.bel.trans (hk3.to_below HX.out.bel.size fun x hx=>(HX.out.own.lt x (Option.mem_toList.1 hx)).1)))
   obtain⟨p3,c3,rfl⟩:=zm ho3
   clear ho3 hk3
   go_wp2
   go_ret
   exact HF.out
end
section
open Go.RowKit Go.Lib
def aSk (W:World) (s:Bs) (e:Ending) (w':World):Prop:= ∃n:Int,e= .returned (.tuple #[.int .i64 n,.bool (yR s).isSome])∧(∀k,yR s=some k→n=k)∧W=w'
theorem aCa (r:Bs): ∀a,a≤r.foldl (fun n b=>n*10+(b.toNat-48)) a:=by
 induction r with
 |nil=>intro a;exact Nat.le_refl _
 |cons b r ih=>intro a;exact Nat.le_trans (by omega) (ih (a*10+(b.toNat-48)))
theorem ajO (l r:Bs):QL l≤QL (l++r):=by
 unfold QL
 rw[List.foldl_append]
 exact aCa r _
theorem aik (l:Bs) (j:Nat):QL (l.take j)≤QL l:=by
 have:=ajO (l.take j) (l.drop j)
 rwa[List.take_append_drop]at this
theorem ajb {s:Bs} {j:Nat} (h:1099511627776<QL (s.take j)):yR s=none:=by
 unfold yR
 rw[if_neg (fun h2=>by have:=aik s j;omega)]
theorem Qj {s:Bs} {j:Nat} {b:UInt8} (hb:s[j]? =some b) (h:aal b=false):yR s=none:=by
 unfold yR
 rw[if_neg (fun h2=>by
  have:=List.all_eq_true.1 h2.2.1 b (List.mem_of_getElem? hb)
  rw[h]at this;cases this)]
structure NuI (s:Bs) (j n:Nat):Prop where
 v:n=QL (s.take j)
 d: ∀b∈s.take j,aal b=true
theorem NuI.on {s:Bs} {j n:Nat} {b:UInt8} (h:NuI s j n) (hb:s[j]? =some b) (hd:aal b=true):NuI s (j+1) (n*10+(b.toNat-48)):=by
 have e:s.take (j+1)=s.take j++[b]:=by rw[List.take_add_one,hb];rfl
 refine⟨by rw[e,aij,←h.v],fun x hx=>?_⟩
 rw[e]at hx
 rcases List.mem_append.1 hx with hx|hx
 ·exact h.d x hx
 ·simp at hx;rw[hx];exact hd
theorem aaI {s:Bs} {n:Nat} (h:NuI s s.length n):yR s=if s≠[]∧(s.getD 0 0≠48∨s.length=1)∧n≤1099511627776 then some n else none:=by
 obtain⟨hv,hd⟩:=h
 rw[List.take_length]at hv hd
 unfold yR
 have:s.all aal=true:=List.all_eq_true.2 hd
 rw[hv]
 by_cases h1:s≠[]∧(s.getD 0 0≠48∨s.length=1)∧QL s≤1099511627776
 ·rw[if_pos h1,if_pos ⟨h1.1,this,h1.2.1,h1.2.2⟩]
 ·rw[if_neg h1,if_neg (fun h=>h1 ⟨h.1,h.2.2.1,h.2.2.2⟩)]
theorem agv (b:UInt8) (h0:48≤b.toNat) (h1:b.toNat≤57):aal b=true:=by simp[aal,h0,h1]
theorem kJ (s:Bs) (hs:s.length≤90000) (W:World):Calls Tryz.prog 46 #[.string (S s)] W (aSk W s):=by
 obtain⟨n,hn⟩: ∃n,n=s.length:=⟨_,rfl⟩
 have HN:=hid hn
 have HI0:Hid (NuI s 0 0):=hid ⟨by simp[QL],by simp⟩
 have HS:=hid hs
 go_enter Tryz.func46,Tryz.ntmps46
 go_wp2
 rw[←HN.out]
 clear hn
 go_loopg [4,8] n (fun gg s4 s8 wr=> ∃(j m:Nat),j≤n∧n-j≤gg∧m≤20000000000000∧s4= .int .i64 m∧s8= .int .i64 j∧Hid (NuI s j m)∧W=wr)
 case atStart=>exact⟨0,0,by omega,by omega,by omega,rfl,rfl,HI0,rfl⟩
 case round=>
  obtain⟨j,m,hj,hgg,hm,rfl,rfl,HI,rfl⟩:=hrel
  by_cases hjn:j<n
  ·have hjs:j<s.length:=by rw[←HN.out];exact hjn
   have hji:(j:Int)<(n:Int):=by omega
   obtain⟨b,hb⟩: ∃b,s[j]=b:=⟨_,rfl⟩
   have HB:Hid (s[j]? =some b):=hid (by rw[←hb];exact List.getElem?_eq_getElem hjs)
   have HJ:=hid hjn
   have hb256:=b.toNat_lt
   by_cases c1:(b.toNat:Int)<48
   ·have hno:Hid (yR s=none):=hid (Qj HB.out (by unfold aal;rw[decide_eq_false (by omega)];rfl))
    go_wp2
    go_ret2
    exact⟨0,by rw[hno.out];rfl,(fun k hk=>by rw[hno.out]at hk;cases hk),rfl⟩
   ·by_cases c2:(57:Int)<(b.toNat:Int)
    ·have hno:Hid (yR s=none):=hid (Qj HB.out (by unfold aal;rw[decide_eq_false (p:=b.toNat≤57) (by omega),Bool.and_false]))
     go_wp2
     go_ret2
     exact⟨0,by rw[hno.out];rfl,(fun k hk=>by rw[hno.out]at hk;cases hk),rfl⟩
    ·by_cases c3:(1099511627776:Int)<(m:Int)
     ·have hno:Hid (yR s=none):=hid (ajb (j:=j) (by rw[←HI.out.v];omega))
      go_wp2
      go_ret2
      exact⟨0,by rw[hno.out];rfl,(fun k hk=>by rw[hno.out]at hk;cases hk),rfl⟩
     ·have HF:=hid (HI.out.on HB.out (agv b (by omega) (by omega)))
      have hB:Hid (48≤b.toNat∧b.toNat≤57):=hid (by omega)
      go_wp2
      go_roundg (n- (j+1))
      case measure=>omega
      case rel=>exact⟨j+1,m*10+(b.toNat-48),by have:=HJ.out;omega,by omega,by have:=hB.out;omega,by have:=hB.out;go_num,by go_num,HF,rfl⟩
  ·have hje:j=n:=by omega
   have hji: ¬(j:Int)<(n:Int):=by omega
   have HE:=HI.out
   rw[hje,HN.out]at HE
   have HO:=hid (aaI HE)
   clear HE HI
   cases s with
   |nil=>
    go_wp2
    go_ret2
    exact⟨m,by rw[HO.out];rfl,(fun k hk=>by rw[HO.out]at hk;cases hk),rfl⟩
   | cons b r=>
    have hyes: ∀(h:(b::r).getD 0 0≠48∨(b::r).length=1) (h2:m≤1099511627776),yR (b::r)=some m:=fun h h2=>by rw[HO.out,if_pos ⟨by simp,h,h2⟩]
    have hno1: ¬m≤1099511627776→yR (b::r)=none:=fun h2=>by rw[HO.out,if_neg (fun h=>h2 h.2.2)]
    have HY:=hid (⟨hyes,hno1⟩:_∧_)
    have hb256:=b.toNat_lt
    clear hyes hno1
    by_cases c1:(b.toNat:Int)=48
    ·obtain rfl:b=48:=UInt8.toNat_inj.1 (by show b.toNat=48;omega)
     cases r with
     | nil=>
      by_cases c3:(m:Int)≤1099511627776
      ·go_wp2
       go_ret2
       have e:=HY.out.1 (.inr rfl) (by omega)
       exact⟨m,by rw[e];rfl,(fun k hk=>by rw[e]at hk;injection hk with hk;rw[hk]),rfl⟩
      ·go_wp2
       go_ret2
       have e:=HY.out.2 (by omega)
       exact⟨m,by rw[e];rfl,(fun k hk=>by rw[e]at hk;cases hk),rfl⟩
     |cons c r=>
      have e:Hid (yR (48::c::r)=none):=hid (by rw[HO.out,if_neg (fun h=>by have:=h.2.1;simp at this)])
      go_wp2
      go_ret2
      exact⟨m,by rw[e.out];rfl,(fun k hk=>by rw[e.out]at hk;cases hk),rfl⟩
    ·have hn:(b::r).getD 0 0≠48:=by
      show b≠48
      rintro rfl
      exact c1 rfl
     have HNE:=hid hn
     clear hn
     by_cases c3:(m:Int)≤1099511627776
     ·go_wp2
      go_ret2
      have e:=HY.out.1 (.inl HNE.out) (by omega)
      exact⟨m,by rw[e];rfl,(fun k hk=>by rw[e]at hk;injection hk with hk;rw[hk]),rfl⟩
     ·go_wp2
      go_ret2
      have e:=HY.out.2 (by omega)
      exact⟨m,by rw[e];rfl,(fun k hk=>by rw[e]at hk;cases hk),rfl⟩
theorem aB9 (r:Bs): ∀a,a*10^r.length≤r.foldl (fun n b=>n*10+(b.toNat-48)) a:=by
 induction r with
 |nil=>intro a;simp
 |cons b r ih=>
  intro a
  refine Nat.le_trans ?_ (ih (a*10+(b.toNat-48)))
  rw[List.length_cons,Nat.pow_succ,Nat.mul_comm (10^r.length),←Nat.mul_assoc]
  exact Nat.mul_le_mul_right _ (by omega)
theorem ahn {s:Bs} (h:13<s.length):yR s=none:=by
 unfold yR
 rw[if_neg (fun h2=>?_)]
 obtain⟨_,h3,h4,h5⟩:=h2
 cases s with
 |nil=>simp at h
 | cons b r=>
  have hb:=List.all_eq_true.1 h3 b (by simp)
  unfold aal at hb
  simp only[Bool.and_eq_true,decide_eq_true_eq]at hb
  have h6:b≠48:=by
   rcases h4 with h4|h4
   ·exact h4
   ·rw[h4]at h;omega
  have h7:1≤b.toNat-48:=by
   have:b.toNat≠48:=fun e=>h6 (UInt8.toNat_inj.1 e)
   omega
  have h8:=aB9 r (b.toNat-48)
  have h9:QL (b::r)=r.foldl (fun n b=>n*10+(b.toNat-48)) (b.toNat-48):=by simp[QL]
  have h10:10^13≤10^r.length:=Nat.pow_le_pow_right (by omega) (by simp at h;omega)
  have h11:=Nat.mul_le_mul h7 h10
  rw[←h9]at h8
  have h12:=Nat.le_trans h11 h8
  rw[show(1:Nat)*10^13=10000000000000 by decide]at h12
  omega
theorem NuI.lt {s:Bs} {j n:Nat} (h:NuI s j n) (hj:j≤13):n≤9999999999999:=by
 have hd:=h.d
 rw[h.v]
 have: ∀(l:Bs),(∀b∈l,aal b=true)→ ∀a,l.foldl (fun n b=>n*10+(b.toNat-48)) a+1≤(a+1)*10^l.length:=by
  intro l
  induction l with
  |nil=>intro _ a;simp
  |cons b l ih=>
   intro hl a
   have hb:=hl b (by simp)
   unfold aal at hb
   simp only[Bool.and_eq_true,decide_eq_true_eq]at hb
   refine Nat.le_trans (ih (fun x hx=>hl x (by simp[hx])) _) ?_
   have h5:a*10+(b.toNat-48)+1≤(a+1)*10:=by omega
   rw[List.length_cons,Nat.pow_succ,Nat.mul_comm (10^l.length),←Nat.mul_assoc]
   exact Nat.mul_le_mul_right _ h5
 have h1:=this (s.take j) hd 0
 have h2:10^(s.take j).length≤10^13:=Nat.pow_le_pow_right (by omega) (by simp;omega)
 unfold QL
 omega
theorem aja {b c:UInt8} {r:Bs} (h:b=48):yR (b::c::r)=none:=by
 subst h
 unfold yR
 rw[if_neg (fun h2=>by have:=h2.2.2.1;simp at this)]
theorem Yn (s:Bs) (hs:s.length≤90000) (W:World):Calls Tryz.prog 52 #[.string (S s)] W (aSk W s):=by
 have HS:=hid hs
 go_enter Tryz.func52,Tryz.ntmps52
 go_upto_region 1 with fail
 go_cut [23]from 6 to 23 (fun s23 wc=> ∃tb:Bool,s23= .bool tb∧W=wc∧Hid (tb=true∧yR s=none∨tb=false∧s≠[]∧s.length≤13∧(s.getD 0 0≠48∨s.length=1)))
 case first=>
  cases s with
  |nil=>
   go_wp2
   go_meet
   case rel=>exact⟨true,rfl,rfl,hid (.inl ⟨rfl,rfl⟩)⟩
  | cons b r=>
   by_cases c1:13<r.length+1
   ·have hno:=hid (ahn (s:=b::r) c1)
    have c2:(13:Int)<(r.length:Int)+1:=by omega
    have c3: ¬((r.length:Int)+1=0):=by omega
    go_wp2
    go_meet
    case rel=>exact⟨true,rfl,rfl,hid (.inl ⟨rfl,hno.out⟩)⟩
   ·have c2: ¬(13:Int)<(r.length:Int)+1:=by omega
    have c3: ¬((r.length:Int)+1=0):=by omega
    by_cases c4:(b.toNat:Int)=48
    ·have hb:b=48:=UInt8.toNat_inj.1 (by show b.toNat=48;omega)
     cases r with
     |nil=>
      clear hb
      go_wp2
      go_meet
      case rel=>exact⟨false,rfl,rfl,hid (.inr ⟨rfl,by simp,by simp,.inr rfl⟩)⟩
     |cons c r=>
      have hno:=hid (aja (c:=c) (r:=r) hb)
      have c5:(1:Int)<(r.length:Int)+1+1:=by omega
      have c6: ¬((r.length:Int)+1+1=0):=by omega
      have c7: ¬(13:Int)<(r.length:Int)+1+1:=by simp at c1;omega
      clear hb c1 c2 c3
      go_wp2
      go_meet
      case rel=>exact⟨true,rfl,rfl,hid (.inl ⟨rfl,hno.out⟩)⟩
    ·have hn:b≠48:=by
      rintro rfl
      exact c4 rfl
     have HNE:=hid hn
     clear hn
     go_wp2
     go_meet
     case rel=>exact⟨false,rfl,rfl,hid (.inr ⟨rfl,by simp,by show r.length+1≤13;omega,.inl HNE.out⟩)⟩
 case rest=>
  obtain⟨tb,rfl,rfl,HT⟩:=hcut
  rcases HT.out with⟨rfl,hno⟩ | ⟨rfl,hne,h13,hhd⟩
  ·have hno:=hid hno
   go_wp2
   go_ret2
   exact⟨0,by rw[hno.out];rfl,(fun k hk=>by rw[hno.out]at hk;cases hk),rfl⟩
  ·have HH:=hid (⟨hne,h13,hhd⟩:_∧_∧_)
   clear hne h13 hhd
   have HI0:Hid (NuI s 0 0):=hid ⟨by simp[QL],by simp⟩
   obtain⟨n,hn⟩: ∃n,n=s.length:=⟨_,rfl⟩
   have HN:=hid hn
   clear hn
   go_wp2
   go_loopg [4,5] n (fun gg s4 s5 wr=> ∃(j m:Nat),j≤n∧n-j≤gg∧m≤20000000000000∧s4= .int .i64 m∧s5= .int .i64 j∧Hid (NuI s j m)∧W=wr)
   case atStart=>exact⟨0,0,by omega,by omega,by omega,rfl,rfl,HI0,rfl⟩
   case round=>
    obtain⟨j,m,hj,hgg,hm,rfl,rfl,HI,rfl⟩:=hrel
    by_cases hjn:j<n
    ·have hjs:j<s.length:=by rw[←HN.out];exact hjn
     have hji:(j:Int)<(s.length:Int):=by omega
     obtain⟨b,hb⟩: ∃b,s[j]=b:=⟨_,rfl⟩
     have HB:Hid (s[j]? =some b):=hid (by rw[←hb];exact List.getElem?_eq_getElem hjs)
     have HJ:=hid hjn
     have hb256:=b.toNat_lt
     by_cases c1:(b.toNat:Int)<48
     ·have hno:Hid (yR s=none):=hid (Qj HB.out (by unfold aal;rw[decide_eq_false (by omega)];rfl))
      go_wp2
      go_ret2
      exact⟨0,by rw[hno.out];rfl,(fun k hk=>by rw[hno.out]at hk;cases hk),rfl⟩
     ·by_cases c2:(57:Int)<(b.toNat:Int)
      ·have hno:Hid (yR s=none):=hid (Qj HB.out (by unfold aal;rw[decide_eq_false (p:=b.toNat≤57) (by omega),Bool.and_false]))
       go_wp2
       go_ret2
       exact⟨0,by rw[hno.out];rfl,(fun k hk=>by rw[hno.out]at hk;cases hk),rfl⟩
      ·have HF:=hid (HI.out.on HB.out (agv b (by omega) (by omega)))
       have hB:Hid (48≤b.toNat∧b.toNat≤57):=hid (by omega)
       have HM:Hid (m*10+(b.toNat-48)≤20000000000000):=hid (by have:=HF.out.lt (by have:=HH.out.2.1;rw[←HN.out]at this;omega);omega)
       go_wp2
       go_roundg (n- (j+1))
       case measure=>omega
       case rel=>exact⟨j+1,m*10+(b.toNat-48),by have:=HJ.out;omega,by omega,HM.out,by have:=hB.out;go_num,by go_num,HF,rfl⟩
    ·have hje:j=n:=by omega
     have hji: ¬(j:Int)<(s.length:Int):=by rw[←HN.out];omega
     have HE:=HI.out
     rw[hje,HN.out]at HE
     have HO:Hid (yR s=if m≤1099511627776 then some m else none):=hid (by
      rw[aaI HE]
      by_cases h:m≤1099511627776
      ·rw[if_pos ⟨HH.out.1,HH.out.2.2,h⟩,if_pos h]
      ·rw[if_neg (fun h2=>h h2.2.2),if_neg h])
     clear HE HI
     by_cases c3:(1099511627776:Int)<(m:Int)
     ·have e:Hid (yR s=none):=hid (by rw[HO.out,if_neg (by omega)])
      go_wp2
      go_ret2
      exact⟨0,by rw[e.out];rfl,(fun k hk=>by rw[e.out]at hk;cases hk),rfl⟩
     ·have e:Hid (yR s=some m):=hid (by rw[HO.out,if_pos (by omega)])
      go_wp2
      go_ret2
      exact⟨m,by rw[e.out];rfl,(fun k hk=>by rw[e.out]at hk;injection hk with hk;rw[hk]),rfl⟩
end
end Go.Proofs.YtcdiljebkpikbaaGreat
