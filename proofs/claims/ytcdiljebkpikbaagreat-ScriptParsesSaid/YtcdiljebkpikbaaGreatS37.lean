/- Parts of the proof: Sdh Sdk Sdl Sea Sce Sci. -/
import Derived.Laws.RangeAny
import Derived.Lib.OthersKept
import Derived.Lib.AppendStr
import Derived.Deep.LoopGhost
import Derived.Deep.Cut
import Derived.Deep.CutRange
import Derived.Deep.CutBlock
import Derived.Test.YtcdiljebkpikbaaGreatS31
import Derived.Test.YtcdiljebkpikbaaGreatS34
import Derived.Test.YtcdiljebkpikbaaGreatS36
set_option linter.all false
set_option maxRecDepth 100000
set_option maxHeartbeats 64000000
namespace Go.Proofs.YtcdiljebkpikbaaGreat
section
open Go.RowKit Go.Lib
theorem aSz:(Tryz.prog.info? 4).map (fun i=>(i.zero,i.size,i.bytes))=some (some (.bool false),1,1):=by kernel_rfl
section
variable {α:Type} {B B' k:Nat} {enc:α→List Value} {w w':World} {v:Value} {l:List α}
structure VwF (B k:Nat) (enc:α→List Value) (w:World) (v:Value) (l:List α):Prop where
 any: ∀w',w.heap.size≤w'.heap.size→(∀b,B≤b→b<w.heap.size→w'.heap[b]? =w.heap[b]?)→Vw k enc w' v l
theorem VwF.of_own {n:Nat} {T:TypeId} (hk: ∀x,(enc x).length=k) (h:w.ownsRow B T k v n (yv enc l)) (hn:n=l.length):VwF B k enc w v l:=⟨fun w' hs hb=>(Vw.of_own hk h hn).of_block (fun b hlt he=>hb b (h.lt b he).1 hlt) hs⟩
theorem VwF.vw (h:VwF B k enc w v l):Vw k enc w v l:=h.any w (Nat.le_refl _) fun _ _ _=>rfl
theorem VwF.nil (B k:Nat) (enc:α→List Value) (w:World) (p:Option Addr) (c:Nat):VwF B k enc w (.slice p 0 c) []:=⟨fun _ _ _=> .nil ..⟩
theorem VwF.mono (h:VwF B k enc w v l) (hB:B'≤B):VwF B' k enc w v l:=⟨fun w' hs hb=>h.any w' hs fun b h1 h2=>hb b (Nat.le_trans hB h1) h2⟩
theorem VwF.to (h:VwF B k enc w v l) (hs:w.heap.size≤w'.heap.size) (hb: ∀b,B≤b→b<w.heap.size→w'.heap[b]? =w.heap[b]?):VwF B k enc w' v l:=
 ⟨fun w'' hs' hb'=>h.any w'' (Nat.le_trans hs hs') fun b h1 h2=>(hb' b h1 (Nat.lt_of_lt_of_le h2 hs)).trans (hb b h1 h2)⟩
end
def BtP (W:World) (s:Bs) (e:Ending) (w':World):Prop:= ∃(l:List Bool) (p:Option Addr) (n c:Nat),e= .returned (.tuple #[.slice p n c,.bool (zX s).isSome])∧n=l.length∧(∀z,zX s=some z→l=z)∧VwF W.heap.size 1 boC w' (.slice p n c) l∧Below W.heap.size W w'
structure BtI (s:Bs) (i:Nat) (l:List Bool):Prop where
 eq:l=(s.take i).map fun b=>decide (b=121)
 all:(s.take i).all aca=true
 le:i≤s.length
 len:i=l.length
theorem BtI.zero (s:Bs):BtI s 0 []:=⟨by simp,by simp,by omega,rfl⟩
theorem BtI.on {s:Bs} {i:Nat} {l:List Bool} {c:UInt8} (h:BtI s i l) (hc:s[i]? =some c) (hb:aca c=true):BtI s (i+1) (l++[decide (c=121)]):=by
 have hl:i<s.length:=(List.getElem?_eq_some_iff.1 hc).1
 have ht:s.take (i+1)=s.take i++[c]:=by rw[List.take_add_one,hc];rfl
 refine⟨?_,?_,by omega,by rw[h.len];simp⟩
 ·rw[ht,List.map_append,←h.eq];rfl
 ·rw[ht,List.all_append,h.all];simp[hb]
theorem BtI.no {s:Bs} {i:Nat} {l:List Bool} {c:UInt8} (h:BtI s i l) (hc:s[i]? =some c) (hb:aca c=false) (h45:s≠[45]):zX s=none:=by
 unfold zX
 rw[if_neg h45,if_neg]
 rintro⟨ha,-,-⟩
 rw[List.all_eq_true]at ha
 have:=ha c (List.mem_of_getElem? hc)
 rw[hb]at this
 cases this
theorem BtI.fin {s:Bs} {l:List Bool} {i:Nat} (h:BtI s i l) (hi:s.length≤i) (h45:s≠[45]):zX s=if 1≤i∧i≤64 then some l else none:=by
 have hx:=h.le
 have he:i=s.length:=by omega
 have ha:=h.all
 have hq:=h.eq
 rw[he,List.take_length]at ha hq
 unfold zX
 rw[if_neg h45,he,←hq]
 by_cases hh:1≤s.length∧s.length≤64
 ·rw[if_pos ⟨ha,hh⟩,if_pos hh]
 ·rw[if_neg (fun hy=>hh hy.2),if_neg hh]
theorem ahF (s:Bs) (hs:s.length≤90000) (W:World):Calls Tryz.prog 56 #[.string (S s)] W (BtP W s):=by
 by_cases h45:s=[45]
 ·subst h45
  go_enter Tryz.func56,Tryz.ntmps56
  go_wp2
  go_ret2
  exact⟨[],none,0,0,rfl,rfl,(fun z hz=>by injection hz),.nil ..,Below.refl _ _⟩
 ·have hS45:(s==[45])=false:=by simpa using h45
  have H45:=hid h45
  have HS:=hid hs
  have HI0:Hid (BtI s 0 []∧W.ownsRow W.heap.size 4 1 (.slice none 0 0) 0 (yv boC [])∧Below W.heap.size W W):=hid ⟨BtI.zero s,qI _ _ _ _,Below.refl _ _⟩
  clear h45
  go_enter Tryz.func56,Tryz.ntmps56
  go_wp2
  go_loopg [4,5] s.length (fun gg s4 s5 wr=> ∃(i m:Nat) (p:Option Addr) (c:Nat),m≤s.length∧s.length-m≤gg∧s4= .slice p m c∧s5= .int .i64 m∧Hid (∃l,BtI s m l∧wr.ownsRow W.heap.size 4 1 (.slice p m c) m (yv boC l)∧Below W.heap.size W wr))
  case atStart=>exact⟨0,0,none,0,by omega,by omega,rfl,rfl,hid ⟨[],HI0.out⟩⟩
  case round=>
   obtain⟨-,m,p,c,hm,hgg,rfl,rfl,HI⟩:=hrel
   obtain⟨l,hI,ho,hb⟩:=HI.out
   have HX:=hid (⟨hI,ho,hb⟩:_∧_∧_)
   clear hI ho hb HI
   have hiz:(m:Int)≤90000:=by have:=HS.out;omega
   by_cases hj:m<s.length
   ·have hji:(m:Int)<(s.length:Int):=by omega
    obtain⟨a,ha⟩: ∃a,s[m]=a:=⟨_,rfl⟩
    have HA:Hid (s[m]? =some a):=hid (by rw[←ha];exact List.getElem?_eq_getElem hj)
    have HJ:=hid hj
    by_cases hq:aca a=true
    ·obtain⟨z,hz⟩: ∃z,z=decide (a=121):=⟨_,rfl⟩
     have HF:=hid (HX.out.1.on HA.out hq)
     rw[←hz]at HF
     have hcs:a=121∨a=110:=by simpa[aca]using hq
     have hfs:(((a.toNat:Int) != 121)=false∧((a.toNat:Int)==121)=z)∨(((a.toNat:Int) != 121)=true∧((a.toNat:Int) != 110)=false∧((a.toNat:Int)==121)=z):=by
      rw[hz]
      rcases hcs with rfl|rfl
      ·exact .inl ⟨rfl,rfl⟩
      ·exact .inr ⟨rfl,rfl,rfl⟩
     clear hz hq hcs
     rcases hfs with⟨f1,f3⟩ | ⟨f1,f2,f3⟩
     all_goals
      go_wp2_with (with_reducible refine yd .append rfl ?_)
      with_reducible refine ki ?_
      refine zO rfl _ _ 49 rfl boC aSz Tryz.underlying49 rfl (by decide) (by decide) XW af3 z HX.out.2.1 (by have:=HX.out.1.le;omega) HX.out.2.2.size rfl rfl ?_
      intro v3 w3 ho3 hk3 _
      obtain⟨p3,c3,rfl⟩:=zm ho3
      have HF3:Hid (∃l,BtI s (m+1) l∧w3.ownsRow W.heap.size 4 1 (.slice p3 (m+1) c3) (m+1) (yv boC l)∧Below W.heap.size W w3):=hid ⟨_,HF.out,ho3,HX.out.2.2.trans (hk3.to_below HX.out.2.2.size fun x hx=>(HX.out.2.1.lt x (Option.mem_toList.1 hx)).1)⟩
      clear ho3 hk3
      go_wp2
      go_roundg (s.length- (m+1))
      case measure=>omega
      case rel=>exact⟨0,m+1,p3,c3,by have:=HJ.out;omega,by omega,rfl,by go_num,HF3⟩
    ·have hq2:aca a=false:=by simpa using hq
     have HN:=hid (HX.out.1.no HA.out hq2 H45.out)
     have HB:=hid HX.out.2.2
     have hne:a≠121∧a≠110:=by simpa[aca]using hq2
     have h1:(a.toNat:Int)≠121:=fun h=>hne.1 (UInt8.toNat_inj.1 (by simpa using(by omega:a.toNat=121)))
     have h2:(a.toNat:Int)≠110:=fun h=>hne.2 (UInt8.toNat_inj.1 (by simpa using(by omega:a.toNat=110)))
     have f1:((a.toNat:Int) != 121)=true:=by simp[h1]
     have f2:((a.toNat:Int) != 110)=true:=by simp[h2]
     clear h1 h2
     clear hne hq hq2
     go_wp2
     go_ret2
     exact⟨[],none,0,0,by rw[HN.out];rfl,rfl,(fun z hz=>by rw[HN.out]at hz;cases hz),.nil ..,HB.out⟩
   ·have hji: ¬(m:Int)<(s.length:Int):=by omega
    have hfin:=HX.out.1.fin (by omega) H45.out
    obtain⟨hI,ho,hb⟩:=HX.out
    have HV:=hid (VwF.of_own XW ho hI.len)
    have HL:=hid hI.len
    have HB:=hid hb
    have HF:=hid hfin
    clear hI ho hb hfin HX
    have h3:m=0∨(1≤m∧m≤64)∨64<m:=by omega
    rcases h3 with h3| ⟨h3,h4⟩ |h3
    ·have HE:Hid (zX s=none):=hid (by rw[HF.out,if_neg (by omega)])
     subst h3
     go_wp2
     go_ret2
     exact⟨l,p,0,c,by rw[HE.out];rfl,HL.out,(fun z hz=>by rw[HE.out]at hz;cases hz),HV.out,HB.out⟩
    ·have HE:Hid (zX s=some l):=hid (by rw[HF.out,if_pos ⟨h3,h4⟩])
     have h5:(1:Int)≤(m:Int):=by omega
     have h6:(m:Int)≤64:=by omega
     go_wp2
     go_ret2
     exact⟨l,p,m,c,by rw[HE.out];rfl,HL.out,(fun z hz=>by rw[HE.out]at hz;injection hz),HV.out,HB.out⟩
    ·have HE:Hid (zX s=none):=hid (by rw[HF.out,if_neg (by omega)])
     have h5:(1:Int)≤(m:Int):=by omega
     have h6: ¬(m:Int)≤64:=by omega
     go_wp2
     go_ret2
     exact⟨l,p,m,c,by rw[HE.out];rfl,HL.out,(fun z hz=>by rw[HE.out]at hz;cases hz),HV.out,HB.out⟩
theorem Jm (s:Bs) (m:Nat) (hz:m<(S s).size):(S s)[m]'hz=s[m]'(by rw[ja]at hz;exact hz):=by
 show s.toArray[m]'_=_
 exact List.getElem_toArray _
theorem aMf {s:Bs} {m:Nat} {a:UInt8} (hm:m<s.length) (ha:s[m]? =some a) (h:128≤a.toNat):128≤(Utf8.decode (S s) m).1:=by
 have hz:m<(S s).size:=by rw[ja];exact hm
 have he:(S s)[m]'hz=a:=by
  have:=List.getElem?_eq_some_iff.1 ha
  rw[←this.2]
  exact Jm s m hz
 exact(decode_high (S s) m hz (by rw[he];exact h)).1
theorem anQ {s:Bs} {m:Nat} {a:UInt8} (hm:m<s.length) (ha:s[m]? =some a) (h:a.toNat<128):Utf8.decode (S s) m=(a.toNat,1):=by
 have hz:m<(S s).size:=by rw[ja];exact hm
 have he:(S s)[m]'hz=a:=by
  have:=List.getElem?_eq_some_iff.1 ha
  rw[←this.2]
  exact Jm s m hz
 rw[decode_ascii (S s) m hz (by rw[he];exact h),he]
theorem ab9 (s:Bs) (hs:s.length≤90000) (W:World):Calls Tryz.prog 51 #[.string (S s)] W (BtP W s):=by
 by_cases h45:s=[45]
 ·subst h45
  go_enter Tryz.func51,Tryz.ntmps51
  go_wp2
  go_ret2
  exact⟨[],none,0,0,rfl,rfl,(fun z hz=>by injection hz),.nil ..,Below.refl _ _⟩
 ·have hS45:(s==[45])=false:=by simpa using h45
  have H45:=hid h45
  have HS:=hid hs
  clear h45
  go_enter Tryz.func51,Tryz.ntmps51
  go_wp2
  go_loopg [4] s.length (fun gg s4 wr=> ∃(m:Nat) (p:Option Addr) (c:Nat),m≤s.length∧s.length-m≤gg∧s4= .slice p m c∧Hid (∃l,BtI s m l∧wr.ownsRow (W.heap.size+1) 4 1 (.slice p m c) m (yv boC l)∧wr.heap[W.heap.size]? =some (.stringIter (S s) m)∧Below W.heap.size W wr))
  case atStart=>
   refine⟨0,none,0,by omega,by omega,rfl,hid ⟨[],BtI.zero s,qI _ _ _ _,?_,?_⟩⟩
   ·exact World.iter_heap W (S s) 0
   ·exact(Below.refl _ _).alloc (Nat.le_refl _) _
  case round=>
   obtain⟨m,p,c,hm,hgg,rfl,HI⟩:=hrel
   obtain⟨l,hI,ho,hit,hb⟩:=HI.out
   have HX:=hid (⟨hI,ho,hb⟩:_∧_∧_)
   clear hI ho hb HI
   have hiz:(m:Int)≤90000:=by have:=HS.out;omega
   by_cases hj:m<s.length
   ·have hj2:m<(S s).size:=by rw[ja];exact hj
    obtain⟨a,ha⟩: ∃a,s[m]? =some a:=⟨_,List.getElem?_eq_getElem hj⟩
    have HA:=hid ha
    have HJ:=hid hj
    have hrun: ∀ty,(Instr.next (.pointer (some ⟨W.heap.size,0,none⟩)) true ty).run Tryz.prog wr=_:=fun ty=>Lib.run_next_any_at wr W.heap.size (S s) m ty hit hj2
    have hbi:=Lib.below_iterAt HX.out.2.2 (Nat.le_refl _) (S s) (m+(Utf8.decode (S s) m).2)
    have hoi:(wr.iterAt W.heap.size (S s) (m+(Utf8.decode (S s) m).2)).ownsRow (W.heap.size+1) 4 1 (.slice p m c) m (yv boC l):=xN HX.out.2.1 fun b hb=>Lib.iterAt_other _ _ _ _ _ (by have:=(HX.out.2.1.lt b hb).1;omega)
    have hti:=Lib.iterAt_heap wr W.heap.size (S s) m (m+(Utf8.decode (S s) m).2) hit
    have hsi:=Lib.iterAt_size wr W.heap.size (S s) (m+(Utf8.decode (S s) m).2)
    by_cases hq:aca a=true
    ·have hcs:a=121∨a=110:=by simpa[aca]using hq
     have hlo:=anQ hj ha (by rcases hcs with rfl|rfl<;>decide)
     rw[hlo]at hrun hbi hoi hti hsi
     simp only[]at hrun hbi hoi hti hsi
     obtain⟨wi,hwi⟩: ∃wi,wi=wr.iterAt W.heap.size (S s) (m+1):=⟨_,rfl⟩
     rw[←hwi]at hbi hoi hti hsi
     have hnx: ∀ty,(Instr.next (.pointer (some ⟨W.heap.size,0,none⟩)) true ty).run Tryz.prog wr= .ok (.tuple #[.bool true,.int .i64 m,.int .i32 a.toNat]) wi:=by rw[hwi];exact hrun
     have HY:=hid (⟨hoi,hti,hbi⟩:_∧_∧_)
     obtain⟨z,hz⟩: ∃z,z=decide (a=121):=⟨_,rfl⟩
     have HF:=hid (HX.out.1.on HA.out hq)
     rw[←hz]at HF
     have hfs:(((a.toNat:Int) != 121)=false∧((a.toNat:Int)==121)=z)∨(((a.toNat:Int) != 121)=true∧((a.toNat:Int) != 110)=false∧((a.toNat:Int)==121)=z):=by
      rw[hz]
      rcases hcs with rfl|rfl
      ·exact .inl ⟨rfl,rfl⟩
      ·exact .inr ⟨rfl,rfl,rfl⟩
     clear hz hq hcs hlo hrun hwi hbi hoi hti hsi hit ha
     rcases hfs with⟨f1,f3⟩ | ⟨f1,f2,f3⟩
     all_goals
      go_wp2_with (with_reducible refine yd .append rfl ?_)
      with_reducible refine ki ?_
      refine zO rfl _ _ 49 rfl boC aSz Tryz.underlying49 rfl (by decide) (by decide) XW af3 z HY.out.1 (by have:=HX.out.1.le;omega) (Nat.succ_le_of_lt (Array.getElem?_eq_some_iff.1 HY.out.2.1).1) rfl rfl ?_
      intro v3 w3 ho3 hk3 _
      obtain⟨p3,c3,rfl⟩:=zm ho3
      have HF3:Hid (∃l,BtI s (m+1) l∧w3.ownsRow (W.heap.size+1) 4 1 (.slice p3 (m+1) c3) (m+1) (yv boC l)∧w3.heap[W.heap.size]? =some (.stringIter (S s) (m+1))∧Below W.heap.size W w3):=hid ⟨_,HF.out,ho3,(hk3.block _ (Array.getElem?_eq_some_iff.1 HY.out.2.1).1 (fun hx=>by have:=(HY.out.1.lt _ (Option.mem_toList.1 hx)).1;omega)).trans HY.out.2.1,HY.out.2.2.trans (hk3.to_below HY.out.2.2.size fun x hx=>by have:=(HY.out.1.lt x (Option.mem_toList.1 hx)).1;omega)⟩
      clear ho3 hk3
      go_wp2
      go_roundg (s.length- (m+1))
      case measure=>have:=HJ.out;omega
      case rel=>exact⟨m+1,p3,c3,by have:=HJ.out;omega,by omega,rfl,HF3⟩
    ·have hq2:aca a=false:=by simpa using hq
     have HN:=hid (HX.out.1.no HA.out hq2 H45.out)
     have HB:=hid hbi
     have hne:a≠121∧a≠110:=by simpa[aca]using hq2
     have hd:(Utf8.decode (S s) m).1≠121∧(Utf8.decode (S s) m).1≠110:=by
      by_cases h128:a.toNat<128
      ·rw[anQ hj ha h128]
       exact⟨fun h=>hne.1 (UInt8.toNat_inj.1 h),fun h=>hne.2 (UInt8.toNat_inj.1 h)⟩
      ·have:=aMf hj ha (by omega)
       omega
     obtain⟨wi,hwi⟩: ∃wi,wi=wr.iterAt W.heap.size (S s) (m+(Utf8.decode (S s) m).2):=⟨_,rfl⟩
     obtain⟨r,hr⟩: ∃r,r=(Utf8.decode (S s) m).1:=⟨_,rfl⟩
     rw[←hwi]at HB
     rw[←hr]at hd
     have hnx: ∀ty,(Instr.next (.pointer (some ⟨W.heap.size,0,none⟩)) true ty).run Tryz.prog wr= .ok (.tuple #[.bool true,.int .i64 m,.int .i32 r]) wi:=by rw[hwi,hr];exact hrun
     have f1:((r:Int) != 121)=true:=by have:=hd.1;simp;omega
     have f2:((r:Int) != 110)=true:=by have:=hd.2;simp;omega
     clear hne hq hq2 hd hwi hr hrun hbi hoi hti hsi hit ha
     go_wp2
     go_ret2
     exact⟨[],none,0,0,by rw[HN.out];rfl,rfl,(fun z hz=>by rw[HN.out]at hz;cases hz),.nil ..,HB.out⟩
   ·have hnx: ∀ty,(Instr.next (.pointer (some ⟨W.heap.size,0,none⟩)) true ty).run Tryz.prog wr=_:=fun ty=>Lib.run_next_end_at wr W.heap.size (S s) m ty hit (by rw[ja];exact hj)
    have hfin:=HX.out.1.fin (by omega) H45.out
    obtain⟨hI,ho,hb⟩:=HX.out
    have HV:=hid ((VwF.of_own XW ho hI.len).mono (Nat.le_succ _))
    have HL:=hid hI.len
    have HB:=hid hb
    have HF:=hid hfin
    clear hI ho hb hfin HX hit
    have h3:m=0∨(1≤m∧m≤64)∨64<m:=by omega
    rcases h3 with h3| ⟨h3,h4⟩ |h3
    ·have HE:Hid (zX s=none):=hid (by rw[HF.out,if_neg (by omega)])
     subst h3
     go_wp2
     go_ret2
     exact⟨l,p,0,c,by rw[HE.out];rfl,HL.out,(fun z hz=>by rw[HE.out]at hz;cases hz),HV.out,HB.out⟩
    ·have HE:Hid (zX s=some l):=hid (by rw[HF.out,if_pos ⟨h3,h4⟩])
     have h5:(1:Int)≤(m:Int):=by omega
     have h6:(m:Int)≤64:=by omega
     go_wp2
     go_ret2
     exact⟨l,p,m,c,by rw[HE.out];rfl,HL.out,(fun z hz=>by rw[HE.out]at hz;injection hz),HV.out,HB.out⟩
    ·have HE:Hid (zX s=none):=hid (by rw[HF.out,if_neg (by omega)])
     have h5:(1:Int)≤(m:Int):=by omega
     have h6: ¬(m:Int)≤64:=by omega
     go_wp2
     go_ret2
     exact⟨l,p,m,c,by rw[HE.out];rfl,HL.out,(fun z hz=>by rw[HE.out]at hz;cases hz),HV.out,HB.out⟩
end
section
open Go.RowKit Go.Lib
theorem aBq {x:Int} (h:x<0):YH x=false:=by
 unfold YH
 rw[decide_eq_false (by omega),Bool.false_and]
theorem aBp {x:Int} (h:1099511627776<x):YH x=false:=by
 unfold YH
 rw[decide_eq_false (p:=x≤1099511627776) (by omega),Bool.and_false]
theorem aBr {x:Int} (h:0≤x) (h2:x≤1099511627776):YH x=true:=by
 unfold YH
 rw[decide_eq_true h,decide_eq_true h2]
 rfl
theorem QE (x:Int) (W:World):Calls Tryz.prog 36 #[.int .i64 x] W fun e w'=>e= .returned (.bool (YH x))∧W=w':=by
 obtain⟨b,hb⟩: ∃b,b=YH x:=⟨_,rfl⟩
 have HB:=hid hb
 rw[←hb]
 clear hb
 by_cases h0:0≤x
 ·by_cases h1:x≤1099511627776
  ·have HE:Hid (b=true):=hid (by rw[HB.out,aBr h0 h1])
   go_enter Tryz.func36,Tryz.ntmps36
   go_wp2
   go_ret
   exact⟨by rw[HE.out];rfl,rfl⟩
  ·have HE:Hid (b=false):=hid (by rw[HB.out,aBp (by omega)])
   go_enter Tryz.func36,Tryz.ntmps36
   go_wp2
   go_ret
   exact⟨by rw[HE.out];rfl,rfl⟩
 ·have HE:Hid (b=false):=hid (by rw[HB.out,aBq (by omega)])
  go_enter Tryz.func36,Tryz.ntmps36
  go_wp2
  go_ret
  exact⟨by rw[HE.out];rfl,rfl⟩
theorem abX (l:List Bs) (p:Option Addr) (n c:Nat) (hn:n=l.length) (h0:l≠[]) (hl:l.length≤90001) (W:World) (hv:Vw 1 jQ W (.slice p n c) l):Calls Tryz.prog 23 #[.slice p n c] W fun e w'=>e= .returned (.bool (l.any List.isEmpty))∧W=w':=by
 obtain⟨gb,off,cc,e1,e2,e3,e4⟩:=hv.ex h0
 injection e1 with e1 e5 e6
 subst e1 e6
 have HC:Hid (∀i x,l[i]? =some x→W.cell? ⟨gb,off+i,none⟩=some (.string (S x))):=hid fun i x hx=>by
  have:=e4 i x hx 0 (.string (S x)) rfl
  rw[←this]
  simp
 have HW:=hid (⟨hn,hl⟩:_∧_)
 clear hv e2 e3 e4 e5 hn h0 hl
 go_enter Tryz.func23,Tryz.ntmps23
 go_wp2
 go_loopg [3] n (fun gg s7 wr=> ∃i:Nat,i≤n∧n-i≤gg∧s7= .int .i64 i∧wr=W∧Hid ((l.take i).any List.isEmpty=false))
 case atStart=>exact⟨0,by omega,by omega,rfl,rfl,hid (by simp)⟩
 case round=>
  obtain⟨i,hi,hgg,rfl,rfl,HI⟩:=hrel
  by_cases hj:i<n
  ·have hjz:(i:Int)<(n:Int):=by omega
   have hiz:(i:Int)≤90001:=by have:=HW.out;omega
   obtain⟨x,hx⟩: ∃x,l[i]? =some x:=⟨_,List.getElem?_eq_getElem (by rw[←HW.out.1];exact hj)⟩
   have hc:=HC.out i x hx
   have HX:=hid hx
   have HJ:=hid hj
   clear hx
   cases hxe:x.isEmpty with
   | true=>
    have HE:Hid (l.any List.isEmpty=true):=hid (by
     rw[List.any_eq_true]
     exact⟨x,List.mem_of_getElem? HX.out,hxe⟩)
    go_wp2
    go_ret
    exact⟨by rw[HE.out];rfl,rfl⟩
   |false=>
    have HI2:Hid ((l.take (i+1)).any List.isEmpty=false):=hid (by rw[List.take_add_one,HX.out,List.any_append,HI.out];simp[hxe])
    go_wp2
    go_roundg (n- (i+1))
    case measure=>have:=HJ.out;omega
    case rel=>exact⟨i+1,by have:=HJ.out;omega,by omega,by go_num,rfl,HI2⟩
  ·have hjz: ¬(i:Int)<(n:Int):=by omega
   have HE:Hid (l.any List.isEmpty=false):=hid (by have h:=HI.out;rwa[List.take_of_length_le (by rw[←HW.out.1];omega)]at h)
   go_wp2
   go_ret
   exact⟨by rw[HE.out];rfl,rfl⟩
end
section
open Go.RowKit Go.Lib
def bcB (b:Bool):UInt8:=if b then 121 else 110
theorem Ki (l:List Bool) (p:Option Addr) (n c:Nat) (hn:n=l.length) (hl:l.length≤90000) (W:World) (hv:Vw 1 boC W (.slice p n c) l):Calls Tryz.prog 59 #[.slice p n c] W fun e w'=>e= .returned (.string (S (XV l)))∧W=w':=by
 by_cases h0:l=[]
 ·subst h0
  subst hn
  go_enter Tryz.func59,Tryz.ntmps59
  go_wp2
  go_ret
  exact⟨rfl,rfl⟩
 ·obtain⟨gb,off,cc,e1,e2,e3,e4⟩:=hv.ex h0
  injection e1 with e1 e5 e6
  subst e1 e6
  have HC:Hid (∀i x,l[i]? =some x→W.cell? ⟨gb,off+i,none⟩=some (.bool x)):=hid fun i x hx=>by
   have:=e4 i x hx 0 (.bool x) rfl
   rw[←this]
   simp
  have HB:Hid (XV l=l.map bcB):=hid (by unfold XV;rw[if_neg h0];rfl)
  have hnz:((n:Int)==0)=false:=by
   rw[beq_eq_false_iff_ne]
   have:=List.length_pos_iff.2 h0
   omega
  have HW:=hid (⟨hn,hl⟩:_∧_)
  clear hv e2 e3 e4 e5 hn h0 hl
  go_enter Tryz.func59,Tryz.ntmps59
  go_wp2
  go_loopg [3,4] n (fun gg s3 s4 wr=> ∃(i:Nat) (a:Bs),i≤n∧n-i≤gg∧s3= .string (S a)∧s4= .int .i64 i∧wr=W∧Hid (a=(l.take i).map bcB))
  case atStart=>exact⟨0,[],by omega,by omega,rfl,rfl,rfl,hid rfl⟩
  case round=>
   obtain⟨i,a,hi,hgg,rfl,rfl,rfl,HI⟩:=hrel
   by_cases hj:i<n
   ·have hjz:(i:Int)<(n:Int):=by omega
    have hiz:(i:Int)≤90001:=by have:=HW.out;omega
    obtain⟨x,hx⟩: ∃x,l[i]? =some x:=⟨_,List.getElem?_eq_getElem (by rw[←HW.out.1];exact hj)⟩
    have hc:=HC.out i x hx
    have HI2:Hid (a++[bcB x]=(l.take (i+1)).map bcB):=hid (by rw[HI.out,List.take_add_one,hx];simp)
    have hal:(a.length:Int)+1≤90001:=by have h:=HI.out;have:=HW.out;rw[h];simp;omega
    have hal2:(S a).size+1≤140737488355328:=by rw[ja];omega
    have hal3:a.length+1≤140737488355328:=by omega
    have HJ:=hid hj
    clear hx
    cases x
    all_goals
     go_wp2
     go_roundg (n- (i+1))
     case measure=>have:=HJ.out;omega
     case rel=>exact⟨i+1,_,by have:=HJ.out;omega,by omega,by first |rfl|simp,by go_num,rfl,HI2⟩
   ·have hjz: ¬(i:Int)<(n:Int):=by omega
    have HE:Hid (a=XV l):=hid (by have h:=HI.out;rw[List.take_of_length_le (by rw[←HW.out.1];omega)]at h;rw[h,HB.out])
    go_wp2
    go_ret
    exact⟨by rw[HE.out];rfl,rfl⟩
end
section
open Go.RowKit Go.Lib
def IxE (l:List Bs) (W:World) (e:Ending) (w':World):Prop:= ∃k:Int,e= .returned (.int .i64 k)∧decide (0≤k)=l.any List.isEmpty∧W=w'
theorem ab4 (l:List Bs) (p:Option Addr) (n c:Nat) (hn:n=l.length) (h0:l≠[]) (hl:l.length≤90001) (W:World) (hv:Vw 1 jQ W (.slice p n c) l):Calls Tryz.prog 45 #[.slice p n c,.string (S [])] W (IxE l W):=by
 obtain⟨gb,off,cc,e1,e2,e3,e4⟩:=hv.ex h0
 injection e1 with e1 e5 e6
 subst e1 e6
 have HC:Hid (∀i x,l[i]? =some x→W.cell? ⟨gb,off+i,none⟩=some (.string (S x))):=hid fun i x hx=>by
  have:=e4 i x hx 0 (.string (S x)) rfl
  rw[←this]
  simp
 have HW:=hid (⟨hn,hl⟩:_∧_)
 clear hv e2 e3 e4 e5 hn h0 hl
 go_enter Tryz.func45,Tryz.ntmps45
 go_wp2
 go_loopg [8] n (fun gg s7 wr=> ∃i:Nat,i≤n∧n-i≤gg∧s7= .int .i64 i∧wr=W∧Hid ((l.take i).any List.isEmpty=false))
 case atStart=>exact⟨0,by omega,by omega,rfl,rfl,hid (by simp)⟩
 case round=>
  obtain⟨i,hi,hgg,rfl,rfl,HI⟩:=hrel
  by_cases hj:i<n
  ·have hjz:(i:Int)<(n:Int):=by omega
   have hiz:(i:Int)≤90001:=by have:=HW.out;omega
   obtain⟨x,hx⟩: ∃x,l[i]? =some x:=⟨_,List.getElem?_eq_getElem (by rw[←HW.out.1];exact hj)⟩
   have hc:=HC.out i x hx
   have HX:=hid hx
   have HJ:=hid hj
   clear hx
   cases hxe:x.isEmpty with
   | true=>
    have HE:Hid (l.any List.isEmpty=true):=hid (by
     rw[List.any_eq_true]
     exact⟨x,List.mem_of_getElem? HX.out,hxe⟩)
    go_wp2
    go_ret
    exact⟨i,rfl,by rw[HE.out];simp,rfl⟩
   |false=>
    have HI2:Hid ((l.take (i+1)).any List.isEmpty=false):=hid (by rw[List.take_add_one,HX.out,List.any_append,HI.out];simp[hxe])
    go_wp2
    go_roundg (n- (i+1))
    case measure=>have:=HJ.out;omega
    case rel=>exact⟨i+1,by have:=HJ.out;omega,by omega,by go_num,rfl,HI2⟩
  ·have hjz: ¬(i:Int)<(n:Int):=by omega
   have HE:Hid (l.any List.isEmpty=false):=hid (by have h:=HI.out;rwa[List.take_of_length_le (by rw[←HW.out.1];omega)]at h)
   go_wp2
   go_ret
   exact⟨-1,rfl,by rw[HE.out];simp,rfl⟩
theorem QB (l:List Bs) (p:Option Addr) (n c:Nat) (hn:n=l.length) (h0:l≠[]) (hl:l.length≤90001) (W:World) (hv:Vw 1 jQ W (.slice p n c) l):Calls Tryz.prog 19 #[.slice p n c,.string (S [])] W fun e w'=>e= .returned (.bool (l.any List.isEmpty))∧W=w':=by
 have H:=hid (ab4 l p n c hn h0 hl W hv)
 clear hn h0 hl hv
 go_enter Tryz.func19,Tryz.ntmps19
 go_wp2_with fail
 (with_reducible refine H.out.mono ?_)
 rintro e W2 ⟨k,rfl,hk,rfl⟩
 replace hk:=hid hk
 go_wp2
 go_ret
 exact⟨by rw[←hk.out];rfl,rfl⟩
end
section
open Go.RowKit Go.Lib
theorem yo {W:World} {B n k g:Nat} {T U:TypeId} {v:Value} {xs:List Value} {cs:Array Value} (h:W.ownsRow B T k v n xs) (hb:Blk W g U cs) (ht:T≠U):v.ownBlock≠some g:=aBG (u:=v) (m:=0) (ys:=[]) h hb ht
end
section
open Go.RowKit Go.Lib
def RdS (s:Bs) (st:Option Nat) (a e:Int):Prop:=match st with
 |some k=>a=k∧e=0∧k≤s.length
 |none=>e≠0
def RdM (W:World) (g:Nat) (s:Bs) (st:Option Nat):Prop:= ∃a e:Int,Blk W g 154 #[.string (S s),.int .i64 a,.int .i64 e]∧RdS s st a e
section
variable {W W':World} {g:Nat} {s:Bs} {st:Option Nat}
theorem RdM.kp {O:List Nat} (h:RdM W g s st) (hk:Kp O W W') (hg:g∉O):RdM W' g s st:=by
 obtain⟨a,e,h1,h2⟩:=h
 exact⟨a,e,h1.kp hk hg,h2⟩
theorem RdM.below (h:RdM W g s st) (hb:Below W.heap.size W W'):RdM W' g s st:=by
 obtain⟨a,e,h1,h2⟩:=h
 exact⟨a,e,h1.below hb h1.lt,h2⟩
theorem RdM.lt (h:RdM W g s st):g<W.heap.size:=by
 obtain⟨a,e,h1,_⟩:=h
 exact h1.lt
theorem ahA {g:Nat} {T:TypeId} {a b c u v:Value} (h:Blk W g T #[a,b,c]):Blk ((W.setCell ⟨g,1,none⟩ u).setCell ⟨g,2,none⟩ v) g T #[a,u,v]:=(h.set_ 1 u).set_ 2 v
theorem an2 {g:Nat} {w:World} {u v:Value} (h:Kp [g] w W):Kp [g] w ((W.setCell ⟨g,1,none⟩ u).setCell ⟨g,2,none⟩ v):=(h.setCell (.inl (by simp)) _).setCell (.inl (by simp)) _
theorem zH (h:RdM W g s st) (hs:s.length≤1000000):
  Calls Tryz.prog 89 #[.pointer (some ⟨g,0,none⟩)] W fun r w'=>r= .returned (.int .i64 (rdI s st).1)∧RdM w' g s (rdI s st).2∧Kp [g] W w':=by
 obtain⟨a,e,hb,hr⟩:=h
 have e2:W.cell? ⟨g,2,none⟩=some (.int .i64 e):=hb.cell 2
 cases st with
 |none=>
  have hne:(e==0)=false:=by simpa[RdS]using hr
  have HF:Hid (RdM W g s none):=hid ⟨a,e,hb,hr⟩
  have HV:Hid ((rdI s none)=(0,none)):=hid rfl
  rw[HV.out]
  clear hb hr
  go_enter Tryz.func89,Tryz.ntmps89
  go_wp2
  go_ret
  exact⟨rfl,HF.out,Kp.refl _ _⟩
 | some k=>
  obtain⟨rfl,rfl,hk⟩:a=k∧e=0∧k≤s.length:=hr
  obtain⟨WD,hWD⟩: ∃WD,WD=W.drew:=⟨_,rfl⟩
  have hBD:Blk WD g 154 #[.string (S s),.int .i64 k,.int .i64 0]:=by rw[hWD];exact hb.drew
  have hKD:Kp [g] W WD:=by rw[hWD];exact(Kp.refl _ _).drew
  obtain⟨x,nx,ex,st',hrd,hres,hst⟩: ∃(x nx ex:Int) (st':Option Nat),(∀W',Calls Tryz.prog 136 #[.string (S s),.int .i64 k] W' fun e w'=>e= .returned (.tuple #[.int .i64 x,.int .i64 nx,.int .i64 ex])∧W'=w')∧rdI s (some k)=(x,st')∧RdS s st' nx ex:=by
   by_cases h8:k+8≤s.length
   ·refine⟨_,_,_,some (k+8),fun W'=>ahI s k W' hs h8,?_,⟨rfl,rfl,h8⟩⟩
    unfold rdI aNq
    simp only[]
    rw[if_pos h8]
   ·have hl:qr s.length k 8=5:=by unfold qr;rw[if_neg (by omega),if_pos (by omega)]
    refine⟨_,_,_,none,fun W'=>ajo s k W' hs (by rw[hl];decide),?_,?_⟩
    ·unfold rdI
     simp only[]
     rw[if_neg h8]
    ·show qr s.length k 8≠0
     rw[hl];decide
  rw[hres]
  have HRD:=hid hrd
  have HF:Hid (RdM ((WD.setCell ⟨g,1,none⟩ (.int .i64 nx)).setCell ⟨g,2,none⟩ (.int .i64 ex)) g s st'∧Kp [g] W ((WD.setCell ⟨g,1,none⟩ (.int .i64 nx)).setCell ⟨g,2,none⟩ (.int .i64 ex))):=hid ⟨⟨nx,ex,ahA hBD,hst⟩,an2 hKD⟩
  have HB1:Hid (Blk (WD.setCell ⟨g,1,none⟩ (.int .i64 nx)) g 154 #[.string (S s),.int .i64 nx,.int .i64 0]):=hid (hBD.set_ 1 _)
  have d0:=hb.drew.cell 0
  have HBD:=hid hBD
  have HWD:=hid hWD
  clear hb hBD hKD hrd hres hst hWD
  go_enter Tryz.func89,Tryz.ntmps89
  go_wp2
  refine zB (fun W'=>W'.cell? ⟨g,0,none⟩=some (.string (S s))) 21 (by kernel_rfl) d0 (fun hHeld=>?_)
  rw[←HWD.out]at hHeld⊢
  clear e2 d0
  have c1:WD.cell? ⟨g,1,none⟩=some (.int .i64 k):=HBD.out.cell 1
  have f1:=HBD.out.frozen 1
  have l1:=HBD.out.lt
  refine eT 0 hHeld ?_;(try simp only[Act.put,sEa,sEb,sEc]);refine eT 1 hHeld ?_;(try simp only[Act.put,sEa,sEb,sEc]);refine eT 2 hHeld ?_;(try simp only[Act.put,sEa,sEb,sEc]);refine eT 3 hHeld ?_;(try simp only[Act.put,sEa,sEb,sEc]);refine eT 4 hHeld ?_;(try simp only[Act.put,sEa,sEb,sEc]);refine eT 5 hHeld ?_;(try simp only[Act.put,sEa,sEb,sEc]);refine eT 6 hHeld ?_;(try simp only[Act.put,sEa,sEb,sEc]);refine eT 7 hHeld ?_;(try simp only[Act.put,sEa,sEb,sEc]);refine eT 8 hHeld ?_;(try simp only[Act.put,sEa,sEb,sEc]);refine eR 9 (fun K hK=>?_);go_simp;refine hK.out _ _ (by exact hHeld) (fun hHeld=>?_);clear hK K;(try simp only[Act.put,sEa,sEb,sEc])
  refine eR 10 (fun K hK=>?_)
  go_simp
  (with_reducible refine(HRD.out _).mono ?_)
  rintro r w2 ⟨rfl,rfl⟩
  refine hK.out _ _ hHeld (fun hHeld=>?_)
  clear hK K
  (try simp only[Act.put,sEa,sEb,sEc])
  refine eT 11 hHeld ?_;(try simp only[Act.put,sEa,sEb,sEc]);refine eT 12 hHeld ?_;(try simp only[Act.put,sEa,sEb,sEc]);refine eT 13 hHeld ?_;(try simp only[Act.put,sEa,sEb,sEc]);refine eT 14 hHeld ?_;(try simp only[Act.put,sEa,sEb,sEc]);refine eT 15 hHeld ?_;(try simp only[Act.put,sEa,sEb,sEc]);refine eT 16 hHeld ?_;(try simp only[Act.put,sEa,sEb,sEc]);refine eT 17 hHeld ?_;(try simp only[Act.put,sEa,sEb,sEc]);refine eR 18 (fun K hK=>?_);go_simp;refine hK.out _ _ (by exact HB1.out.cell 0) (fun hHeld=>?_);clear hK K;(try simp only[Act.put,sEa,sEb,sEc])
  have c2:(WD.setCell ⟨g,1,none⟩ (.int .i64 nx)).cell? ⟨g,2,none⟩=some (.int .i64 0):=HB1.out.cell 2
  have f2:=HB1.out.frozen 2
  have l2:=HB1.out.lt
  refine eT 19 hHeld ?_;(try simp only[Act.put,sEa,sEb,sEc]);refine eT 20 hHeld ?_;(try simp only[Act.put,sEa,sEb,sEc]);refine eL (fun K hK=>?_);go_simp;refine hK.out _ _ ?_;clear hK K;(try simp only[Act.put,sEa,sEb,sEc])
  go_wp2
  go_ret
  exact⟨rfl,HF.out⟩
theorem xJ (h:RdM W g s st) (hs:s.length≤1000000):
  Calls Tryz.prog 90 #[.pointer (some ⟨g,0,none⟩)] W fun r w'=>r= .returned (.float .f64 (rdF s st).1)∧RdM w' g s (rdF s st).2∧Kp [g] W w':=by
 obtain⟨a,e,hb,hr⟩:=h
 have e2:W.cell? ⟨g,2,none⟩=some (.int .i64 e):=hb.cell 2
 cases st with
 |none=>
  have hne:(e==0)=false:=by simpa[RdS]using hr
  have HF:Hid (RdM W g s none):=hid ⟨a,e,hb,hr⟩
  have HV:Hid ((rdF s none)=(0,none)):=hid rfl
  rw[HV.out]
  clear hb hr
  go_enter Tryz.func90,Tryz.ntmps90
  go_wp2
  go_ret
  exact⟨rfl,HF.out,Kp.refl _ _⟩
 | some k=>
  obtain⟨rfl,rfl,hk⟩:a=k∧e=0∧k≤s.length:=hr
  obtain⟨WD,hWD⟩: ∃WD,WD=W.drew:=⟨_,rfl⟩
  have hBD:Blk WD g 154 #[.string (S s),.int .i64 k,.int .i64 0]:=by rw[hWD];exact hb.drew
  have hKD:Kp [g] W WD:=by rw[hWD];exact(Kp.refl _ _).drew
  obtain⟨x,nx,ex,st',hrd,hres,hst⟩: ∃(x:Nat) (nx ex:Int) (st':Option Nat),(∀W',Calls Tryz.prog 137 #[.string (S s),.int .i64 k] W' fun e w'=>e= .returned (.tuple #[.int .u64 x,.int .i64 nx,.int .i64 ex])∧W'=w')∧rdF s (some k)=(x,st')∧RdS s st' nx ex:=by
   by_cases h8:k+8≤s.length
   ·refine⟨_,_,_,some (k+8),fun W'=>JD s k W' hs h8,?_,⟨rfl,rfl,h8⟩⟩
    unfold rdF
    simp only[]
    rw[if_pos h8]
   ·have hl:qr s.length k 8=5:=by unfold qr;rw[if_neg (by omega),if_pos (by omega)]
    refine⟨_,_,_,none,fun W'=>aaX s k W' hs (by rw[hl];decide),?_,?_⟩
    ·unfold rdF
     simp only[]
     rw[if_neg h8]
    ·show qr s.length k 8≠0
     rw[hl];decide
  rw[hres]
  have HRD:=hid hrd
  have HF:Hid (RdM ((WD.setCell ⟨g,1,none⟩ (.int .i64 nx)).setCell ⟨g,2,none⟩ (.int .i64 ex)) g s st'∧Kp [g] W ((WD.setCell ⟨g,1,none⟩ (.int .i64 nx)).setCell ⟨g,2,none⟩ (.int .i64 ex))):=hid ⟨⟨nx,ex,ahA hBD,hst⟩,an2 hKD⟩
  have HB1:Hid (Blk (WD.setCell ⟨g,1,none⟩ (.int .i64 nx)) g 154 #[.string (S s),.int .i64 nx,.int .i64 0]):=hid (hBD.set_ 1 _)
  have d0:=hb.drew.cell 0
  have HBD:=hid hBD
  have HWD:=hid hWD
  clear hb hBD hKD hrd hres hst hWD
  go_enter Tryz.func90,Tryz.ntmps90
  go_wp2
  refine zB (fun W'=>W'.cell? ⟨g,0,none⟩=some (.string (S s))) 21 (by kernel_rfl) d0 (fun hHeld=>?_)
  rw[←HWD.out]at hHeld⊢
  clear e2 d0
  have c1:WD.cell? ⟨g,1,none⟩=some (.int .i64 k):=HBD.out.cell 1
  have f1:=HBD.out.frozen 1
  have l1:=HBD.out.lt
  refine eT 0 hHeld ?_;(try simp only[Act.put,sEa,sEb,sEc]);refine eT 1 hHeld ?_;(try simp only[Act.put,sEa,sEb,sEc]);refine eT 2 hHeld ?_;(try simp only[Act.put,sEa,sEb,sEc]);refine eT 3 hHeld ?_;(try simp only[Act.put,sEa,sEb,sEc]);refine eT 4 hHeld ?_;(try simp only[Act.put,sEa,sEb,sEc]);refine eT 5 hHeld ?_;(try simp only[Act.put,sEa,sEb,sEc]);refine eT 6 hHeld ?_;(try simp only[Act.put,sEa,sEb,sEc]);refine eT 7 hHeld ?_;(try simp only[Act.put,sEa,sEb,sEc]);refine eT 8 hHeld ?_;(try simp only[Act.put,sEa,sEb,sEc]);refine eR 9 (fun K hK=>?_);go_simp;refine hK.out _ _ (by exact hHeld) (fun hHeld=>?_);clear hK K;(try simp only[Act.put,sEa,sEb,sEc])
  refine eR 10 (fun K hK=>?_)
  go_simp
  (with_reducible refine(HRD.out _).mono ?_)
  rintro r w2 ⟨rfl,rfl⟩
  refine hK.out _ _ hHeld (fun hHeld=>?_)
  clear hK K
  (try simp only[Act.put,sEa,sEb,sEc])
  refine eT 11 hHeld ?_;(try simp only[Act.put,sEa,sEb,sEc]);refine eT 12 hHeld ?_;(try simp only[Act.put,sEa,sEb,sEc]);refine eT 13 hHeld ?_;(try simp only[Act.put,sEa,sEb,sEc]);refine eT 14 hHeld ?_;(try simp only[Act.put,sEa,sEb,sEc]);refine eT 15 hHeld ?_;(try simp only[Act.put,sEa,sEb,sEc]);refine eT 16 hHeld ?_;(try simp only[Act.put,sEa,sEb,sEc]);refine eT 17 hHeld ?_;(try simp only[Act.put,sEa,sEb,sEc]);refine eR 18 (fun K hK=>?_);go_simp;refine hK.out _ _ (by exact HB1.out.cell 0) (fun hHeld=>?_);clear hK K;(try simp only[Act.put,sEa,sEb,sEc])
  have c2:(WD.setCell ⟨g,1,none⟩ (.int .i64 nx)).cell? ⟨g,2,none⟩=some (.int .i64 0):=HB1.out.cell 2
  have f2:=HB1.out.frozen 2
  have l2:=HB1.out.lt
  refine eT 19 hHeld ?_;(try simp only[Act.put,sEa,sEb,sEc]);refine eT 20 hHeld ?_;(try simp only[Act.put,sEa,sEb,sEc]);refine eL (fun K hK=>?_);go_simp;refine hK.out _ _ ?_;clear hK K;(try simp only[Act.put,sEa,sEb,sEc])
  go_wp2
  go_ret
  exact⟨rfl,HF.out⟩
end
end
end Go.Proofs.YtcdiljebkpikbaaGreat
