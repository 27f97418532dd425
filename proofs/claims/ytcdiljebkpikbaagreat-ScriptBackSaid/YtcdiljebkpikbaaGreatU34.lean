/- Parts of the proof: Sdm Sea Sce Sci. -/
import Derived.Lib.AppendStr
import Derived.Deep.LoopGhost
import Derived.Deep.Cut
import Derived.Deep.CutRange
import Derived.Deep.CutBlock
import Derived.Test.YtcdiljebkpikbaaGreatU31
import Derived.Test.YtcdiljebkpikbaaGreatU32
import Derived.Test.YtcdiljebkpikbaaGreatU33
set_option linter.all false
set_option maxRecDepth 100000
set_option maxHeartbeats 64000000
namespace Go.Proofs.YtcdiljebkpikbaaGreat
section
open Go.RowKit Go.Lib
theorem aVc (l:List Bool) (p:Option Addr) (n c:Nat) (hn:n=l.length) (hl:l.length≤90000) (W:World) (hv:Vw 1 boC W (.slice p n c) l):Calls Tryz.prog 74 #[.slice p n c] W fun e w'=>e= .returned (.string (S (XV l)))∧Below W.heap.size W w':=by
 by_cases h0:l=[]
 ·subst h0
  subst hn
  go_enter Tryz.func74,Tryz.ntmps74
  go_wp2
  go_ret
  exact⟨rfl,Below.refl _ _⟩
 ·obtain⟨gb,off,cc,e1,e2,e3,e4⟩:=hv.ex h0
  injection e1 with e1 e5 e6
  subst e1 e6
  have HC:Hid (∀W',Below W.heap.size W W'→ ∀i x,l[i]? =some x→W'.cell? ⟨gb,off+i,none⟩=some (.bool x)):=hid fun W' hb i x hx=>by
   have:=e4 i x hx 0 (.bool x) rfl
   rw[←this]
   simpa using World.cell?_of_block (hb.block gb e3)
  have HB:Hid (XV l=l.map bcB):=hid (by unfold XV;rw[if_neg h0];rfl)
  have hnz:((n:Int)==0)=false:=by
   rw[beq_eq_false_iff_ne]
   have:=List.length_pos_iff.2 h0
   omega
  have HW:=hid (⟨hn,hl⟩:_∧_)
  have HI0:Hid (W.ownsRow W.heap.size 5 1 (.slice none 0 0) 0 (yv u8C ((l.take 0).map bcB))∧Below W.heap.size W W):=hid ⟨qI _ _ _ _,Below.refl _ _⟩
  clear hv e2 e3 e4 e5 hn h0 hl
  go_enter Tryz.func74,Tryz.ntmps74
  go_wp2
  go_loopg [3,11] n (fun gg s3 s11 wr=> ∃(i:Nat) (q:Option Addr) (k:Nat),i≤n∧n-i≤gg∧s3= .slice q i k∧s11= .int .i64 i∧Hid (wr.ownsRow W.heap.size 5 1 (.slice q i k) i (yv u8C ((l.take i).map bcB))∧Below W.heap.size W wr))
  case atStart=>exact⟨0,none,0,by omega,by omega,rfl,rfl,HI0⟩
  case round=>
   obtain⟨i,q,k,hi,hgg,rfl,rfl,HI⟩:=hrel
   have hiz:(i:Int)≤90001:=by have:=HW.out;omega
   by_cases hj:i<n
   ·have hjz:(i:Int)<(n:Int):=by omega
    obtain⟨x,hx⟩: ∃x,l[i]? =some x:=⟨_,List.getElem?_eq_getElem (by rw[←HW.out.1];exact hj)⟩
    have hc:=HC.out wr HI.out.2 i x hx
    have HT:Hid ((l.take i).map bcB++[bcB x]=(l.take (i+1)).map bcB):=hid (by rw[List.take_add_one,hx];simp)
    have HJ:=hid hj
    clear hx
    obtain⟨y,hy⟩: ∃y,y=bcB x:=⟨_,rfl⟩
    rw[←hy]at HT
    have hyb:(y.toNat:Int)=if x then 121 else 110:=by rw[hy];cases x<;>rfl
    clear hy
    cases x
    all_goals
     simp only[Bool.false_eq_true,if_false,if_true]at hyb
     go_wp2_with (with_reducible refine yd .append rfl ?_)
     with_reducible refine ki ?_
     rw[←hyb]
     refine zO rfl _ _ 73 rfl u8C aMt Tryz.underlying73 rfl (by decide) (by decide) aie aif y HI.out.1 (by have:=HW.out;have:=HJ.out;omega) HI.out.2.size rfl rfl ?_
     intro v3 w3 ho3 hk3 _
     obtain⟨p3,c3,rfl⟩:=zm ho3
     have HF3:Hid (w3.ownsRow W.heap.size 5 1 (.slice p3 (i+1) c3) (i+1) (yv u8C ((l.take (i+1)).map bcB))∧Below W.heap.size W w3):=hid ⟨by rw[←HT.out];exact ho3,HI.out.2.trans (hk3.to_below HI.out.2.size fun x hx=>(HI.out.1.lt x (Option.mem_toList.1 hx)).1)⟩
     clear ho3 hk3 hyb
     go_wp2
     go_roundg (n- (i+1))
     case measure=>have:=HJ.out;omega
     case rel=>exact⟨i+1,p3,c3,by have:=HJ.out;omega,by omega,rfl,by go_num,HF3⟩
   ·have hjz: ¬(i:Int)<(n:Int):=by omega
    obtain⟨ho,hb⟩:=HI.out
    have hin:i=l.length:=by have:=HW.out.1;omega
    have hbl:(XV l).length=i:=by rw[HB.out,List.length_map,hin]
    rw[List.take_of_length_le (by omega),←HB.out,ahP]at ho
    rw[←hbl]at ho
    have hconv:=Xj ho
    rw[hbl]at hconv
    have HBB:=hid hb
    clear ho hb HI hin hbl
    go_wp2
    go_ret
    exact⟨rfl,HBB.out⟩
end
section
open Go.RowKit Go.Lib
def IxE (l:List Bs) (W:World) (e:Ending) (w':World):Prop:= ∃k:Int,e= .returned (.int .i64 k)∧decide (0≤k)=l.any List.isEmpty∧W=w'
theorem ab4 (l:List Bs) (p:Option Addr) (n c:Nat) (hn:n=l.length) (h0:l≠[]) (hl:l.length≤90001) (W:World) (hv:Vw 1 jQ W (.slice p n c) l):Calls Tryz.prog 45 #[.slice p n c,.string (S [])] W (IxE l W):=by
 obtain⟨gb,off,cc,e1,e2,e3,e4⟩:=hv.ex h0
 injection e1 with e1 e5 e6
 subst e1 e6
 have HC:Hid (∀i x,l[i]? =some x→W.cell? ⟨gb,off+i,none⟩=some (.string (S x))):=hid fun i x hx=>by
  have:=e4 i x hx 0 (.string (S x)) rfl
  rw[←this]
  simp
 have HW:=hid (⟨hn,hl⟩:_∧_)
 clear hv e2 e3 e4 e5 hn h0 hl
 go_enter Tryz.func45,Tryz.ntmps45
 go_wp2
 go_loopg [8] n (fun gg s7 wr=> ∃i:Nat,i≤n∧n-i≤gg∧s7= .int .i64 i∧wr=W∧Hid ((l.take i).any List.isEmpty=false))
 case atStart=>exact⟨0,by omega,by omega,rfl,rfl,hid (by simp)⟩
 case round=>
  obtain⟨i,hi,hgg,rfl,rfl,HI⟩:=hrel
  by_cases hj:i<n
  ·have hjz:(i:Int)<(n:Int):=by omega
   have hiz:(i:Int)≤90001:=by have:=HW.out;omega
   obtain⟨x,hx⟩: ∃x,l[i]? =some x:=⟨_,List.getElem?_eq_getElem (by rw[←HW.out.1];exact hj)⟩
   have hc:=HC.out i x hx
   have HX:=hid hx
   have HJ:=hid hj
   clear hx
   cases hxe:x.isEmpty with
   | true=>
    have HE:Hid (l.any List.isEmpty=true):=hid (by
     rw[List.any_eq_true]
     exact⟨x,List.mem_of_getElem? HX.out,hxe⟩)
    go_wp2
    go_ret
    exact⟨i,rfl,by rw[HE.out];simp,rfl⟩
   |false=>
    have HI2:Hid ((l.take (i+1)).any List.isEmpty=false):=hid (by rw[List.take_add_one,HX.out,List.any_append,HI.out];simp[hxe])
    go_wp2
    go_roundg (n- (i+1))
    case measure=>have:=HJ.out;omega
    case rel=>exact⟨i+1,by have:=HJ.out;omega,by omega,by go_num,rfl,HI2⟩
  ·have hjz: ¬(i:Int)<(n:Int):=by omega
   have HE:Hid (l.any List.isEmpty=false):=hid (by have h:=HI.out;rwa[List.take_of_length_le (by rw[←HW.out.1];omega)]at h)
   go_wp2
   go_ret
   exact⟨-1,rfl,by rw[HE.out];simp,rfl⟩
theorem QB (l:List Bs) (p:Option Addr) (n c:Nat) (hn:n=l.length) (h0:l≠[]) (hl:l.length≤90001) (W:World) (hv:Vw 1 jQ W (.slice p n c) l):Calls Tryz.prog 19 #[.slice p n c,.string (S [])] W fun e w'=>e= .returned (.bool (l.any List.isEmpty))∧W=w':=by
 have H:=hid (ab4 l p n c hn h0 hl W hv)
 clear hn h0 hl hv
 go_enter Tryz.func19,Tryz.ntmps19
 go_wp2_with fail
 (with_reducible refine H.out.mono ?_)
 rintro e W2 ⟨k,rfl,hk,rfl⟩
 replace hk:=hid hk
 go_wp2
 go_ret
 exact⟨by rw[←hk.out];rfl,rfl⟩
end
section
open Go.RowKit Go.Lib
theorem aS4 (s:Bs):strCells (S s)=cB s:=by simp[strCells,S,cB]
theorem yo {W:World} {B n k g:Nat} {T U:TypeId} {v:Value} {xs:List Value} {cs:Array Value} (h:W.ownsRow B T k v n xs) (hb:Blk W g U cs) (ht:T≠U):v.ownBlock≠some g:=aBG (u:=v) (m:=0) (ys:=[]) h hb ht
abbrev OB (B:Nat) (w:World) (v:Value) (b:Bs):Prop:=w.ownsRow B 5 1 v b.length (cB b)
structure Ly (B:Nat) (w w':World):Prop where
 b:Below B w w'
 t: ∀g T cs,T≠5→Blk w g T cs→Blk w' g T cs
theorem Ly.refl (B:Nat) (w:World):Ly B w w:=⟨Below.refl _ _,fun _ _ _ _ h=>h⟩
theorem Ly.trans {B:Nat} {w w1 w2:World} (h:Ly B w w1) (k:Ly B w1 w2):Ly B w w2:=⟨h.b.trans k.b,fun g T cs ht hg=>k.t g T cs ht (h.t g T cs ht hg)⟩
theorem Ly.of {B:Nat} {w w1:World} (h:Below w.heap.size w w1) (hB:B≤w.heap.size):Ly B w w1:=⟨h.mono hB,fun g T cs _ hg=>hg.below h hg.lt⟩
theorem Ly.step {B:Nat} {w w1 w2:World} (h:Ly B w w1) (k:Below w1.heap.size w1 w2) (hB:B≤w.heap.size):Ly B w w2:=h.trans (.of k (Nat.le_trans hB h.b.size))
theorem Ly.grown {B n:Nat} {w w1 w2:World} {v:Value} {xs:List Value} (h:Ly B w w1) (ho:w1.ownsRow B 5 1 v n xs) (hg:w1.grownBy w2 v.ownBlock) (hB:B≤w.heap.size):Ly B w w2:=
 ⟨h.b.grown hg (Nat.le_trans hB h.b.size) fun q hq=>(ho.lt q hq).1,fun g T cs ht hT=>(h.t g T cs ht hT).grown hg (Ne.symm (yo ho (h.t g T cs ht hT) (Ne.symm ht)))⟩
def aS6 (B:Nat) (w:World) (b:Bs) (e:Ending) (w':World):Prop:= ∃v',e= .returned v'∧OB B w' v' b∧Ly B w w'
theorem OB.below {B:Nat} {w w':World} {v:Value} {b:Bs} (h:OB B w v b) (hb:Below w.heap.size w w'):OB B w' v b:=xN h fun g hg=>hb.block g (h.lt g hg).2
theorem OB.nil (B:Nat) (w:World):OB B w (.slice none 0 0) []:=⟨rfl,.inl ⟨rfl,rfl⟩⟩
def cZ (l:List Int):Array Value:=(l.map (Value.int .i64)).toArray
theorem aUj {l:List Int} {j:Nat} {z:Int} (h:l[j]? =some z):(l.take (j+1)).flatMap X6=(l.take j).flatMap X6++X6 z:=by rw[List.take_add_one,h];simp
theorem aUD (l:List Int):(l.flatMap X6).length=8*l.length:=by
 induction l with
 |nil=>rfl
 |cons a l ih=>simp[ih];omega
theorem aSQ {B g:Nat} {v:Value} {b:Bs} {l:List Int} {w:World} (hown:OB B w v b) (hB:B≤w.heap.size) (hg:Blk w g 3 (cZ l)) (hl:l.length≤100) (hok: ∀z∈l,okZ z) (hb:b.length≤900000):
  Calls Tryz.prog 62 #[v,.slice (some ⟨g,0,none⟩) l.length l.length] w (aS6 B w (b++l.flatMap X6)):=by
 obtain⟨i0,hi,hz0,hz1,hz2⟩:=info_parts aV0
 obtain⟨n,hn⟩: ∃n,n=l.length:=⟨_,rfl⟩
 rw[←hn]at hl⊢
 obtain⟨p0,c0,rfl⟩:=zm hown
 have HH:=hid (⟨hn,hok,hb⟩:_∧_∧_)
 have HI0:Hid (OB B w (.slice p0 b.length c0) (b++(l.take 0).flatMap X6)∧Blk w g 3 (cZ l)∧Ly B w w):=hid ⟨by simpa using hown,hg,Ly.refl _ _⟩
 have HP:=hid (fun x (h:okZ x) W=>aUZ x W h.1 h.2)
 have hBB:=hB
 clear hown hg hok hb hn
 go_enter Tryz.func62,Tryz.ntmps62
 go_wp2
 go_loopg [0,9] n (fun gg s0 s9 wr=> ∃(j:Nat) (p:Option Addr) (m c:Nat),j≤n∧n-j≤gg∧s0= .slice p m c∧s9= .int .i64 j∧Hid (OB B wr (.slice p m c) (b++(l.take j).flatMap X6)∧Blk wr g 3 (cZ l)∧Ly B w wr))
 case atStart=>exact⟨0,p0,_,c0,by omega,by omega,rfl,rfl,HI0⟩
 case round=>
  obtain⟨j,p,m,c,hj,hgg,rfl,rfl,HI⟩:=hrel
  by_cases hjn:j<n
  ·obtain⟨z,hz⟩: ∃z,l[j]? =some z:=⟨_,List.getElem?_eq_getElem (by rw[←HH.out.1];exact hjn)⟩
   have hji:(j:Int)<(n:Int):=by omega
   have c0:wr.cell? ⟨g,j,none⟩=some (.int .i64 z):=by rw[HI.out.2.1.cell];unfold cZ;rw[List.getElem?_toArray,List.getElem?_map,hz];rfl
   have HZ:=hid hz
   have HJN:=hid hjn
   have HPz:=hid (HP.out z (HH.out.2.1 z (List.mem_of_getElem? hz)))
   clear hz
   go_wp2_with fail
   (with_reducible refine(HPz.out _).mono ?_)
   rintro r w1 ⟨rfl,hb1⟩
   have HO1:Hid (OB B w1 (.slice p m c) (b++(l.take j).flatMap X6)∧Blk w1 g 3 (cZ l)∧Ly B w w1):=hid ⟨HI.out.1.below hb1,HI.out.2.1.below hb1 HI.out.2.1.lt,HI.out.2.2.step hb1 hBB⟩
   clear hb1 c0
   go_wp2_with (with_reducible refine yd .append rfl ?_)
   with_reducible refine ki ?_
   have hll:((l.take j).flatMap X6).length≤800:=by rw[aUD,List.length_take];omega
   refine wpList_append_own_string _ rfl _ _ 73 9 rfl B 5 i0 Tryz.underlying73 Tryz.underlying9 hi hz0 hz1 hz2 _ _ _ rfl HO1.out.1 (S (X6 z)) rfl (by rw[ja,List.length_append,aAY];have:=HH.out.2.2;unfold maxLen;omega) (by rw[ja,List.length_append,aAY];have:=HH.out.2.2;omega) (Nat.le_trans hBB HO1.out.2.2.b.size) ?_
   intro v' w2 hown2 hgr _
   rw[ja,aS4]at hown2
   obtain⟨p2,c2,rfl⟩:=zm hown2
   obtain⟨k2,hk2⟩: ∃k,k=(b++(l.take j).flatMap X6).length+(X6 z).length:=⟨_,rfl⟩
   rw[←hk2]at hown2⊢
   have HF:Hid (OB B w2 (.slice p2 k2 c2) (b++(l.take (j+1)).flatMap X6)∧Blk w2 g 3 (cZ l)∧Ly B w w2):=hid ⟨by
     rw[aUj HZ.out,←List.append_assoc]
     exact aTN hown2 (hk2.trans List.length_append.symm) (aL2 _ _).symm,HO1.out.2.1.grown hgr (Ne.symm (yo HO1.out.1 HO1.out.2.1 (by decide))),HO1.out.2.2.grown HO1.out.1 hgr hBB⟩
   clear hown2 hgr hll hk2
   go_wp2
   go_roundg (n- (j+1))
   case measure=>omega
   case rel=>exact⟨j+1,_,_,_,by have:=HJN.out;omega,by omega,rfl,by go_num,HF⟩
  ·have hje:j=n:=by omega
   have hji: ¬(j:Int)<(n:Int):=by omega
   have HF:Hid (OB B wr (.slice p m c) (b++l.flatMap X6)∧Ly B w wr):=hid (by
    have:=HI.out
    rw[hje,HH.out.1,List.take_length]at this
    exact⟨this.1,this.2.2⟩)
   go_wp2
   go_ret
   exact⟨_,rfl,HF.out.1,HF.out.2⟩
theorem aS1 {B:Nat} {v:Value} {b:Bs} {x:Nat} {w:World} (hown:OB B w v b) (hB:B≤w.heap.size) (hx:x<18446744073709551616) (hb:b.length≤900000):
  Calls Tryz.prog 64 #[v,.float .f64 x] w (aS6 B w (b++agP x)):=by
 obtain⟨i0,hi,hz0,hz1,hz2⟩:=info_parts aV0
 have HO:=hid (⟨hown,hB,hb⟩:_∧_∧_)
 have HP:=hid (fun W=>aU0 x W hx)
 clear hown hB hx hb
 go_enter Tryz.func64,Tryz.ntmps64
 go_wp2_with fail
 (with_reducible refine(HP.out _).mono ?_)
 rintro r w1 ⟨rfl,hb1⟩
 have HB1:=hid hb1
 clear hb1
 go_wp2_with (with_reducible refine yd .append rfl ?_)
 with_reducible refine ki ?_
 refine wpList_append_own_string _ rfl _ _ 73 9 rfl B 5 i0 Tryz.underlying73 Tryz.underlying9 hi hz0 hz1 hz2 _ _ _ rfl (HO.out.1.below HB1.out) (S (be 8 x)) rfl (by rw[ja,aL0];have:=HO.out.2.2;unfold maxLen;omega) (by rw[ja,aL0];have:=HO.out.2.2;omega) (Nat.le_trans HO.out.2.1 HB1.out.size) ?_
 intro v' w2 hown2 hgr _
 rw[ja,aS4]at hown2
 have HF:Hid (OB B w2 v' (b++agP x)∧Ly B w w2):=hid ⟨aTN hown2 List.length_append.symm (aL2 _ _).symm,(Ly.of HB1.out HO.out.2.1).grown (HO.out.1.below HB1.out) hgr HO.out.2.1⟩
 clear hown2 hgr
 go_wp2
 go_ret
 exact⟨_,rfl,HF.out.1,HF.out.2⟩
structure LaD {α:Type} (w0:World) (df:Nat) (caps:Array Value) (val:α→Value) (bs:α→Bs) (l:List α):Prop where
 en: ∀vs W,Sem.run Tryz.prog (callFunc df vs) W= .ok (.enter df vs) W
 go: ∀x∈l,∀(W:World) (v:Value) (b:Bs),OB w0.heap.size W v b→Below w0.heap.size w0 W→b.length+(bs x).length≤900000→Calls Tryz.prog df (#[v,val x]++caps) W (aS6 w0.heap.size W (b++bs x))
theorem aSO {α:Type} {f:α→Bs} {l:List α} {j:Nat} {z:α} (h:l[j]? =some z):(l.take (j+1)).flatMap f=(l.take j).flatMap f++f z:=by rw[List.take_add_one,h];simp
theorem aS0 {α:Type} (f:α→Bs) {l:List α} {j:Nat} {z:α} (h:l[j]? =some z):((l.take j).flatMap f).length+(f z).length≤(l.flatMap f).length:=by
 have e:l.flatMap f=(l.take (j+1)).flatMap f++(l.drop (j+1)).flatMap f:=by rw[←List.flatMap_append,List.take_append_drop]
 rw[e,aSO h,List.length_append,List.length_append]
 omega
end
section
open Go.RowKit Go.Lib
def RdS (s:Bs) (st:Option Nat) (a e:Int):Prop:=match st with
 |some k=>a=k∧e=0∧k≤s.length
 |none=>e≠0
def RdM (W:World) (g:Nat) (s:Bs) (st:Option Nat):Prop:= ∃a e:Int,Blk W g 154 #[.string (S s),.int .i64 a,.int .i64 e]∧RdS s st a e
section
variable {W W':World} {g:Nat} {s:Bs} {st:Option Nat}
theorem RdM.kp {O:List Nat} (h:RdM W g s st) (hk:Kp O W W') (hg:g∉O):RdM W' g s st:=by
 obtain⟨a,e,h1,h2⟩:=h
 exact⟨a,e,h1.kp hk hg,h2⟩
theorem RdM.below (h:RdM W g s st) (hb:Below W.heap.size W W'):RdM W' g s st:=by
 obtain⟨a,e,h1,h2⟩:=h
 exact⟨a,e,h1.below hb h1.lt,h2⟩
theorem RdM.lt (h:RdM W g s st):g<W.heap.size:=by
 obtain⟨a,e,h1,_⟩:=h
 exact h1.lt
theorem ahA {g:Nat} {T:TypeId} {a b c u v:Value} (h:Blk W g T #[a,b,c]):Blk ((W.setCell ⟨g,1,none⟩ u).setCell ⟨g,2,none⟩ v) g T #[a,u,v]:=(h.set_ 1 u).set_ 2 v
theorem an2 {g:Nat} {w:World} {u v:Value} (h:Kp [g] w W):Kp [g] w ((W.setCell ⟨g,1,none⟩ u).setCell ⟨g,2,none⟩ v):=(h.setCell (.inl (by simp)) _).setCell (.inl (by simp)) _
theorem zH (h:RdM W g s st) (hs:s.length≤1000000):
  Calls Tryz.prog 89 #[.pointer (some ⟨g,0,none⟩)] W fun r w'=>r= .returned (.int .i64 (rdI s st).1)∧RdM w' g s (rdI s st).2∧Kp [g] W w':=by
 obtain⟨a,e,hb,hr⟩:=h
 have e2:W.cell? ⟨g,2,none⟩=some (.int .i64 e):=hb.cell 2
 cases st with
 |none=>
  have hne:(e==0)=false:=by simpa[RdS]using hr
  have HF:Hid (RdM W g s none):=hid ⟨a,e,hb,hr⟩
  have HV:Hid ((rdI s none)=(0,none)):=hid rfl
  rw[HV.out]
  clear hb hr
  go_enter Tryz.func89,Tryz.ntmps89
  go_wp2
  go_ret
  exact⟨rfl,HF.out,Kp.refl _ _⟩
 | some k=>
  obtain⟨rfl,rfl,hk⟩:a=k∧e=0∧k≤s.length:=hr
  obtain⟨WD,hWD⟩: ∃WD,WD=W.drew:=⟨_,rfl⟩
  have hBD:Blk WD g 154 #[.string (S s),.int .i64 k,.int .i64 0]:=by rw[hWD];exact hb.drew
  have hKD:Kp [g] W WD:=by rw[hWD];exact(Kp.refl _ _).drew
  obtain⟨x,nx,ex,st',hrd,hres,hst⟩: ∃(x nx ex:Int) (st':Option Nat),(∀W',Calls Tryz.prog 136 #[.string (S s),.int .i64 k] W' fun e w'=>e= .returned (.tuple #[.int .i64 x,.int .i64 nx,.int .i64 ex])∧W'=w')∧rdI s (some k)=(x,st')∧RdS s st' nx ex:=by
   by_cases h8:k+8≤s.length
   ·refine⟨_,_,_,some (k+8),fun W'=>ahI s k W' hs h8,?_,⟨rfl,rfl,h8⟩⟩
    unfold rdI aNq
    simp only[]
    rw[if_pos h8]
   ·have hl:qr s.length k 8=5:=by unfold qr;rw[if_neg (by omega),if_pos (by omega)]
    refine⟨_,_,_,none,fun W'=>ajo s k W' hs (by rw[hl];decide),?_,?_⟩
    ·unfold rdI
     simp only[]
     rw[if_neg h8]
    ·show qr s.length k 8≠0
     rw[hl];decide
  rw[hres]
  have HRD:=hid hrd
  have HF:Hid (RdM ((WD.setCell ⟨g,1,none⟩ (.int .i64 nx)).setCell ⟨g,2,none⟩ (.int .i64 ex)) g s st'∧Kp [g] W ((WD.setCell ⟨g,1,none⟩ (.int .i64 nx)).setCell ⟨g,2,none⟩ (.int .i64 ex))):=hid ⟨⟨nx,ex,ahA hBD,hst⟩,an2 hKD⟩
  have HB1:Hid (Blk (WD.setCell ⟨g,1,none⟩ (.int .i64 nx)) g 154 #[.string (S s),.int .i64 nx,.int .i64 0]):=hid (hBD.set_ 1 _)
  have d0:=hb.drew.cell 0
  have HBD:=hid hBD
  have HWD:=hid hWD
  clear hb hBD hKD hrd hres hst hWD
  go_enter Tryz.func89,Tryz.ntmps89
  go_wp2
  refine zB (fun W'=>W'.cell? ⟨g,0,none⟩=some (.string (S s))) 21 (by kernel_rfl) d0 (fun hHeld=>?_)
  rw[←HWD.out]at hHeld⊢
  clear e2 d0
  have c1:WD.cell? ⟨g,1,none⟩=some (.int .i64 k):=HBD.out.cell 1
  have f1:=HBD.out.frozen 1
  have l1:=HBD.out.lt
  refine eT 0 hHeld ?_;(try simp only[Act.put,sEa,sEb,sEc]);refine eT 1 hHeld ?_;(try simp only[Act.put,sEa,sEb,sEc]);refine eT 2 hHeld ?_;(try simp only[Act.put,sEa,sEb,sEc]);refine eT 3 hHeld ?_;(try simp only[Act.put,sEa,sEb,sEc]);refine eT 4 hHeld ?_;(try simp only[Act.put,sEa,sEb,sEc]);refine eT 5 hHeld ?_;(try simp only[Act.put,sEa,sEb,sEc]);refine eT 6 hHeld ?_;(try simp only[Act.put,sEa,sEb,sEc]);refine eT 7 hHeld ?_;(try simp only[Act.put,sEa,sEb,sEc]);refine eT 8 hHeld ?_;(try simp only[Act.put,sEa,sEb,sEc]);refine eR 9 (fun K hK=>?_);go_simp;refine hK.out _ _ (by exact hHeld) (fun hHeld=>?_);clear hK K;(try simp only[Act.put,sEa,sEb,sEc])
  refine eR 10 (fun K hK=>?_)
  go_simp
  (with_reducible refine(HRD.out _).mono ?_)
  rintro r w2 ⟨rfl,rfl⟩
  refine hK.out _ _ hHeld (fun hHeld=>?_)
  clear hK K
  (try simp only[Act.put,sEa,sEb,sEc])
  refine eT 11 hHeld ?_;(try simp only[Act.put,sEa,sEb,sEc]);refine eT 12 hHeld ?_;(try simp only[Act.put,sEa,sEb,sEc]);refine eT 13 hHeld ?_;(try simp only[Act.put,sEa,sEb,sEc]);refine eT 14 hHeld ?_;(try simp only[Act.put,sEa,sEb,sEc]);refine eT 15 hHeld ?_;(try simp only[Act.put,sEa,sEb,sEc]);refine eT 16 hHeld ?_;(try simp only[Act.put,sEa,sEb,sEc]);refine eT 17 hHeld ?_;(try simp only[Act.put,sEa,sEb,sEc]);refine eR 18 (fun K hK=>?_);go_simp;refine hK.out _ _ (by exact HB1.out.cell 0) (fun hHeld=>?_);clear hK K;(try simp only[Act.put,sEa,sEb,sEc])
  have c2:(WD.setCell ⟨g,1,none⟩ (.int .i64 nx)).cell? ⟨g,2,none⟩=some (.int .i64 0):=HB1.out.cell 2
  have f2:=HB1.out.frozen 2
  have l2:=HB1.out.lt
  refine eT 19 hHeld ?_;(try simp only[Act.put,sEa,sEb,sEc]);refine eT 20 hHeld ?_;(try simp only[Act.put,sEa,sEb,sEc]);refine eL (fun K hK=>?_);go_simp;refine hK.out _ _ ?_;clear hK K;(try simp only[Act.put,sEa,sEb,sEc])
  go_wp2
  go_ret
  exact⟨rfl,HF.out⟩
theorem xJ (h:RdM W g s st) (hs:s.length≤1000000):
  Calls Tryz.prog 90 #[.pointer (some ⟨g,0,none⟩)] W fun r w'=>r= .returned (.float .f64 (rdF s st).1)∧RdM w' g s (rdF s st).2∧Kp [g] W w':=by
 obtain⟨a,e,hb,hr⟩:=h
 have e2:W.cell? ⟨g,2,none⟩=some (.int .i64 e):=hb.cell 2
 cases st with
 |none=>
  have hne:(e==0)=false:=by simpa[RdS]using hr
  have HF:Hid (RdM W g s none):=hid ⟨a,e,hb,hr⟩
  have HV:Hid ((rdF s none)=(0,none)):=hid rfl
  rw[HV.out]
  clear hb hr
  go_enter Tryz.func90,Tryz.ntmps90
  go_wp2
  go_ret
  exact⟨rfl,HF.out,Kp.refl _ _⟩
 | some k=>
  obtain⟨rfl,rfl,hk⟩:a=k∧e=0∧k≤s.length:=hr
  obtain⟨WD,hWD⟩: ∃WD,WD=W.drew:=⟨_,rfl⟩
  have hBD:Blk WD g 154 #[.string (S s),.int .i64 k,.int .i64 0]:=by rw[hWD];exact hb.drew
  have hKD:Kp [g] W WD:=by rw[hWD];exact(Kp.refl _ _).drew
  obtain⟨x,nx,ex,st',hrd,hres,hst⟩: ∃(x:Nat) (nx ex:Int) (st':Option Nat),(∀W',Calls Tryz.prog 137 #[.string (S s),.int .i64 k] W' fun e w'=>e= .returned (.tuple #[.int .u64 x,.int .i64 nx,.int .i64 ex])∧W'=w')∧rdF s (some k)=(x,st')∧RdS s st' nx ex:=by
   by_cases h8:k+8≤s.length
   ·refine⟨_,_,_,some (k+8),fun W'=>JD s k W' hs h8,?_,⟨rfl,rfl,h8⟩⟩
    unfold rdF
    simp only[]
    rw[if_pos h8]
   ·have hl:qr s.length k 8=5:=by unfold qr;rw[if_neg (by omega),if_pos (by omega)]
    refine⟨_,_,_,none,fun W'=>aaX s k W' hs (by rw[hl];decide),?_,?_⟩
    ·unfold rdF
     simp only[]
     rw[if_neg h8]
    ·show qr s.length k 8≠0
     rw[hl];decide
  rw[hres]
  have HRD:=hid hrd
  have HF:Hid (RdM ((WD.setCell ⟨g,1,none⟩ (.int .i64 nx)).setCell ⟨g,2,none⟩ (.int .i64 ex)) g s st'∧Kp [g] W ((WD.setCell ⟨g,1,none⟩ (.int .i64 nx)).setCell ⟨g,2,none⟩ (.int .i64 ex))):=hid ⟨⟨nx,ex,ahA hBD,hst⟩,an2 hKD⟩
  have HB1:Hid (Blk (WD.setCell ⟨g,1,none⟩ (.int .i64 nx)) g 154 #[.string (S s),.int .i64 nx,.int .i64 0]):=hid (hBD.set_ 1 _)
  have d0:=hb.drew.cell 0
  have HBD:=hid hBD
  have HWD:=hid hWD
  clear hb hBD hKD hrd hres hst hWD
  go_enter Tryz.func90,Tryz.ntmps90
  go_wp2
  refine zB (fun W'=>W'.cell? ⟨g,0,none⟩=some (.string (S s))) 21 (by kernel_rfl) d0 (fun hHeld=>?_)
  rw[←HWD.out]at hHeld⊢
  clear e2 d0
  have c1:WD.cell? ⟨g,1,none⟩=some (.int .i64 k):=HBD.out.cell 1
  have f1:=HBD.out.frozen 1
  have l1:=HBD.out.lt
  refine eT 0 hHeld ?_;(try simp only[Act.put,sEa,sEb,sEc]);refine eT 1 hHeld ?_;(try simp only[Act.put,sEa,sEb,sEc]);refine eT 2 hHeld ?_;(try simp only[Act.put,sEa,sEb,sEc]);refine eT 3 hHeld ?_;(try simp only[Act.put,sEa,sEb,sEc]);refine eT 4 hHeld ?_;(try simp only[Act.put,sEa,sEb,sEc]);refine eT 5 hHeld ?_;(try simp only[Act.put,sEa,sEb,sEc]);refine eT 6 hHeld ?_;(try simp only[Act.put,sEa,sEb,sEc]);refine eT 7 hHeld ?_;(try simp only[Act.put,sEa,sEb,sEc]);refine eT 8 hHeld ?_;(try simp only[Act.put,sEa,sEb,sEc]);refine eR 9 (fun K hK=>?_);go_simp;refine hK.out _ _ (by exact hHeld) (fun hHeld=>?_);clear hK K;(try simp only[Act.put,sEa,sEb,sEc])
  refine eR 10 (fun K hK=>?_)
  go_simp
  (with_reducible refine(HRD.out _).mono ?_)
  rintro r w2 ⟨rfl,rfl⟩
  refine hK.out _ _ hHeld (fun hHeld=>?_)
  clear hK K
  (try simp only[Act.put,sEa,sEb,sEc])
  refine eT 11 hHeld ?_;(try simp only[Act.put,sEa,sEb,sEc]);refine eT 12 hHeld ?_;(try simp only[Act.put,sEa,sEb,sEc]);refine eT 13 hHeld ?_;(try simp only[Act.put,sEa,sEb,sEc]);refine eT 14 hHeld ?_;(try simp only[Act.put,sEa,sEb,sEc]);refine eT 15 hHeld ?_;(try simp only[Act.put,sEa,sEb,sEc]);refine eT 16 hHeld ?_;(try simp only[Act.put,sEa,sEb,sEc]);refine eT 17 hHeld ?_;(try simp only[Act.put,sEa,sEb,sEc]);refine eR 18 (fun K hK=>?_);go_simp;refine hK.out _ _ (by exact HB1.out.cell 0) (fun hHeld=>?_);clear hK K;(try simp only[Act.put,sEa,sEb,sEc])
  have c2:(WD.setCell ⟨g,1,none⟩ (.int .i64 nx)).cell? ⟨g,2,none⟩=some (.int .i64 0):=HB1.out.cell 2
  have f2:=HB1.out.frozen 2
  have l2:=HB1.out.lt
  refine eT 19 hHeld ?_;(try simp only[Act.put,sEa,sEb,sEc]);refine eT 20 hHeld ?_;(try simp only[Act.put,sEa,sEb,sEc]);refine eL (fun K hK=>?_);go_simp;refine hK.out _ _ ?_;clear hK K;(try simp only[Act.put,sEa,sEb,sEc])
  go_wp2
  go_ret
  exact⟨rfl,HF.out⟩
end
end
end Go.Proofs.YtcdiljebkpikbaaGreat
