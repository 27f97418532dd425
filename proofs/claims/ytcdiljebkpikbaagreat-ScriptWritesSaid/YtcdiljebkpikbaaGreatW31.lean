/- Parts of the proof: Bb+ Bd+ Pa+ Pb+ Rw+ Lw+ Vwa+ Ea Sca Scb Gt Gu Eb Gs Ee Ef Eq Ev Sen Scd Sda. -/
import Derived.WalkKit
import Derived.Deep.Draws
import Derived.Test.YtcdiljebkpikbaaGreatProg
import Derived.WalkSpells
import Derived.WalkLawsBesides
import Derived.Maps.AppendAt
import Derived.Laws.BytesArg
import Derived.Laws.Cells
import Derived.Lib.SliceRun
import Derived.Deep.MidRow
import Derived.Deep.OwnRows
import Derived.Laws.CopyOwn
import Derived.Laws.Append
import Derived.Deep.AppendSrc
import Derived.Deep.RegionHeld
import Derived.StillTail
import Derived.Deep.Cut
import Derived.Deep.CutRange
import Derived.Deep.CutBlock
import Derived.Laws.RangeString
import Derived.LoopTactic
import Derived.Deep.LoopGhost
import Derived.Test.YtcdiljebkpikbaaGreatS10
import Derived.Test.YtcdiljebkpikbaaGreatS11
set_option linter.all false
set_option maxRecDepth 100000
set_option maxHeartbeats 64000000
namespace Go.Proofs.YtcdiljebkpikbaaGreat
section
theorem aTh (k n j:Nat) (h:j<k):(be k n).take (j+1)=(be k n).take j++[UInt8.ofNat (n / 256^(k-1-j))]:=by
 induction k generalizing j with
 |zero=>omega
 | succ k ih=>
  cases j with
  |zero=>simp[be]
  |succ j=>
   simp only[be,List.take_succ_cons,List.cons_append]
   rw[ih j (by omega)]
   have:k+1-1- (j+1)=k-1-j:=by omega
   rw[this]
end
section
open Go.RowKit
namespace Kp
variable {O O':List Nat} {w w' w'' a:World}
theorem nil_below (h:Kp [] w w'):Below w.heap.size w w':=h.to_below (Nat.le_refl _) (by simp)
end Kp
end
section
open Go.RowKit
theorem aVa:(Tryz.prog.info? 5).map (fun i=>(i.zero,i.size,i.bytes))=some (some (.int .u8 0),1,1):=by kernel_rfl
theorem aVs (w:World) (v:Value) (t:TypeId) {g:Nat} (hg:g=w.heap.size): ∀j u,[v][j]? =some u→(w.alloc (.cells #[v] t)).cell? ((⟨g,0,none⟩:Addr).add j)=some u:=by
 subst hg;exact cell_one_new w v t
theorem one1 {v:Value} (h:v.oneCell'=true): ∀u∈[v],u.oneCell'=true:=by
 intro u hu
 simp at hu
 rw[hu];exact h
theorem aS9 {w:World} {B:Nat} {T:TypeId} {s n n':Nat} {v:Value} {xs xs':List Value} (h:w.ownsRow B T s v n xs) (hn:n=n') (hx:xs=xs'):w.ownsRow B T s v n' xs':=by rw[←hn,←hx];exact h
theorem aUS (n i:Nat):Value.int .u8 ((n:Int) / 2^(8*i)%256)= .int .u8 ((UInt8.ofNat (n / 256^i)).toNat:Int):=by
 have e:(256:Nat)^i=2^(8*i):=by rw[Nat.pow_mul]
 rw[e]
 simp
theorem aU6 (B:Nat) (v:Value) (b:Bs) (n k:Nat) (w:World) (hn:n<18446744073709551616) (hk:k≤8) (hb:b.length≤1000000) (hB:B≤w.heap.size)
  (hown:w.ownsRow B 5 1 v b.length (cB b)):
  Calls Tryz.prog 143 #[v,.int .u64 n,.int .i64 k] w fun e w'=> ∃v',e= .returned v'∧w'.ownsRow B 5 1 v' (b++be k n).length (cB (b++be k n))∧Kp (v.ownBlock.toList) w w'∧ ∀g,v'.ownBlock=some g→v.ownBlock=some g∨w.heap.size≤g:=by
 obtain⟨i0,hi,hz0,hz1,hz2⟩:=info_parts aVa
 have HN:=hid hn
 clear hn
 go_enter Tryz.func143,Tryz.ntmps143
 go_wp2
 go_loopw [0,7] (fun u i wr=> ∃j:Nat,j≤k∧i= .int .i64 ((k:Int) -1-j)∧wr.ownsRow B 5 1 u (b++(be k n).take j).length (cB (b++(be k n).take j))∧Kp (v.ownBlock.toList) w wr∧ ∀g,u.ownBlock=some g→v.ownBlock=some g∨w.heap.size≤g) (fun _ i _=>(intOf i+1).toNat)
 case atStart=>exact⟨0,Nat.zero_le _,by simp,by simpa using hown,Kp.refl _ _,fun g hg=> .inl hg⟩
 case round=>
  obtain⟨j,hj,rfl,hown1,hb1,hg1⟩:=hrel
  have HG:=hid hg1
  clear hg1
  have hs:=hb1.size
  have hl:((be k n).take j).length=j:=by simp;omega
  by_cases hlt:j<k
  ·have hbyte:=hid (aUS n (k-1-j))
   go_wp2_with (at_builtin;refine wpList_append_own_at _ rfl _ _ 73 rfl B 5 i0 (.int .u8 0) 1 1 Tryz.underlying73 hi hz0 hz1 hz2 rfl (by decide) _ _ _ rfl (hown1.alloc _) ⟨wr.heap.size,0,none⟩ 1 1 [.int .u8 ((n:Int) / 2^(8*(k-1-j))%256)] rfl rfl ?c1 ?c2 ?c3 ?c4 ?c5 ?_)
   case c1=>exact aVs _ _ _ rfl
   case c2=>exact one1 rfl
   case c3=>simp[hl];unfold maxLen;omega
   case c4=>simp[hl];omega
   case c5=>simp;omega
   intro v' w1 hown' hgr _ hat
   go_wp2
   go_roundw
   case rel=>
    refine⟨j+1,by omega,by go_num,?_,?_,?_⟩
    ·rw[hbyte.out]at hown'
     rw[aTh k n j hlt,←List.append_assoc]
     exact aS9 hown' (by simp;omega) (by simp[cB])
    ·exact(hb1.alloc _).grown hgr (fun g hg=>by simpa using HG.out g hg)
    ·intro g hg
     rcases hat with h|h
     ·exact HG.out g (h▸hg)
     ·rw[h]at hg;simp at hg;right;omega
   case measure=>simp[intOf];omega
  ·have hke:j=k:=by omega
   subst hke
   have ht:(be j n).take j=be j n:=List.take_of_length_le (by simp)
   rw[ht]at hown1
   go_wp2
   go_ret
   exact⟨_,rfl,hown1,hb1,HG.out⟩
end
section
open Go.RowKit
theorem aUi (n k:Nat) (w:World) (hn:n<18446744073709551616) (hk:k≤8):
  Calls Tryz.prog 143 #[.slice none 0 0,.int .u64 n,.int .i64 k] w fun e w'=> ∃v',e= .returned v'∧(convert 73 9 v').run Tryz.prog w'= .ok (.string (S (be k n))) w'∧Below w.heap.size w w':=
 (aU6 w.heap.size (.slice none 0 0) [] n k w hn hk (by simp) (Nat.le_refl _) (World.ownsRow_nil _ _ _ _)).mono fun e w' ⟨v',h1,h2,h3,_⟩=>
  ⟨v',h1,by have:=Xj h2;simpa using this,h3.nil_below⟩
theorem aTa (x:Int):IntKind.u64.wrap (IntKind.u64.wrap x+9223372036854775808)=(((x+9223372036854775808)%18446744073709551616).toNat:Int):=by
 rw[IntKind.wrap_u64,IntKind.wrap_u64];omega
theorem aUg (n:Nat) (w:World) (hn:n<18446744073709551616):
  Calls Tryz.prog 111 #[.int .u64 n] w fun e w'=>e= .returned (.string (S (be 8 n)))∧Below w.heap.size w w':=by
 have HN:=hid hn
 clear hn
 go_enter Tryz.func111,Tryz.ntmps111
 go_wp2_with (go_at_call 143;refine(aUi n 8 _ HN.out (by omega)).mono ?_;rintro e w1 ⟨v',rfl,hv,hb⟩)
 go_ret
 exact⟨rfl,by assumption⟩
theorem aUf (x:Int) (w:World) (h0: -9223372036854775808≤x) (h1:x<9223372036854775808):
  Calls Tryz.prog 110 #[.int .i64 x] w fun e w'=>e= .returned (.string (S (X6 x)))∧Below w.heap.size w w':=by
 obtain⟨n,hn⟩: ∃n:Nat,n=(x+9223372036854775808).toNat:=⟨_,rfl⟩
 have hx:IntKind.u64.wrap (IntKind.u64.wrap x+9223372036854775808)=(n:Int):=by rw[aTa];omega
 have HN:Hid (n<18446744073709551616):=hid (by omega)
 have HE:Hid (X6 x=be 8 n):=hid (by rw[hn];rfl)
 clear hn h0 h1
 go_enter Tryz.func110,Tryz.ntmps110
 go_wp2_with (go_at_call 143;refine(aUi n 8 _ HN.out (by omega)).mono ?_;rintro e w1 ⟨v',rfl,hv,hb⟩)
 go_ret
 exact⟨by rw[HE.out];rfl,by assumption⟩
end
section
open Go.RowKit Go.Lib
section
variable {α:Type} {enc:α→List Value} {k:Nat}
theorem aUG (h1: ∀x,∀u∈enc x,u.oneCell'=true) (l:List α): ∀u∈yv enc l,u.oneCell'=true:=by
 intro u hu
 obtain⟨x,_,hx⟩:=List.mem_flatMap.1 hu
 exact h1 x u hx
end
end
section
open Go.RowKit
theorem aTj {W:World} {ad:Addr} {n c:Nat} (b:Bs) (h: ∀j v,(cB b)[j]? =some v→W.cell? (ad.add j)=some v) (hn:b.length=n):
  (convert 73 9 (.slice (some ad) n c)).run Tryz.prog W= .ok (.string (S b)) W:=by
 subst hn
 exact run_convert_bytes_back (P:=Tryz.prog) W 73 9 5 ad c b Tryz.underlying73 Tryz.underlying5 Tryz.underlying9 (fun j hj=>h j _ (by simp[cB,hj]))
end
section
open Go.RowKit Go.Lib
theorem aS3 (t ty:TypeId) {α:Type} (enc:α→List Value) {e:TypeId} {z:Value} {size bytes:Nat} (hi:Inf e z size bytes) (ht:Tryz.prog.underlying t=some (.slice e))
  (hzs:z.cells.size=size) (hsz:0<size) (hby:bytes≤1000) (hk: ∀x,(enc x).length=size) (hone: ∀x,∀u∈enc x,u.oneCell'=true) {B:Nat} {W:World} {v xv:Value} {l l2:List α} {n:Nat} (hown:W.ownsRow B e size v n (yv enc l)) (hv2:Vw size enc W xv l2) (hn:n+l2.length≤100000) (hB:B≤W.heap.size):
  ∃v' w',(Builtin.append_ #[t,t] ty #[v,xv]).run Tryz.prog W= .ok v' w'∧w'.ownsRow B e size v' (n+l2.length) (yv enc (l++l2))∧Kp v.ownBlock.toList W w':=by
 obtain⟨i0,hi0,hz0,hz1,hz2⟩:=info_parts hi
 by_cases h0:l2=[]
 ·subst h0
  obtain⟨p,c,rfl,hc⟩:=hv2.slice
  have hsrc:Src Tryz.prog i0.size t (.slice p 0 c) 0 [] W:=by
   cases p with
   |none=>exact Src.ofNil W ht c
   |some ad=>exact Src.ofSlice W ht ad 0 c [] (by simp) (by simp) (by simp)
  have hvf: ∃base sLen sCap,v= .slice base sLen sCap∧sLen≤sCap:=by
   rcases hown.2 with⟨rfl,_⟩ | ⟨g,cap,cur,rfl,_,_,hnc,_⟩
   ·exact⟨_,_,_,rfl,Nat.le_refl _⟩
   ·exact⟨_,_,_,rfl,hnc⟩
  obtain⟨base,sLen,sCap,rfl,hle⟩:=hvf
  refine⟨_,W,?_,by simpa using hown,Kp.refl _ _⟩
  have hlen:=hsrc.len
  have hcells:=hsrc.cells
  rw[show([]:List α).length=0 from rfl]
  cases base<;>simp[Builtin.append_,run_underlying ht,sizeOf,typeInfo,hi0,hlen,hle,hcells,storeCells]
 ·obtain⟨b,off,c,rfl,hc,hb,hxx⟩:=hv2.ex h0
  obtain⟨v',w',hr,h2,h3,_⟩:=run_append_own (P:=Tryz.prog) W B t ty e i0 z size bytes ht hi0 hz0 hz1 hz2 hzs hsz v n _ hown ⟨b,off,none⟩ l2.length c (yv enc l2) (Kz hk l2) (fun j u hj=>by rw[Addr.add_lit];exact hv2.cells hk j u hj) (aUG hone l2) (by unfold maxLen;omega)
   (by
    have:(n+l2.length)*bytes≤100000*1000:=Nat.mul_le_mul (by omega) hby
    omega) hB
  exact⟨v',w',hr,by rw[Ky];exact h2,(Kp.refl _ W).grown h3 (fun g hg=> .inl (Option.mem_toList.2 hg))⟩
section
variable {ops:Array Oper} {o:Oper} {a:Act} {Q:Exit→Act→World→Prop} {α:Type} {e:TypeId} {z:Value} {size bytes:Nat} {B:Nat} {W:World} {v xv:Value} {l l2:List α} {n:Nat}
theorem aUQ {rest:List Oper} (hgd:o.guard=none) (s x:Operand) (t:TypeId)
  (ho:o.op= .call { callee:= .builtin .append,args:= #[s,x],argTypes:= #[t,t] }) (enc:α→List Value) (hi:Inf e z size bytes) (ht:Tryz.prog.underlying t=some (.slice e))
  (hzs:z.cells.size=size) (hsz:0<size) (hby:bytes≤1000) (hk: ∀x,(enc x).length=size) (hone: ∀x,∀u∈enc x,u.oneCell'=true) (hown:W.ownsRow B e size v n (yv enc l)) (hv2:Vw size enc W xv l2) (hn:n+l2.length≤100000) (hB:B≤W.heap.size)
  (hs:a.eval s=v) (hx:a.eval x=xv)
  (h: ∀v' w',w'.ownsRow B e size v' (n+l2.length) (yv enc (l++l2))→Kp v.ownBlock.toList W w'→wpList Tryz.prog ops Q rest (a.put o.dst v') w'):wpList Tryz.prog ops Q (o::rest) a W:=by
 refine wpList_plain hgd fun K hK=>?_
 obtain⟨v',w',hr,h2,h3⟩:=aS3 t o.type enc hi ht hzs hsz hby hk hone hown hv2 hn hB
 unfold Oper.wp execOp
 simp only[ho,resolve,invoke,builtin,Sem.run_bind,Sem.run_pure,Result.andThen_ok,List.map_toArray,List.map_cons,List.map_nil,hs,hx,hr]
 exact hK _ _ (h v' w' h2 h3)
theorem aSX {K:Act→World→Prop} {E:Prop} (hgd:o.guard=none) (s x:Operand) (t:TypeId)
  (ho:o.op= .call { callee:= .builtin .append,args:= #[s,x],argTypes:= #[t,t] }) (enc:α→List Value) (hi:Inf e z size bytes) (ht:Tryz.prog.underlying t=some (.slice e))
  (hzs:z.cells.size=size) (hsz:0<size) (hby:bytes≤1000) (hk: ∀x,(enc x).length=size) (hone: ∀x,∀u∈enc x,u.oneCell'=true) (hown:W.ownsRow B e size v n (yv enc l)) (hv2:Vw size enc W xv l2) (hn:n+l2.length≤100000) (hB:B≤W.heap.size)
  (hs:a.eval s=v) (hx:a.eval x=xv)
  (h: ∀v' w',w'.ownsRow B e size v' (n+l2.length) (yv enc (l++l2))→Kp v.ownBlock.toList W w'→K (a.put o.dst v') w'):
  if Region.wanted o (yielded ops a.tmps)=true then Oper.wp Tryz.prog o a W K Q else E:=by
 rw[if_pos (by unfold Region.wanted;rw[hgd])]
 obtain⟨v',w',hr,h2,h3⟩:=aS3 t o.type enc hi ht hzs hsz hby hk hone hown hv2 hn hB
 unfold Oper.wp execOp
 simp only[ho,resolve,invoke,builtin,Sem.run_bind,Sem.run_pure,Result.andThen_ok,List.map_toArray,List.map_cons,List.map_nil,hs,hx,hr]
 exact h v' w' h2 h3
end
end
section
structure In where
 op:Int
 a:Int
 b:Int
 c:Int
def inC (x:In):List Value:=[.int .i64 x.op,.int .i64 x.a,.int .i64 x.b,.int .i64 x.c]
def rgB (n:Int):Bool:=decide (0≤n)&&decide (n≤7)
def plB (n len:Int):Bool:=decide (0≤n)&&decide (n≤len)
def vM (x:In) (len:Int):Bool:=
 if x.op=0 then true
 else if x.op=1 then rgB x.a
 else if x.op=2∨x.op=11∨x.op=13∨x.op=14 then rgB x.a&&rgB x.b
 else if(3≤x.op∧x.op≤8)∨x.op=12 then rgB x.a&&(rgB x.b&&rgB x.c)
 else if x.op=9 then plB x.a len
 else if x.op=10 then rgB x.a&&plB x.b len
 else false
def xf (p:List In):Bool:=p.all (fun x=>vM x p.length)&&(decide (1≤p.length)&&decide (p.length≤48))
structure Ini where
 t:Nat
 dst:Int
 pay:Int
def aay (x:Ini):List Value:=[.float .f64 x.t,.int .i64 x.dst,.int .i64 x.pay]
def okZ (z:Int):Prop:= -9223372036854775808≤z∧z<9223372036854775808
def In.ok (y:In):Prop:=okZ y.op∧okZ y.a∧okZ y.b∧okZ y.c
def Ini.ok (y:Ini):Prop:=y.t<18446744073709551616∧okZ y.dst∧okZ y.pay
structure Mdl where
 seed:Int
 en:Nat
 dl:List Nat
 pr:List (List In)
 lp:List (Int×List Int)
 ini:List Ini
def X1 (m:Mdl):Bool:=decide (1≤m.lp.length∧m.lp.length≤6∧1≤m.pr.length∧m.pr.length≤4∧1≤m.dl.length∧m.dl.length≤8∧m.ini.length≤16)&& !jm m.en
def dlB (d:Nat):Bool:=fgt d 0
def lpB (n:Nat) (x:Int×List Int):Bool:=decide (0≤x.1∧x.1<n∧x.2.length≤8)
def aRS (n:Nat) (x:Ini):Bool:= !jm x.t&&decide (0≤x.dst∧x.dst<n)
def yM (m:Mdl):Bool:=X1 m&&(m.dl.all dlB&&(m.pr.all xf&&(m.lp.all (lpB m.pr.length)&&m.ini.all (aRS m.lp.length))))
def aSM (m:Mdl):Bool:=decide (m.pr.length≤10∧m.lp.length≤20∧m.dl.length≤60∧m.ini.length≤60)&&(m.pr.all (fun p=>decide (p.length≤100))&&m.lp.all fun x=>decide (x.2.length≤60))
end
section
def Zl (n:Nat):Bs:=if h:n<10 then [UInt8.ofNat (48+n)]else Zl (n / 10)++[UInt8.ofNat (48+n%10)]
termination_by n
decreasing_by omega
def Xb (x:Int):Bs:=if x<0 then 45::Zl (-x).toNat else Zl x.toNat
def aSy (n:Nat):UInt8:=UInt8.ofNat (if n<10 then 48+n else 87+n)
def aSY (l:Bs):Bs:=l.flatMap fun b=>[aSy (b.toNat / 16),aSy (b.toNat%16)]
def aTr (l:Bs):Bs:=if l=[]then [45]else aSY l
def XV (l:List Bool):Bs:=if l=[]then [45]else l.map fun b=>if b then 121 else 110
def kw (k:Nat):Bs:=match k with
 |1=>[100,101,108,105,118,101,114]
 |2=>[119,111,114,107]
 |3=>[114,111,117,110,100]
 |4=>[101,118,105,99,116]
 |5=>[108,97,122,121]
 |6=>[97,114,109]
 |7=>[99,114,97,115,104]
 |8=>[115,116,97,114,116]
 |9=>[100,114,105,118,101]
 |_=>[]
def zh (w:Bs):Nat:=if w=kw 1 then 1 else if w=kw 2 then 2 else if w=kw 3 then 3 else if w=kw 4 then 4 else if w=kw 5 then 5 else if w=kw 6 then 6 else if w=kw 7 then 7 else if w=kw 8 then 8 else if w=kw 9 then 9 else 0
structure Ac where
 kind:Int
 n:Int
 keep:List Bool
 torn:Int
 bytes:Int
def YH (x:Int):Bool:=decide (0≤x)&&decide (x≤1099511627776)
def kwI (k:Int):Bs:=kw k.toNat
def aos (a:Ac):List Bs:=if a.kind=3 then [kwI a.kind]else if a.kind=7 then [kwI a.kind,XV a.keep,Xb a.torn,Xb a.bytes]else [kwI a.kind,Xb a.n]
def okA (a:Ac):Bool:=decide (1≤a.kind∧a.kind≤9)&&(if a.kind=3 then true else if a.kind=7 then YH a.torn&&(YH a.bytes&&decide (a.keep.length≤64))else YH a.n)
def abI:List Bs→Bs
 | []=>[]
 | [p]=>p
 |p::q::r=>p++32::abI (q::r)
def kH (a:Ac):Bs:=if 1≤a.kind∧a.kind≤9 then abI (aos a)else []
structure Scr where
 sec:Int
 fr:Int
 m:Mdl
 acts:List Ac
def agP (x:Nat):Bs:=be 8 x
def aRU (x:In):Bs:=X6 x.op++X6 x.a++X6 x.b++X6 x.c
def abK {α:Type} (one:α→Bs) (l:List α):Bs:=X6 l.length++l.flatMap one
def aRT (x:Ini):Bs:=agP x.t++X6 x.dst++X6 x.pay
def aU1 (x:Int×List Int):Bs:=X6 x.1++abK X6 x.2
def aS7 (m:Mdl):Bs:=X6 m.seed++agP m.en++abK agP m.dl++abK (abK aRU) m.pr++abK aU1 m.lp++abK aRT m.ini
abbrev Rd (α:Type):=Bs→Option Nat→α×Option Nat
def Kc (s:Scr):Bs:=abI [[119,111,114,108,100],Xb s.sec,Xb s.fr,aTr (aS7 s.m)]++[10]
def aUI (s:Scr):Bs:=Kc s++s.acts.flatMap fun a=>kH a++[10]
def xx (s:Scr):Int:=if yM s.m=false then 15 else if(YH s.sec&&YH s.fr)=false then 2 else if s.acts.all okA=false then 2 else if 1024<s.acts.length+2 then 11 else 0
def jz (s:Scr):Bs:=if xx s=0 then aUI s else []
end
section
theorem V8 {n:Nat} (h:n<10):Zl n=[UInt8.ofNat (48+n)]:=by rw[Zl,dif_pos h]
theorem agw {n:Nat} (h: ¬n<10):Zl n=Zl (n / 10)++[UInt8.ofNat (48+n%10)]:=by rw[Zl,dif_neg h]
theorem aam {x:Int} (h:YH x=true):Xb x=Zl x.toNat∧x.toNat≤1099511627776∧(x.toNat:Int)=x:=by
 unfold YH at h
 simp only[Bool.and_eq_true,decide_eq_true_eq]at h
 unfold Xb
 rw[if_neg (by omega)]
 exact⟨rfl,by omega,by omega⟩
theorem aTV (b:UInt8) (l:Bs):aSY (b::l)=aSy (b.toNat / 16)::aSy (b.toNat%16)::aSY l:=rfl
/-! bytes of models -/
def aSD (x:Int×List Int):Prop:=okZ x.1∧ ∀y∈x.2,okZ y
structure Mdl.ok (m:Mdl):Prop where
 seed:okZ m.seed
 en:m.en<18446744073709551616
 dl: ∀x∈m.dl,x<18446744073709551616
 pr: ∀p∈m.pr,∀x∈p,x.ok
 lp: ∀x∈m.lp,aSD x
 ini: ∀x∈m.ini,x.ok
/-! what was read has words of the right size -/
end
section
open Go.RowKit
section
variable {P:Program} {ops:Array Oper} {Q:Exit→Act→World→Prop} {md:Region.Mode} {S:World→Prop} {t:Nat}
def yQ (P:Program) (md:Region.Mode) (ops:Array Oper) (Q:Exit→Act→World→Prop) (S:World→Prop) (t:Nat):Nat→Array Bool→Act→World→Prop
 |0,listed,a,w=>Region.ready md ops listed=[]∧Q .normal a w
 |fuel+1,listed,a,w=>
  (Region.ready md ops listed=[]→Q .normal a w)∧
  ∀i∈Region.ready md ops listed,wpOp P ops Q i (fun a' w'=>(i≠t→S w')∧yQ P md ops Q S t fuel (listed.setIfInBounds i true) a' w') a w
theorem Xt: ∀(fuel:Nat) (listed:Array Bool) (a:Act) (w:World),yQ P md ops Q S t fuel listed a w→wpAny P md ops Q fuel listed a w
 |0,_,_,_,h=>h
 |fuel+1,_,_,_,h=>⟨h.1,fun i hi=>wpOp_mono (fun a' w' h'=>Xt fuel _ a' w' h'.2) (h.2 i hi)⟩
def Xg (md:Region.Mode) (ops:Array Oper) (i:Nat):Nat→Nat→Bool
 |0,_=>false
 |n+1,t=>match ops[t]? with
  |none=>false
  |some o=>o.after.any fun e=>Region.binds md e&&(e.on==i || Xg md ops i n e.on)
def XZ (md:Region.Mode) (ops:Array Oper) (listed:Array Bool):Bool:=
 listed.size==ops.size&&(List.range ops.size).all fun j=> !listed.getD j false || (match ops[j]? with |none=>true|some o=>o.after.all fun e=> !Region.binds md e || listed.getD e.on false)
theorem Jg {listed:Array Bool} (h:XZ md ops listed=true):HeadInv md ops ops.size listed:=by
 unfold XZ at h
 simp only[Bool.and_eq_true,beq_iff_eq,List.all_eq_true]at h
 refine⟨h.1,fun j oj hj hl e he hb=>?_,fun t h1 h2=>absurd h1 (by omega)⟩
 have h2:=h.2 j (List.mem_range.2 (Array.getElem?_eq_some_iff.1 hj).1)
 rw[hj,hl]at h2
 simp only[Bool.not_true,Bool.false_or]at h2
 have h3:=(Array.all_eq_true_iff_forall_mem.1 h2) e he
 rw[hb]at h3
 simpa using h3
theorem Yl {i:Nat} {listed:Array Bool} (inv:HeadInv md ops ops.size listed): ∀(n t:Nat),Xg md ops i n t=true→(t∈Region.ready md ops listed∨listed.getD t false=true)→listed.getD i false=true
 |0,_,h,_=>by cases h
 | n +1,t,h,ht=>by
  unfold Xg at h
  split at h
  ·cases h
  ·next o ho=>
   obtain⟨e,he,hb⟩:=Array.any_eq_true'.1 h
   simp only[Bool.and_eq_true,Bool.or_eq_true,beq_iff_eq]at hb
   have hl:listed.getD e.on false=true:=by
    rcases ht with ht|ht
    ·obtain⟨_,o',ho',hall⟩:=mem_ready.1 ht
     rw[ho]at ho'
     injection ho' with ho'
     subst ho'
     exact hall e he hb.1
    ·exact inv.closed t o ho ht e he hb.1
   rcases hb.2 with h1|h1
   ·rw[←h1];exact hl
   ·exact Yl inv n e.on h1 (.inr hl)
theorem JQ {i:Nat} {oi:Oper} {v:Value} (hi:ops[i]? =some oi) (hsel: ∀(j:Nat) (o:Oper) cs b,ops[j]? =some o→o.op≠ .select cs b)
  (hQ: ∀c a w,Q (.panic c) (a.put oi.dst v) w→Q (.panic c) a w) (hn:Xg md ops i ops.size t=true):
  ∀(fuel:Nat) (listed:Array Bool) (a:Act) (w:World),
   (∀j oj,ops[j]? =some oj→j≠i→listed.getD j true=false→(∀e∈oj.after,Region.binds md e=true→e.on≠i)→oi.apart ops oj=true)→
   HeadInv md ops ops.size listed→i∈Region.ready md ops listed→YieldsIf P ops S oi v a→S w→
   yQ P md ops Q S t fuel (listed.setIfInBounds i true) (a.put oi.dst v) w→yQ P md ops Q S t (fuel+1) listed a w:=by
 intro fuel
 induction fuel with
 | zero=>
  intro listed a w _ _ hr hy hS H
  refine⟨fun h=>(by rw[h]at hr;cases hr),fun j hj=>?_⟩
  by_cases hji:j=i
  ·subst hji;exact hy.wpOp hi hS ⟨fun _=>hS,H⟩
  ·have:=ready_mono hj hji
   rw[H.1]at this
   cases this
 | succ fuel ih=>
  intro listed a w hfree inv hr hy hS H
  refine⟨fun h=>(by rw[h]at hr;cases hr),fun j hj=>?_⟩
  by_cases hji:j=i
  ·subst hji;exact hy.wpOp hi hS ⟨fun _=>hS,H⟩
  ·have hjt:j≠t:=fun e=>by
    subst e
    have h1:=Yl inv _ _ hn (.inl hj)
    have h0:=(mem_ready.1 hr).1
    rcases Nat.lt_or_ge i listed.size with h'|h'
    ·simp[h']at h0 h1;rw[h0]at h1;cases h1
    ·simp[Array.getElem?_eq_none h']at h1
   have h1:=H.2 j (ready_mono hj hji)
   obtain⟨hjun,oj,hoj,hall⟩:=mem_ready.1 hj
   have hnot: ∀e∈oj.after,Region.binds md e=true→e.on≠i:=fun e he hb heq=>by
    have h1:=hall e he hb
    have h0:=(mem_ready.1 hr).1
    rw[heq]at h1
    rcases Nat.lt_or_ge i listed.size with h'|h'
    ·simp[h']at h0 h1;rw[h0]at h1;cases h1
    ·simp[Array.getElem?_eq_none h']at h1
   have h2:=wpOp_putIf hoj (hfree j oj hoj hji hjun hnot) (fun cs b=>hsel i oi cs b hi) (fun cs b=>hsel j oj cs b hoj) hQ hy h1
   have hfree': ∀k ok,ops[k]? =some ok→k≠i→(listed.setIfInBounds j true).getD k true=false→
     (∀e∈ok.after,Region.binds md e=true→e.on≠i)→oi.apart ops ok=true:=fun k ok hk hki hun hno=>by
    refine hfree k ok hk hki ?_ hno
    by_cases hjk:j=k
    ·subst hjk;exact hjun
    ·rw[getD_set_ne true hjk]at hun;exact hun
   refine wpOp_mono (fun a' w' h3=>⟨h3.2.1,ih (listed.setIfInBounds j true) a' w' hfree' (inv.set hj (Array.getElem?_eq_some_iff.1 hoj).1) (ready_mono hr (Ne.symm hji)) h3.1 (h3.2.1 hjt) ?_⟩) h2
   rw[Array.setIfInBounds_comm _ _ hji]
   exact h3.2.2
theorem eTk {i:Nat} {oi:Oper} {v:Value} {fuel:Nat} {listed:Array Bool} {a:Act} {w:World} (hi:ops[i]? =some oi)
  (h3:(Region.noSelect ops&&Region.free md ops listed i&&(Region.ready md ops listed).contains i&&XZ md ops listed&&Xg md ops i ops.size t)=true)
  (hQ: ∀c a w,Q (.panic c) (a.put oi.dst v) w→Q (.panic c) a w) (hy:YieldsIf P ops S oi v a) (hS:S w)
  (h:yQ P md ops Q S t fuel (listed.setIfInBounds i true) (a.put oi.dst v) w):yQ P md ops Q S t (fuel+1) listed a w:=by
 simp only[Bool.and_eq_true]at h3
 exact JQ hi (Region.noSelect_spec h3.1.1.1.1) hQ h3.2 fuel listed a w (Region.free_spec hi h3.1.1.1.2) (Jg h3.1.2) (by simpa using h3.1.1.2) hy hS h
theorem eRn {i:Nat} {o:Oper} {fuel:Nat} {listed:Array Bool} {a:Act} {w:World} (ho:ops[i]? =some o) (hr:Region.ready md ops listed=[i]) (hit:(i==t)=false)
  (h: ∀K':Act→World→Prop,Shut (∀a w,S w→(S w→yQ P md ops Q S t fuel (listed.setIfInBounds i true) a w)→K' a w)→if Region.wanted o (yielded ops a.tmps)=true then Oper.wp P o a w K' Q else K' (a.put o.dst undef) w):yQ P md ops Q S t (fuel+1) listed a w:=by
 refine⟨fun h0=>(by rw[hr]at h0;cases h0),fun j hj=>?_⟩
 rw[hr,List.mem_singleton]at hj
 subst hj
 exact wpOp_step ho fun K' hK=>h K' (fun a w hS hW=>hK a w ⟨fun _=>hS,hW hS⟩)
theorem eR2 {i j:Nat} {o o':Oper} {fuel:Nat} {listed:Array Bool} {a:Act} {w:World} (ho:ops[i]? =some o) (ho':ops[j]? =some o') (hr:Region.ready md ops listed=[i,j]) (hit:(i==t || j==t)=false)
  (h: ∀K':Act→World→Prop,Shut (∀a w,S w→(S w→yQ P md ops Q S t fuel (listed.setIfInBounds i true) a w)→K' a w)→if Region.wanted o (yielded ops a.tmps)=true then Oper.wp P o a w K' Q else K' (a.put o.dst undef) w)
  (h': ∀K':Act→World→Prop,Shut (∀a w,S w→(S w→yQ P md ops Q S t fuel (listed.setIfInBounds j true) a w)→K' a w)→if Region.wanted o' (yielded ops a.tmps)=true then Oper.wp P o' a w K' Q else K' (a.put o'.dst undef) w):yQ P md ops Q S t (fuel+1) listed a w:=by
 refine⟨fun h0=>(by rw[hr]at h0;cases h0),fun k hk=>?_⟩
 rw[hr,List.mem_cons,List.mem_singleton]at hk
 rcases hk with rfl|rfl
 ·exact wpOp_step ho fun K' hK=>h K' (fun a w hS hW=>hK a w ⟨fun _=>hS,hW hS⟩)
 ·exact wpOp_step ho' fun K' hK=>h' K' (fun a w hS hW=>hK a w ⟨fun _=>hS,hW hS⟩)
theorem aRw {o:Oper} {fuel:Nat} {listed:Array Bool} {a:Act} {w:World} (ho:ops[t]? =some o) (hr:Region.ready md ops listed=[t]) (hz:Region.ready md ops (listed.setIfInBounds t true)=[])
  (h: ∀K':Act→World→Prop,Shut (∀a w,Q .normal a w→K' a w)→if Region.wanted o (yielded ops a.tmps)=true then Oper.wp P o a w K' Q else K' (a.put o.dst undef) w):yQ P md ops Q S t (fuel+1) listed a w:=by
 refine⟨fun h0=>(by rw[hr]at h0;cases h0),fun j hj=>?_⟩
 rw[hr,List.mem_singleton]at hj
 subst hj
 refine wpOp_step ho fun K' hK=>h K' (fun a w hW=>hK a w ⟨fun h=>absurd rfl h,?_⟩)
 cases fuel with
 |zero=>exact⟨hz,hW⟩
 |succ n=>exact⟨fun _=>hW,by rw[hz];simp⟩
theorem zB {id:Nat} {a:Act} {w:World} (S:World→Prop) (t:Nat) (hm:P.follows .mixedOrders=true) (hS:S w.drew)
  (h:S w.drew→yQ P .any ops Q S t ops.size (Array.replicate ops.size false) a w.drew):(Code.region id ops true).wp P Q a w:=
 wp_region_any hm (Xt _ _ _ _ (h hS))
end
theorem gEa {α:Type} (l:List α) (i:Nat):l.toArray[i]? =l[i]? :=by simp
theorem gEb {α:Type} (a:α) (l:List α) (i:Nat):(a::l)[i+1]? =l[i]? :=List.getElem?_cons_succ
theorem gEc {α:Type} (a:α) (l:List α):(a::l)[0]? =some a:=List.getElem?_cons_zero
theorem sEa {α:Type} (l:List α) (i:Nat) (x:α):l.toArray.setIfInBounds i x=(l.set i x).toArray:=by simp
theorem sEb {α:Type} (a b:α) (l:List α):(a::l).set 0 b=b::l:=rfl
theorem sEc {α:Type} (a b:α) (l:List α) (i:Nat):(a::l).set (i+1) b=a::l.set i b:=rfl
attribute [irreducible] yQ
end
section
open Go.RowKit
section
variable {P:Program} {md:Region.Mode} {ops:Array Oper} {Q:Exit→Act→World→Prop} {S:World→Prop} {t:Nat} {fuel:Nat} {listed:Array Bool} {a:Act} {w:World}
theorem eT (i:Nat) {oi:Oper} {v:Value} (hS:S w) (h:yQ P md ops Q S t fuel (listed.setIfInBounds i true) (a.put oi.dst v) w)
  (hi:ops[i]? =some oi:=by((simp only[gEa,gEb,gEc];try rfl)))
  (h3:(Region.noSelect ops&&Region.free md ops listed i&&(Region.ready md ops listed).contains i&&XZ md ops listed&&Xg md ops i ops.size t)=true:=by kernel_rfl)
  (hQ: ∀c a w,Q (.panic c) (a.put oi.dst v) w→Q (.panic c) a w:=by exact fun _ _ _ h=>h)
  (hy:YieldsIf P ops S oi v a:=by(refine Or.inl ⟨by rfl,?_⟩;intro wz hSw;(try dsimp only at hSw);go_simp;first |done|with_reducible rfl)):yQ P md ops Q S t (fuel+1) listed a w:=eTk hi h3 hQ hy hS h
theorem eR (i:Nat) {o:Oper}
  (h: ∀K':Act→World→Prop,Shut (∀a w,S w→(S w→yQ P md ops Q S t fuel (listed.setIfInBounds i true) a w)→K' a w)→if Region.wanted o (yielded ops a.tmps)=true then Oper.wp P o a w K' Q else K' (a.put o.dst undef) w)
  (ho:ops[i]? =some o:=by((simp only[gEa,gEb,gEc];try rfl))) (hr:Region.ready md ops listed=[i]:=by kernel_rfl) (hit:(i==t)=false:=by rfl):yQ P md ops Q S t (fuel+1) listed a w:=eRn ho hr hit h
theorem eL {o:Oper}
  (h: ∀K':Act→World→Prop,Shut (∀a w,Q .normal a w→K' a w)→if Region.wanted o (yielded ops a.tmps)=true then Oper.wp P o a w K' Q else K' (a.put o.dst undef) w)
  (ho:ops[t]? =some o:=by((simp only[gEa,gEb,gEc];try rfl))) (hr:Region.ready md ops listed=[t]:=by kernel_rfl) (hz:Region.ready md ops (listed.setIfInBounds t true)=[]:=by kernel_rfl):yQ P md ops Q S t (fuel+1) listed a w:=aRw ho hr hz h
end
end
section
open Go.RowKit Go.Lib
theorem Ye (x:In):(inC x).length=4:=rfl
theorem vL (x:Ini):(aay x).length=3:=rfl
def flC (d:Nat):List Value:=[.float .f64 d]
theorem Ya (d:Nat):(flC d).length=1:=rfl
def wdC (d:Int):List Value:=[.int .i64 d]
theorem YG (d:Int):(wdC d).length=1:=rfl
structure Prg where
 p:Option Addr
 n:Nat
 c:Nat
 l:List In
def prC (q:Prg):List Value:=[.slice q.p q.n q.c]
theorem Yu (q:Prg):(prC q).length=1:=rfl
structure LpR where
 k:Int
 p:Option Addr
 n:Nat
 c:Nat
 l:List Int
def lpC (q:LpR):List Value:=[.int .i64 q.k,.slice q.p q.n q.c]
theorem Yg (q:LpR):(lpC q).length=2:=rfl
structure MdV where
 seed:Int
 en:Nat
 dp:Option Addr
 dn:Nat
 dc:Nat
 dl:List Nat
 pp:Option Addr
 pn:Nat
 pc:Nat
 ps:List Prg
 lp:Option Addr
 ln:Nat
 lc:Nat
 ls:List LpR
 ip:Option Addr
 im:Nat
 ic:Nat
 is:List Ini
def mdC (x:MdV):List Value:=[.int .i64 x.seed,.float .f64 x.en,.slice x.dp x.dn x.dc,.slice x.pp x.pn x.pc,.slice x.lp x.ln x.lc,.slice x.ip x.im x.ic]
def MdV.m (x:MdV):Mdl:=⟨x.seed,x.en,x.dl,x.ps.map Prg.l,x.ls.map fun q=>(q.k,q.l),x.is⟩
structure qZ (W:World) (x:MdV):Prop where
 d:Vw 1 flC W (.slice x.dp x.dn x.dc) x.dl
 dn:x.dn=x.dl.length
 p:Vw 1 prC W (.slice x.pp x.pn x.pc) x.ps
 pn:x.pn=x.ps.length
 pi: ∀q∈x.ps,q.n=q.l.length∧Vw 4 inC W (.slice q.p q.n q.c) q.l
 l:Vw 2 lpC W (.slice x.lp x.ln x.lc) x.ls
 ln:x.ln=x.ls.length
 li: ∀q∈x.ls,q.n=q.l.length∧Vw 1 wdC W (.slice q.p q.n q.c) q.l
 i:Vw 3 aay W (.slice x.ip x.im x.ic) x.is
 im:x.im=x.is.length
theorem qZ.below {W W':World} {x:MdV} (h:qZ W x) (hb:Below W.heap.size W W'):qZ W' x:=
 ⟨h.d.below hb,h.dn,h.p.below hb,h.pn,fun q hq=>⟨(h.pi q hq).1,(h.pi q hq).2.below hb⟩,h.l.below hb,h.ln,fun q hq=>⟨(h.li q hq).1,(h.li q hq).2.below hb⟩,h.i.below hb,h.im⟩
end
section
open Go.RowKit
def vv (W1:World) (W:World):Prop:=Below W1.heap.size W1 W
theorem vv.out {W1 W:World} (h:vv W1 W):Below W1.heap.size W1 W:=h
theorem vv.refl (W1:World):vv W1 W1:=Below.refl _ _
theorem vv.drew (W1:World):vv W1 W1.drew:=Z0 (Below.refl _ W1) 1
theorem vv.call {P:Program} {W1:World} {f:FuncId} {vs:Array Value} {v:Value} (hc: ∀W,Calls P f vs W fun e w'=>e= .returned v∧Below W.heap.size W w'): ∀W,vv W1 W→Calls P f vs W fun e w'=>e= .returned v∧vv W1 w':=fun W hW=>by
 refine(hc W).mono ?_
 rintro e w' ⟨rfl,hb⟩
 exact⟨rfl,hW.out.trans (hb.mono hW.out.size)⟩
theorem vv.blk {W1 W:World} {g:Nat} {t:TypeId} {cs:Array Value} (h:vv W1 W) (hB:Blk W1 g t cs):Blk W g t cs:=hB.below h.out hB.lt
theorem vv.alloc {W1 W:World} (h:vv W1 W) (o:Obj):vv W1 (W.alloc o):=Below.alloc h (Below.size h) o
theorem vv.trans {W1 W2 W3:World} (h:vv W1 W2) (k:vv W2 W3):vv W1 W3:=Below.trans h (k.out.mono h.out.size)
theorem vv.of {W1 W2:World} (h:Below W1.heap.size W1 W2):vv W1 W2:=h
attribute [irreducible] vv
end
section
open Go.RowKit Go.Lib
def MdB (W:World) (g:Nat) (x:MdV):Prop:=Blk W g 29 (mdC x).toArray∧qZ W x
theorem MdB.below {W W':World} {g:Nat} {x:MdV} (h:MdB W g x) (hb:Below W.heap.size W W'):MdB W' g x:=⟨h.1.below hb h.1.lt,h.2.below hb⟩
theorem MdB.new {W:World} {x:MdV} (h:qZ W x):MdB (W.alloc (.cells (mdC x).toArray 29)) W.heap.size x:=⟨Blk.new W _ _,h.below ((Below.refl _ W).alloc (Nat.le_refl _) _)⟩
theorem MdB.c {W:World} {g:Nat} {x:MdV} (h:MdB W g x):W.cell? ⟨g,0,none⟩=some (.int .i64 x.seed)∧W.cell? ⟨g,1,none⟩=some (.float .f64 x.en)∧W.cell? ⟨g,2,none⟩=some (.slice x.dp x.dn x.dc)∧W.cell? ⟨g,3,none⟩=some (.slice x.pp x.pn x.pc)∧W.cell? ⟨g,4,none⟩=some (.slice x.lp x.ln x.lc)∧W.cell? ⟨g,5,none⟩=some (.slice x.ip x.im x.ic):=⟨h.1.cell 0,h.1.cell 1,h.1.cell 2,h.1.cell 3,h.1.cell 4,h.1.cell 5⟩
theorem qZ.prg {W:World} {x:MdV} (h:qZ W x) {j:Nat} {q:Prg} (hq:x.ps[j]? =some q): ∃b o,x.pp=some ⟨b,o,none⟩∧W.cell? ⟨b,o+j,none⟩=some (.slice q.p q.n q.c):=by
 obtain⟨b,o,c',e,_,hb,k⟩:=h.p.ex (by intro e;rw[e]at hq;simp at hq)
 injection e with e1 _ _
 refine⟨b,o,e1,?_⟩
 have:=k j q hq 0 _ rfl
 rwa[Nat.mul_one,Nat.add_zero]at this
theorem qZ.lpr {W:World} {x:MdV} (h:qZ W x) {j:Nat} {q:LpR} (hq:x.ls[j]? =some q): ∃b o,x.lp=some ⟨b,o,none⟩∧W.cell? ⟨b,o+j*2,none⟩=some (.int .i64 q.k)∧W.cell? ⟨b,o+j*2+1,none⟩=some (.slice q.p q.n q.c):=by
 obtain⟨b,o,c',e,_,hb,k⟩:=h.l.ex (by intro e;rw[e]at hq;simp at hq)
 injection e with e1 _ _
 exact⟨b,o,e1,k j q hq 0 _ rfl,k j q hq 1 _ rfl⟩
theorem qZ.dly {W:World} {x:MdV} (h:qZ W x) {j:Nat} {d:Nat} (hq:x.dl[j]? =some d): ∃b o,x.dp=some ⟨b,o,none⟩∧W.cell? ⟨b,o+j,none⟩=some (.float .f64 d):=by
 obtain⟨b,o,c',e,_,hb,k⟩:=h.d.ex (by intro e;rw[e]at hq;simp at hq)
 injection e with e1 _ _
 refine⟨b,o,e1,?_⟩
 have:=k j d hq 0 _ rfl
 rwa[Nat.mul_one,Nat.add_zero]at this
theorem qZ.ini {W:World} {x:MdV} (h:qZ W x) {j:Nat} {y:Ini} (hq:x.is[j]? =some y): ∃b o,x.ip=some ⟨b,o,none⟩∧W.cell? ⟨b,o+j*3,none⟩=some (.float .f64 y.t)∧W.cell? ⟨b,o+j*3+1,none⟩=some (.int .i64 y.dst)∧W.cell? ⟨b,o+j*3+2,none⟩=some (.int .i64 y.pay):=by
 obtain⟨b,o,c',e,_,hb,k⟩:=h.i.ex (by intro e;rw[e]at hq;simp at hq)
 injection e with e1 _ _
 exact⟨b,o,e1,k j y hq 0 _ rfl,k j y hq 1 _ rfl,k j y hq 2 _ rfl⟩
theorem zD {α:Type} (f:α→Bool) {l:List α} {j:Nat} {x:α} (h:l[j]? =some x):(l.take (j+1)).all f=((l.take j).all f&&f x):=by
 rw[List.take_add_one,h,Option.toList_some,List.all_append]
 simp
theorem yU {α:Type} {f:α→Bool} {l:List α} {j:Nat} {x:α} (h:l[j]? =some x) (hf:f x=false):l.all f=false:=by
 rw[List.all_eq_false]
 exact⟨x,List.mem_of_getElem? h,by simp[hf]⟩
theorem qG (n a b:Int) (w:World):Calls Tryz.prog 109 #[.int .i64 n,.int .i64 a,.int .i64 b] w fun r w'=>r= .returned (.bool (decide (a≤n∧n≤b)))∧w=w':=by
 by_cases h1:a≤n
 ·by_cases h2:n≤b
  ·rw[decide_eq_true (p:=a≤n∧n≤b) ⟨h1,h2⟩]
   go_enter Tryz.func109,Tryz.ntmps109
   go_wp2
   go_ret
   exact⟨rfl,rfl⟩
  ·rw[decide_eq_false (p:=a≤n∧n≤b) (fun h=>h2 h.2)]
   go_enter Tryz.func109,Tryz.ntmps109
   go_wp2
   go_ret
   exact⟨rfl,rfl⟩
 ·rw[decide_eq_false (p:=a≤n∧n≤b) (fun h=>h1 h.1)]
  go_enter Tryz.func109,Tryz.ntmps109
  go_wp2
  go_ret
  exact⟨rfl,rfl⟩
theorem aUu {W:World} {x:MdV} (h:qZ W x):aSM x.m=(decide (x.pn≤10∧x.ln≤20∧x.dn≤60∧x.im≤60)&&(x.ps.all (fun q=>decide (q.n≤100))&&x.ls.all fun q=>decide (q.n≤60))):=by
 have e1:(x.ps.all fun q=>decide (q.n≤100))=x.ps.all fun q=>decide (q.l.length≤100):=by
  rw[Bool.eq_iff_iff,List.all_eq_true,List.all_eq_true]
  exact⟨fun g q hq=>by have:=g q hq;rwa[(h.pi q hq).1]at this,fun g q hq=>by have:=g q hq;rwa[(h.pi q hq).1]⟩
 have e2:(x.ls.all fun q=>decide (q.n≤60))=x.ls.all fun q=>decide (q.l.length≤60):=by
  rw[Bool.eq_iff_iff,List.all_eq_true,List.all_eq_true]
  exact⟨fun g q hq=>by have:=g q hq;rwa[(h.li q hq).1]at this,fun g q hq=>by have:=g q hq;rwa[(h.li q hq).1]⟩
 rw[e1,e2,h.pn,h.ln,h.dn,h.im]
 unfold aSM MdV.m
 simp only[List.length_map,List.all_map]
 rfl
theorem aT1 {W:World} {x:MdV} (h:qZ W x):
  Calls Tryz.prog 28 #[.agg (mdC x).toArray] W fun r w'=>r= .returned (.bool (aSM x.m))∧Below W.heap.size W w':=by
 obtain⟨W1,hW1⟩: ∃W1,W1=W.alloc (.cells (mdC x).toArray 29):=⟨_,rfl⟩
 have hb1:Below W.heap.size W W1:=by rw[hW1];exact(Below.refl _ W).alloc (Nat.le_refl _) _
 have hB:=MdB.new h
 rw[←hW1]at hB
 obtain⟨r0,hr0⟩: ∃r,r=aSM x.m:=⟨_,rfl⟩
 rw[←hr0]
 rw[aUu h]at hr0
 have HE:=hid hr0
 clear hr0
 have HX:=hid (⟨hW1,hb1,hB⟩:_∧_∧_)
 unfold mdC at HX⊢
 clear h hW1 hb1 hB
 by_cases hc:x.pn≤10∧x.ln≤20∧x.dn≤60∧x.im≤60
 ·have HE1:Hid (r0=(x.ps.all (fun q=>decide (q.n≤100))&&x.ls.all fun q=>decide (q.n≤60))):=hid (by rw[HE.out,decide_eq_true hc,Bool.true_and])
  obtain⟨k1,k2,k3,k4⟩:=hc
  have i1: ¬(10:Int)<(x.pn:Int):=by omega
  have i2: ¬(20:Int)<(x.ln:Int):=by omega
  have i3: ¬(60:Int)<(x.dn:Int):=by omega
  have i4: ¬(60:Int)<(x.im:Int):=by omega
  have ip:(x.pn:Int)≤10:=by omega
  have il:(x.ln:Int)≤20:=by omega
  obtain⟨c0,c1,c2,c3,c4,c5⟩:=HX.out.2.2.c
  have HP:Hid (x.pn=x.ps.length∧x.ln=x.ls.length):=hid ⟨HX.out.2.2.2.pn,HX.out.2.2.2.ln⟩
  clear k1 k2 k3 k4
  go_enter Tryz.func28,Tryz.ntmps28
  go_wp2
  rw[←HX.out.1]
  go_loopg [3] x.pn (fun gg s3 wr=> ∃(j:Nat),j≤x.pn∧x.pn-j≤gg∧s3= .int .i64 j∧Hid ((x.ps.take j).all (fun q=>decide (q.n≤100))=true)∧W1=wr)
  case atStart=>exact⟨0,by omega,by omega,rfl,hid (by simp),rfl⟩
  case round=>
   obtain⟨j,hj,hgg,rfl,HI,hwr⟩:=hrel
   subst hwr
   by_cases hje:j<x.pn
   ·obtain⟨q,hq⟩: ∃q,x.ps[j]? =some q:=⟨_,List.getElem?_eq_getElem (by rw[←HP.out.1];exact hje)⟩
    obtain⟨b,o,e1,m0⟩:=HX.out.2.2.2.prg hq
    rw[e1]at c3
    have hji:(j:Int)<(x.pn:Int):=by omega
    have HQ:=hid hq
    clear hq e1
    by_cases hn:q.n≤100
    ·have hn2: ¬(100:Int)<(q.n:Int):=by omega
     have HT:Hid ((x.ps.take (j+1)).all (fun q=>decide (q.n≤100))=true):=hid (by rw[zD _ HQ.out,HI.out,decide_eq_true hn];rfl)
     clear hn
     go_wp2
     go_roundg (x.pn- (j+1))
     case measure=>omega
     case rel=>exact⟨j+1,by omega,by omega,by go_num,HT,rfl⟩
    ·have hn2:(100:Int)<(q.n:Int):=by omega
     have HZ:Hid (r0=false):=hid (by rw[HE1.out,yU HQ.out (decide_eq_false hn),Bool.false_and])
     clear hn
     go_wp2
     go_ret
     rw[HZ.out]
     exact⟨rfl,HX.out.2.1⟩
   ·have hji: ¬(j:Int)<(x.pn:Int):=by omega
    have hall:x.ps.all (fun q=>decide (q.n≤100))=true:=by
     have:=HI.out
     rwa[List.take_of_length_le (by rw[←HP.out.1];omega)]at this
    have HE2:Hid (r0=x.ls.all fun q=>decide (q.n≤60)):=hid (by rw[HE1.out,hall,Bool.true_and])
    clear hall
    go_wp2
    go_loopg [4] x.ln (fun gg s4 wr=> ∃(k:Nat),k≤x.ln∧x.ln-k≤gg∧s4= .int .i64 k∧Hid ((x.ls.take k).all (fun q=>decide (q.n≤60))=true)∧W1=wr)
    case atStart=>exact⟨0,by omega,by omega,rfl,hid (by simp),rfl⟩
    case round=>
     obtain⟨k,hk,hgg,rfl,HI,hwr⟩:=hrel
     subst hwr
     by_cases hke:k<x.ln
     ·obtain⟨q,hq⟩: ∃q,x.ls[k]? =some q:=⟨_,List.getElem?_eq_getElem (by rw[←HP.out.2];exact hke)⟩
      obtain⟨b,o,e1,m0,m1⟩:=HX.out.2.2.2.lpr hq
      rw[e1]at c4
      have hki:(k:Int)<(x.ln:Int):=by omega
      have HQ:=hid hq
      clear hq e1
      by_cases hn:q.n≤60
      ·have hn2: ¬(60:Int)<(q.n:Int):=by omega
       have HT:Hid ((x.ls.take (k+1)).all (fun q=>decide (q.n≤60))=true):=hid (by rw[zD _ HQ.out,HI.out,decide_eq_true hn];rfl)
       clear hn
       go_wp2
       go_roundg (x.ln- (k+1))
       case measure=>omega
       case rel=>exact⟨k+1,by omega,by omega,by go_num,HT,rfl⟩
      ·have hn2:(60:Int)<(q.n:Int):=by omega
       have HZ:Hid (r0=false):=hid (by rw[HE2.out,yU HQ.out (decide_eq_false hn)])
       clear hn
       go_wp2
       go_ret
       rw[HZ.out]
       exact⟨rfl,HX.out.2.1⟩
     ·have hki: ¬(k:Int)<(x.ln:Int):=by omega
      have hall:x.ls.all (fun q=>decide (q.n≤60))=true:=by
       have:=HI.out
       rwa[List.take_of_length_le (by rw[←HP.out.2];omega)]at this
      have HZ:Hid (r0=true):=hid (by rw[HE2.out,hall])
      clear hall
      go_wp2
      go_ret
      rw[HZ.out]
      exact⟨rfl,HX.out.2.1⟩
 ·have HZ:Hid (r0=false):=hid (by rw[HE.out,decide_eq_false hc,Bool.false_and])
  have HF:=hid HX.out.2.1
  rw[HX.out.1]at HF
  have hcs:(10:Int)<(x.pn:Int)∨(¬(10:Int)<(x.pn:Int)∧(20:Int)<(x.ln:Int))∨(¬(10:Int)<(x.pn:Int)∧ ¬(20:Int)<(x.ln:Int)∧(60:Int)<(x.dn:Int))∨(¬(10:Int)<(x.pn:Int)∧ ¬(20:Int)<(x.ln:Int)∧ ¬(60:Int)<(x.dn:Int)∧(60:Int)<(x.im:Int)):=by omega
  clear hc HX
  rcases hcs with h1| ⟨h1,h2⟩ | ⟨h1,h2,h3⟩ | ⟨h1,h2,h3,h4⟩
  all_goals
   go_enter Tryz.func28,Tryz.ntmps28
   go_wp2
   go_ret
   rw[HZ.out]
   exact⟨rfl,HF.out⟩
end
section
open Go.RowKit Go.Lib
def xK (op:Int):Bs:=
 if op=0 then [45,45,45]
 else if op=1 then [114,45,45]
 else if op=2∨op=11∨op=13∨op=14 then [114,114,45]
 else if(3≤op∧op≤8)∨op=12 then [114,114,114]
 else if op=9 then [112,45,45]
 else if op=10 then [114,112,45]
 else []
theorem aaO (op:Int):(op=0∨op=1∨op=2∨op=3∨op=4∨op=5∨op=6∨op=7∨op=8∨op=9∨op=10∨op=11∨op=12∨op=13∨op=14)∨(¬op=0∧ ¬op=1∧ ¬op=2∧ ¬op=3∧ ¬op=4∧ ¬op=5∧ ¬op=6∧ ¬op=7∧ ¬op=8∧ ¬op=9∧ ¬op=10∧ ¬op=11∧ ¬op=12∧ ¬op=13∧ ¬op=14):=by omega
theorem ahh (op:Int) (w:World):Calls Tryz.prog 178 #[.int .i64 op] w fun r w'=>r= .returned (.string (S (xK op)))∧w=w':=by
 rcases aaO op with h| ⟨h0,h1,h2,h3,h4,h5,h6,h7,h8,h9,h10,h11,h12,h13,h14⟩
 ·rcases h with rfl|rfl|rfl|rfl|rfl|rfl|rfl|rfl|rfl|rfl|rfl|rfl|rfl|rfl|rfl
  all_goals
   go_enter Tryz.func178,Tryz.ntmps178
   go_wp2
   go_ret
   exact⟨rfl,rfl⟩
 ·have e:xK op=[]:=by
   unfold xK
   rw[if_neg h0,if_neg h1,if_neg (by omega),if_neg (by omega),if_neg h9,if_neg h10]
  rw[e]
  go_enter Tryz.func178,Tryz.ntmps178
  go_wp2
  go_ret
  exact⟨rfl,rfl⟩
def aBt (ch:UInt8) (n len:Int):Bool:=if ch=114 then rgB n else if ch=112 then plB n len else true
def abT (x:In) (j:Nat):Int:=if j=0 then x.a else if j=1 then x.b else x.c
theorem ai6 (x:In) (len:Int):vM x len=(!(xK x.op).isEmpty&&((List.range (xK x.op).length).all fun j=>aBt ((xK x.op).getD j 0) (abT x j) len)):=by
 have hr:List.range 3=[0,1,2]:=rfl
 rcases aaO x.op with h| ⟨h0,h1,h2,h3,h4,h5,h6,h7,h8,h9,h10,h11,h12,h13,h14⟩
 ·rcases h with h|h|h|h|h|h|h|h|h|h|h|h|h|h|h
  all_goals
   unfold vM xK
   simp[h,aBt,abT,hr]
 ·have e:xK x.op=[]:=by
   unfold xK
   rw[if_neg h0,if_neg h1,if_neg (by omega),if_neg (by omega),if_neg h9,if_neg h10]
  have e2:vM x len=false:=by
   unfold vM
   rw[if_neg h0,if_neg h1,if_neg (by omega),if_neg (by omega),if_neg h9,if_neg h10]
  rw[e,e2]
  rfl
theorem Kw (n:Int) (w:World):Calls Tryz.prog 144 #[.int .i64 n] w fun r w'=>r= .returned (.bool (rgB n))∧w=w':=by
 unfold rgB
 by_cases h1:0≤n
 ·by_cases h2:n≤7
  ·rw[decide_eq_true h1,decide_eq_true h2]
   go_enter Tryz.func144,Tryz.ntmps144
   go_wp2
   go_ret
   exact⟨rfl,rfl⟩
  ·rw[decide_eq_true h1,decide_eq_false h2]
   go_enter Tryz.func144,Tryz.ntmps144
   go_wp2
   go_ret
   exact⟨rfl,rfl⟩
 ·rw[decide_eq_false h1]
  go_enter Tryz.func144,Tryz.ntmps144
  go_wp2
  go_ret
  exact⟨rfl,rfl⟩
end
section
open Go.RowKit Go.Lib
theorem ahg (op:Int):(xK op).length≤3:=by
 unfold xK
 repeat' split
 all_goals simp
theorem Kk (op:Int): ∀b∈xK op,b.toNat<128:=by
 unfold xK
 repeat' split
 all_goals simp
theorem abO (ch:UInt8) (n len:Int):(aBt ch n len=false∧((ch.toNat=114∧n<0)∨(ch.toNat=114∧ ¬n<0∧7<n)∨(ch.toNat=112∧n<0)∨(ch.toNat=112∧ ¬n<0∧len<n)))∨
  (aBt ch n len=true∧((ch.toNat=114∧ ¬n<0∧ ¬7<n)∨(ch.toNat=112∧ ¬n<0∧ ¬len<n)∨(ch.toNat≠114∧ch.toNat≠112))):=by
 unfold aBt rgB plB
 by_cases h1:ch=114
 ·subst h1
  by_cases h2:n<0
  ·left;simp;omega
  ·by_cases h3:7<n
   ·left;simp;omega
   ·right;simp;omega
 ·by_cases h2:ch=112
  ·subst h2
   by_cases h2:n<0
   ·left;simp;omega
   ·by_cases h3:len<n
    ·left;simp;omega
    ·right;simp;omega
  ·right
   have e1:ch.toNat≠114:=fun h=>h1 (UInt8.toNat_inj.1 h)
   have e2:ch.toNat≠112:=fun h=>h2 (UInt8.toNat_inj.1 h)
   simp[h1,h2,e1,e2]
theorem aBg (x:In) (len:Int) (w:World):
  Calls Tryz.prog 142 #[.agg #[.int .i64 x.op,.int .i64 x.a,.int .i64 x.b,.int .i64 x.c],.int .i64 len] w fun r w'=>r= .returned (.bool (vM x len))∧Below w.heap.size w w':=by
 obtain⟨W1,hW1⟩: ∃W1,W1=(w.alloc (.cells #[.int .i64 x.op,.int .i64 x.a,.int .i64 x.b,.int .i64 x.c] 84)).alloc (.cells #[.int .i64 x.a,.int .i64 x.b,.int .i64 x.c] 256):=⟨_,rfl⟩
 have hb1:Below w.heap.size w W1:=by rw[hW1];exact((Below.refl _ w).alloc (Nat.le_refl _) _).alloc (by simp) _
 have hP:Blk W1 (w.heap.size+1) 256 #[.int .i64 x.a,.int .i64 x.b,.int .i64 x.c]:=by rw[hW1];simpa using Blk.new (w.alloc (.cells #[.int .i64 x.op,.int .i64 x.a,.int .i64 x.b,.int .i64 x.c] 84)) 256 #[.int .i64 x.a,.int .i64 x.b,.int .i64 x.c]
 obtain⟨s,hs⟩: ∃s:ByteArray,s=S (xK x.op):=⟨_,rfl⟩
 have hsz:s.size=(xK x.op).length:=by rw[hs];rfl
 have hl3:=ahg x.op
 have HI:Hid (∀p,Below w.heap.size w (W1.iter s p)∧ ∀j,j<3→(W1.iter s p).cell? ⟨w.heap.size+1,j,none⟩=some (.int .i64 (abT x j))):=hid fun p=>by
  refine⟨hb1.alloc (hb1.size) _,fun j hj=>?_⟩
  have:=(hP.alloc (.stringIter s p)).cell j
  match j,hj with
  |0,_=>exact this
  |1,_=>exact this
  |2,_=>exact this
 have HN:=hid (fun W=>ahh x.op W)
 have hz:W1.heap.size=w.heap.size+1+1:=by rw[hW1];simp
 obtain⟨r0,hr0⟩: ∃r,r=vM x len:=⟨_,rfl⟩
 rw[←hr0]
 have HR:=hid (hr0.trans (ai6 x len))
 rw[←hs]at HN
 have HS:=hid (⟨hs,hl3⟩:_∧_)
 have HW1:=hid hW1
 have HZ1:=hid hz
 have HNX:Hid (∀(j:Nat) (h:j<s.size) (ty:TypeId),(Instr.next (.pointer (some ⟨w.heap.size+1+1,0,none⟩)) true ty).run Tryz.prog (W1.iter s j)= .ok (.tuple #[.bool true,.int .i64 j,.int .i32 ((xK x.op).getD j 0).toNat]) (W1.iter s (j+1))):=hid fun j h ty=>by
  have e:s[j]'h=(xK x.op).getD j 0:=by
   have h':j<(xK x.op).length:=by rw[←hsz];exact h
   subst hs
   rw[List.getD_eq_getElem?_getD,List.getElem?_eq_getElem h']
   rfl
  have:=run_next_ascii (P:=Tryz.prog) W1 s j ty h (by rw[e,List.getD_eq_getElem?_getD,List.getElem?_eq_getElem (by rw[←hsz];exact h)];exact Kk _ _ (List.getElem_mem _))
  rw[e,hz]at this
  exact this
 have hne:Tryz.prog.underlying 9=some .string:=by kernel_rfl
 have hrg:=run_range_string (P:=Tryz.prog) W1 9 s hne
 clear hr0 hs hW1 hb1 hP hne hz
 go_enter Tryz.func142,Tryz.ntmps142
 go_wp2_with ((with_reducible refine(HN.out _).mono ?_);rintro r w' ⟨rfl,rfl⟩)
 rw[←HW1.out]
 have HSZ:=hid hsz
 obtain⟨m,hm⟩: ∃m,m=s.size:=⟨_,rfl⟩
 have hm3:m≤3:=by omega
 have HM:=hid hm
 clear hsz hm hl3 hrg
 go_loopg [7] (m+1) (fun gg s7 wr=> ∃j,j≤m∧m+1-j≤gg∧Hid (∀i,i<j→aBt ((xK x.op).getD i 0) (abT x i) len=true)∧W1.iter s j=wr)
 case atStart=>exact⟨0,by omega,by omega,hid (fun i hi=>absurd hi (by omega)),rfl⟩
 case round=>
  obtain⟨j,hj,hgg,HJ,hwr⟩:=hrel
  subst hwr
  by_cases hjm:j<m
  ·have hnx:=HNX.out j (by rw[←HM.out];exact hjm)
   obtain⟨c,hc⟩: ∃c,c=(xK x.op).getD j 0:=⟨_,rfl⟩
   obtain⟨n,hn⟩: ∃n,n=abT x j:=⟨_,rfl⟩
   have hp:=(HI.out (j+1)).2 j (by omega)
   rw[←hc]at hnx
   rw[←hn]at hp
   have hj3:(j:Int)<3:=by omega
   have hj0:(0:Int)≤(j:Int):=by omega
   obtain⟨hmB,hcs⟩ | ⟨hmB,hcs⟩:=abO c n len
   ·have HZ:Hid (r0=false):=hid (by
     rw[HR.out,Bool.and_eq_false_iff]
     right
     rw[List.all_eq_false]
     exact⟨j,List.mem_range.2 (by rw[←HSZ.out,←HM.out];exact hjm),by rw[←hc,←hn,hmB];simp⟩)
    have HQ:=hid (HI.out (j+1)).1
    clear hmB hc hn hjm
    rcases hcs with⟨h1,h2⟩ | ⟨h1,h2,h3⟩ | ⟨h1,h2⟩ | ⟨h1,h2,h3⟩
    all_goals
     rw[h1]at hnx
     clear h1
     go_wp2
     go_ret
     rw[HZ.out]
     exact⟨rfl,HQ.out⟩
   ·have HJ2:Hid (∀i,i<j+1→aBt ((xK x.op).getD i 0) (abT x i) len=true):=hid fun i hi=>by
     by_cases e:i=j
     ·rw[e,←hc,←hn];exact hmB
     ·exact HJ.out i (by omega)
    clear hmB hc hn
    rcases hcs with⟨h1,h2,h3⟩ | ⟨h1,h2,h3⟩ | ⟨h1,h2⟩
    ·rw[h1]at hnx
     clear h1
     go_wp2
     go_roundg (m+1- (j+1))
     case measure=>omega
     case rel=>exact⟨j+1,by omega,by omega,HJ2,rfl⟩
    ·rw[h1]at hnx
     clear h1
     go_wp2
     go_roundg (m+1- (j+1))
     case measure=>omega
     case rel=>exact⟨j+1,by omega,by omega,HJ2,rfl⟩
    ·have e1:((c.toNat:Int)==114)=false:=beq_eq_false_iff_ne.2 (by omega)
     have e2:((c.toNat:Int)==112)=false:=beq_eq_false_iff_ne.2 (by omega)
     clear h1 h2
     go_wp2
     go_roundg (m+1- (j+1))
     case measure=>omega
     case rel=>exact⟨j+1,by omega,by omega,HJ2,rfl⟩
  ·have hnx: ∀ty,(Instr.next (.pointer (some ⟨w.heap.size+1+1,0,none⟩)) true ty).run Tryz.prog (W1.iter s j)= .ok (.tuple #[.bool false]) (W1.iter s j):=fun ty=>by
    have:=run_next_end (P:=Tryz.prog) W1 s j ty (by rw[←HM.out];exact hjm)
    rwa[HZ1.out]at this
   have HQ:=hid (HI.out j).1
   have HZ:Hid (r0= !(xK x.op).isEmpty):=hid (by
    rw[HR.out,(List.all_eq_true.2 fun i hi=>HJ.out i (by have:=List.mem_range.1 hi;rw[←HSZ.out,←HM.out]at this;omega)),Bool.and_true])
   have HE:Hid (s.toList=xK x.op):=hid (by rw[HS.out.1,aiv])
   go_wp2
   go_ret
   rw[HZ.out,←HE.out]
   exact⟨rfl,HQ.out⟩
end
section
open Go.RowKit Go.Lib
section
variable {W:World} {q:Option Addr} {n c:Nat} {l:List In}
theorem aMu (hv:Vw 4 inC W (.slice q n c) l) {j:Nat} {x:In} (hx:l[j]? =some x): ∃b o,q=some ⟨b,o,none⟩∧ ∀W',Below W.heap.size W W'→W'.cell? ⟨b,o+j*4,none⟩=some (.int .i64 x.op)∧W'.cell? ⟨b,o+j*4+1,none⟩=some (.int .i64 x.a)∧W'.cell? ⟨b,o+j*4+2,none⟩=some (.int .i64 x.b)∧W'.cell? ⟨b,o+j*4+3,none⟩=some (.int .i64 x.c):=by
 obtain⟨b,o,c',e,_,hb,k⟩:=hv.ex (by intro e;rw[e]at hx;simp at hx)
 injection e with e1 _ _
 refine⟨b,o,e1,fun W' hW=>?_⟩
 have e: ∀i,W'.cell? ⟨b,i,none⟩=W.cell? ⟨b,i,none⟩:=fun i=>hW.cell (p:=⟨b,i,none⟩) hb
 simp only[e]
 exact⟨k j x hx 0 _ rfl,k j x hx 1 _ rfl,k j x hx 2 _ rfl,k j x hx 3 _ rfl⟩
theorem ahx {g:Nat} {T:TypeId} (hg:Blk W g T #[.slice q n c]) (x:In):
  Calls Tryz.prog 141 #[.agg #[.int .i64 x.op,.int .i64 x.a,.int .i64 x.b,.int .i64 x.c],.pointer (some ⟨g,0,none⟩)] W fun r w'=>r= .returned (.bool (vM x n))∧Below W.heap.size W w':=by
 have HB:=hid ((Below.refl _ W).alloc (Nat.le_refl _) (.cells #[.int .i64 x.op,.int .i64 x.a,.int .i64 x.b,.int .i64 x.c] 84))
 have c0:(W.alloc (.cells #[.int .i64 x.op,.int .i64 x.a,.int .i64 x.b,.int .i64 x.c] 84)).cell? ⟨g,0,none⟩=some (.slice q n c):=(hg.alloc _).cell 0
 have HI:=hid (fun W=>aBg x n W)
 clear hg
 go_enter Tryz.func141,Tryz.ntmps141
 go_wp2_with fail
 (with_reducible refine(HI.out _).mono ?_)
 rintro r w1 ⟨rfl,hb1⟩
 have HF:=hid (HB.out.trans (hb1.mono (by simp)))
 clear hb1
 go_wp2
 go_ret
 exact⟨rfl,HF.out⟩
theorem Kr (hv:Vw 4 inC W (.slice q n c) l) (hn:n=l.length) (hnb:n≤1000):
  Calls Tryz.prog 108 #[.slice q n c] W fun r w'=>r= .returned (.bool (xf l))∧Below W.heap.size W w':=by
 obtain⟨W1,hW1⟩: ∃W1,W1=W.alloc (.cells #[.slice q n c] 85):=⟨_,rfl⟩
 have hb1:Below W.heap.size W W1:=by rw[hW1];exact(Below.refl _ W).alloc (Nat.le_refl _) _
 have hB1:Blk W1 W.heap.size 85 #[.slice q n c]:=by rw[hW1];exact Blk.new W _ _
 have HB:Hid (∀W',Below W1.heap.size W1 W'→Blk W' W.heap.size 85 #[.slice q n c]∧Below W.heap.size W W'):=hid fun W' hW=>⟨hB1.below hW hB1.lt,hb1.trans (hW.mono hb1.size)⟩
 have hmf: ∀(fn:Fn) (first cap:Array Value) (w:World),(Instr.makeFunc fn first cap).run Tryz.prog w= .ok (.func fn first cap) w:=fun _ _ _ _=>rfl
 obtain⟨r0,hr0⟩: ∃r,r=xf l:=⟨_,rfl⟩
 rw[←hr0]
 have HR:=hid hr0
 have HV:=hid (⟨hv,hn⟩:_∧_)
 have HW1:=hid hW1
 have c0:W1.cell? ⟨W.heap.size,0,none⟩=some (.slice q n c):=hB1.cell 0
 have HWN:=hid (fun W=>qG n 1 48 W)
 clear hr0 hv hn hW1 hb1 hB1
 go_enter Tryz.func108,Tryz.ntmps108
 go_wp2
 rw[←HW1.out]
 go_loopg [9] (n+1) (fun gg s9 wr=> ∃j:Nat,j≤n∧n+1-j≤gg∧s9= .int .i64 j∧Hid ((l.take j).all (fun x=>vM x l.length)=true)∧Hid (Below W1.heap.size W1 wr))
 case atStart=>exact⟨0,by omega,by omega,rfl,hid (by simp),hid (Below.refl _ _)⟩
 case round=>
  obtain⟨j,hj,hgg,rfl,HJ,HBW⟩:=hrel
  by_cases hjn:j<n
  ·obtain⟨x,hx⟩: ∃x,l[j]? =some x:=⟨_,List.getElem?_eq_getElem (by rw[←HV.out.2];exact hjn)⟩
   obtain⟨b,o,rfl,hxc⟩:=aMu HV.out.1 hx
   obtain⟨x0,x1,x2,x3⟩:=hxc wr (HB.out _ HBW.out).2
   have hji:(j:Int)<(n:Int):=by omega
   have hnz:(n:Int)≤1000:=by omega
   obtain⟨wo,hwo⟩: ∃wo,wo=wr.alloc (.cells #[.int .i64 x.op,.int .i64 x.a,.int .i64 x.b,.int .i64 x.c] 84):=⟨_,rfl⟩
   have hbo:Below W1.heap.size W1 wo:=by rw[hwo];exact HBW.out.alloc HBW.out.size _
   have HP:=hid (ahx (HB.out _ hbo).1 x)
   have HJN:=hid hjn
   have HX:=hid hx
   have HWO:=hid hwo
   have HBO:=hid hbo
   clear hx hxc hwo hbo
   go_wp2_with fail
   rw[←HWO.out]
   (with_reducible refine HP.out.mono ?_)
   rintro r w1 ⟨rfl,hb1⟩
   obtain⟨go,hgo⟩: ∃go,go=vM x n:=⟨_,rfl⟩
   rw[←hgo]
   have HG:=hid (⟨hgo,HBO.out.trans (hb1.mono HBO.out.size)⟩:_∧_)
   clear hgo hb1 x0 x1 x2 x3
   cases go with
   |true=>
    have HJ2:Hid ((l.take (j+1)).all (fun x=>vM x l.length)=true):=hid (by rw[zD _ HX.out,HJ.out,←HV.out.2,←HG.out.1];rfl)
    go_wp2
    go_roundg (n+1- (j+1))
    case measure=>omega
    case rel=>exact⟨j+1,by have:=HJN.out;omega,by omega,by go_num,HJ2,hid HG.out.2⟩
   |false=>
    have HZ:Hid (r0=false):=hid (by rw[HR.out];unfold xf;rw[yU HX.out (by rw[←HV.out.2,←HG.out.1]),Bool.false_and])
    go_wp2
    go_ret
    rw[HZ.out]
    exact⟨rfl,(HB.out _ HG.out.2).2⟩
  ·have hji: ¬(j:Int)<(n:Int):=by omega
   have HZ:Hid (r0=decide ((1:Int)≤n∧(n:Int)≤48)):=hid (by
    have h1:=HJ.out
    rw[List.take_of_length_le (by rw[←HV.out.2];omega)]at h1
    rw[HR.out]
    unfold xf
    rw[h1,Bool.true_and,←HV.out.2,←Bool.decide_and]
    exact decide_eq_decide.2 (by omega))
   have HWN2:Hid (∀W',Calls Tryz.prog 109 #[.int .i64 n,.int .i64 1,.int .i64 48] W' fun r w'=>r= .returned (.bool r0)∧W'=w'):=hid fun W'=>by rw[HZ.out];exact HWN.out W'
   have c1:wr.cell? ⟨W.heap.size,0,none⟩=some (.slice q n c):=(HB.out _ HBW.out).1.cell 0
   go_wp2_with ((with_reducible refine(HWN2.out _).mono ?_);rintro r w' ⟨rfl,rfl⟩)
   go_ret
   exact⟨rfl,(HB.out _ HBW.out).2⟩
end
end
section
open Go.RowKit Go.Lib
theorem Vw.elt {α:Type} {k:Nat} {enc:α→List Value} {W:World} {p:Option Addr} {n c:Nat} {l:List α} (h:Vw k enc W (.slice p n c) l) {j:Nat} {a:α} (ha:l[j]? =some a): ∃b o,p=some ⟨b,o,none⟩∧ ∀W',Below W.heap.size W W'→ ∀q u,(enc a)[q]? =some u→W'.cell? ⟨b,o+j*k+q,none⟩=some u:=by
 obtain⟨b,o,c',e1,e2,e3,e4⟩:=h.ex (by rintro rfl;simp at ha)
 injection e1 with e1
 exact⟨b,o,e1,fun W' hb q u hu=>(World.cell?_of_block (hb.block b e3)).trans (e4 j a ha q u hu)⟩
end
section
open Go.RowKit Go.Lib
def boC (b:Bool):List Value:=[.bool b]
theorem XW (b:Bool):(boC b).length=1:=rfl
structure AcV where
 kind:Int
 n:Int
 kp:Option Addr
 kn:Nat
 kc:Nat
 keep:List Bool
 torn:Int
 bytes:Int
def acC (a:AcV):List Value:=[.int .i64 a.kind,.int .i64 a.n,.slice a.kp a.kn a.kc,.int .i64 a.torn,.int .i64 a.bytes]
theorem J0 (a:AcV):(acC a).length=5:=rfl
def AcV.ac (a:AcV):Ac:=⟨a.kind,a.n,a.keep,a.torn,a.bytes⟩
structure acd (W:World) (a:AcV):Prop where
 n:a.kn=a.keep.length
 k:Vw 1 boC W (.slice a.kp a.kn a.kc) a.keep
structure ScV where
 sec:Int
 fr:Int
 x:MdV
 ap:Option Addr
 an:Nat
 ac:Nat
 ats:List AcV
def scC (s:ScV):List Value:= .int .i64 s.sec:: .int .i64 s.fr::(mdC s.x++[.slice s.ap s.an s.ac])
def ScV.s (s:ScV):Scr:=⟨s.sec,s.fr,s.x.m,s.ats.map AcV.ac⟩
structure aci (W:World) (s:ScV):Prop where
 m:qZ W s.x
 a:Vw 5 acC W (.slice s.ap s.an s.ac) s.ats
 an:s.an=s.ats.length
 ai: ∀a∈s.ats,acd W a
theorem acd.below {W W':World} {a:AcV} (h:acd W a) (hb:Below W.heap.size W W'):acd W' a:=⟨h.n,h.k.below hb⟩
theorem aci.below {W W':World} {s:ScV} (h:aci W s) (hb:Below W.heap.size W W'):aci W' s:=⟨h.m.below hb,h.a.below hb,h.an,fun a ha=>(h.ai a ha).below hb⟩
end
section
open Go.RowKit Go.Lib
section
variable {W w w':World} {s:Bs} {c:UInt8} {j a m:Nat} {v v':Value} {outs:List Bs} {b:UInt8}
theorem qI (W:World) (B:Nat) (T:TypeId) (s:Nat):W.ownsRow B T s (.slice none 0 0) 0 []:=⟨by simp,.inl ⟨rfl,rfl⟩⟩
end
end
end Go.Proofs.YtcdiljebkpikbaaGreat
