/- Parts of the proof: Bb+ Bd+ Pa+ Pb+ Rw+ Vwa+ Ea Sca Scb Scc Gt Gu Eb Gs. -/
import Derived.WalkKit
import Derived.Deep.Draws
import Derived.Test.YtcdiljebkpikbaaGreatProg
import Derived.WalkSpells
import Derived.WalkLawsBesides
import Derived.Maps.AppendAt
import Derived.Laws.BytesArg
import Derived.Laws.Cells
import Derived.Lib.SliceRun
import Derived.Deep.MidRow
import Derived.Deep.OwnRows
import Derived.Laws.Append
import Derived.Deep.AppendSrc
import Derived.Deep.RegionHeld
import Derived.StillTail
import Derived.Test.YtcdiljebkpikbaaGreatS10
import Derived.Test.YtcdiljebkpikbaaGreatS11
set_option linter.all false
set_option maxRecDepth 100000
set_option maxHeartbeats 64000000
namespace Go.Proofs.YtcdiljebkpikbaaGreat
section
theorem aU4 (k n:Nat):jY (be k n)=n%256^k:=by
 induction k with
 |zero=>simp[be,jY,Nat.mod_one]
 |succ k ih=>
  simp only[be,aig,aL0,ih]
  have h1:(UInt8.ofNat (n / 256^k)).toNat=n / 256^k%256:=by simp
  rw[h1,Nat.pow_succ,Nat.mod_mul]
  rw[Nat.mul_comm,Nat.add_comm]
theorem aTH (k n j:Nat) (h:j<k):(be k n).take (j+1)=(be k n).take j++[UInt8.ofNat (n / 256^(k-1-j))]:=by
 induction k generalizing j with
 |zero=>omega
 | succ k ih=>
  cases j with
  |zero=>simp[be]
  |succ j=>
   simp only[be,List.take_succ_cons,List.cons_append]
   rw[ih j (by omega)]
   have:k+1-1- (j+1)=k-1-j:=by omega
   rw[this]
theorem aU5 {x:Int} (h0: -9223372036854775808≤x) (h1:x<9223372036854775808):(jY (X6 x):Int)=x+9223372036854775808:=by
 unfold X6;rw[aU4];omega
end
section
open Go.RowKit
namespace Kp
variable {O O':List Nat} {w w' w'' a:World}
theorem nil_below (h:Kp [] w w'):Below w.heap.size w w':=h.to_below (Nat.le_refl _) (by simp)
end Kp
end
section
open Go.RowKit
theorem aV0:(Tryz.prog.info? 5).map (fun i=>(i.zero,i.size,i.bytes))=some (some (.int .u8 0),1,1):=by kernel_rfl
theorem aWg (w:World) (v:Value) (t:TypeId) {g:Nat} (hg:g=w.heap.size): ∀j u,[v][j]? =some u→(w.alloc (.cells #[v] t)).cell? ((⟨g,0,none⟩:Addr).add j)=some u:=by
 subst hg;exact cell_one_new w v t
theorem one1 {v:Value} (h:v.oneCell'=true): ∀u∈[v],u.oneCell'=true:=by
 intro u hu
 simp at hu
 rw[hu];exact h
theorem aTN {w:World} {B:Nat} {T:TypeId} {s n n':Nat} {v:Value} {xs xs':List Value} (h:w.ownsRow B T s v n xs) (hn:n=n') (hx:xs=xs'):w.ownsRow B T s v n' xs':=by rw[←hn,←hx];exact h
theorem aVC (n i:Nat):Value.int .u8 ((n:Int) / 2^(8*i)%256)= .int .u8 ((UInt8.ofNat (n / 256^i)).toNat:Int):=by
 have e:(256:Nat)^i=2^(8*i):=by rw[Nat.pow_mul]
 rw[e]
 simp
theorem aVT (B:Nat) (v:Value) (b:Bs) (n k:Nat) (w:World) (hn:n<18446744073709551616) (hk:k≤8) (hb:b.length≤1000000) (hB:B≤w.heap.size)
  (hown:w.ownsRow B 5 1 v b.length (cB b)):
  Calls Tryz.prog 143 #[v,.int .u64 n,.int .i64 k] w fun e w'=> ∃v',e= .returned v'∧w'.ownsRow B 5 1 v' (b++be k n).length (cB (b++be k n))∧Kp (v.ownBlock.toList) w w'∧ ∀g,v'.ownBlock=some g→v.ownBlock=some g∨w.heap.size≤g:=by
 obtain⟨i0,hi,hz0,hz1,hz2⟩:=info_parts aV0
 have HN:=hid hn
 clear hn
 go_enter Tryz.func143,Tryz.ntmps143
 go_wp2
 go_loopw [0,7] (fun u i wr=> ∃j:Nat,j≤k∧i= .int .i64 ((k:Int) -1-j)∧wr.ownsRow B 5 1 u (b++(be k n).take j).length (cB (b++(be k n).take j))∧Kp (v.ownBlock.toList) w wr∧ ∀g,u.ownBlock=some g→v.ownBlock=some g∨w.heap.size≤g) (fun _ i _=>(intOf i+1).toNat)
 case atStart=>exact⟨0,Nat.zero_le _,by simp,by simpa using hown,Kp.refl _ _,fun g hg=> .inl hg⟩
 case round=>
  obtain⟨j,hj,rfl,hown1,hb1,hg1⟩:=hrel
  have HG:=hid hg1
  clear hg1
  have hs:=hb1.size
  have hl:((be k n).take j).length=j:=by simp;omega
  by_cases hlt:j<k
  ·have hbyte:=hid (aVC n (k-1-j))
   go_wp2_with (at_builtin;refine wpList_append_own_at _ rfl _ _ 73 rfl B 5 i0 (.int .u8 0) 1 1 Tryz.underlying73 hi hz0 hz1 hz2 rfl (by decide) _ _ _ rfl (hown1.alloc _) ⟨wr.heap.size,0,none⟩ 1 1 [.int .u8 ((n:Int) / 2^(8*(k-1-j))%256)] rfl rfl ?c1 ?c2 ?c3 ?c4 ?c5 ?_)
   case c1=>exact aWg _ _ _ rfl
   case c2=>exact one1 rfl
   case c3=>simp[hl];unfold maxLen;omega
   case c4=>simp[hl];omega
   case c5=>simp;omega
   intro v' w1 hown' hgr _ hat
   go_wp2
   go_roundw
   case rel=>
    refine⟨j+1,by omega,by go_num,?_,?_,?_⟩
    ·rw[hbyte.out]at hown'
     rw[aTH k n j hlt,←List.append_assoc]
     exact aTN hown' (by simp;omega) (by simp[cB])
    ·exact(hb1.alloc _).grown hgr (fun g hg=>by simpa using HG.out g hg)
    ·intro g hg
     rcases hat with h|h
     ·exact HG.out g (h▸hg)
     ·rw[h]at hg;simp at hg;right;omega
   case measure=>simp[intOf];omega
  ·have hke:j=k:=by omega
   subst hke
   have ht:(be j n).take j=be j n:=List.take_of_length_le (by simp)
   rw[ht]at hown1
   go_wp2
   go_ret
   exact⟨_,rfl,hown1,hb1,HG.out⟩
end
section
open Go.RowKit
theorem aU2 (n k:Nat) (w:World) (hn:n<18446744073709551616) (hk:k≤8):
  Calls Tryz.prog 143 #[.slice none 0 0,.int .u64 n,.int .i64 k] w fun e w'=> ∃v',e= .returned v'∧(convert 73 9 v').run Tryz.prog w'= .ok (.string (S (be k n))) w'∧Below w.heap.size w w':=
 (aVT w.heap.size (.slice none 0 0) [] n k w hn hk (by simp) (Nat.le_refl _) (World.ownsRow_nil _ _ _ _)).mono fun e w' ⟨v',h1,h2,h3,_⟩=>
  ⟨v',h1,by have:=Xj h2;simpa using this,h3.nil_below⟩
theorem aUx (x:Int):IntKind.u64.wrap (IntKind.u64.wrap x+9223372036854775808)=(((x+9223372036854775808)%18446744073709551616).toNat:Int):=by
 rw[IntKind.wrap_u64,IntKind.wrap_u64];omega
theorem aU0 (n:Nat) (w:World) (hn:n<18446744073709551616):
  Calls Tryz.prog 111 #[.int .u64 n] w fun e w'=>e= .returned (.string (S (be 8 n)))∧Below w.heap.size w w':=by
 have HN:=hid hn
 clear hn
 go_enter Tryz.func111,Tryz.ntmps111
 go_wp2_with (go_at_call 143;refine(aU2 n 8 _ HN.out (by omega)).mono ?_;rintro e w1 ⟨v',rfl,hv,hb⟩)
 go_ret
 exact⟨rfl,by assumption⟩
theorem aUZ (x:Int) (w:World) (h0: -9223372036854775808≤x) (h1:x<9223372036854775808):
  Calls Tryz.prog 110 #[.int .i64 x] w fun e w'=>e= .returned (.string (S (X6 x)))∧Below w.heap.size w w':=by
 obtain⟨n,hn⟩: ∃n:Nat,n=(x+9223372036854775808).toNat:=⟨_,rfl⟩
 have hx:IntKind.u64.wrap (IntKind.u64.wrap x+9223372036854775808)=(n:Int):=by rw[aUx];omega
 have HN:Hid (n<18446744073709551616):=hid (by omega)
 have HE:Hid (X6 x=be 8 n):=hid (by rw[hn];rfl)
 clear hn h0 h1
 go_enter Tryz.func110,Tryz.ntmps110
 go_wp2_with (go_at_call 143;refine(aU2 n 8 _ HN.out (by omega)).mono ?_;rintro e w1 ⟨v',rfl,hv,hb⟩)
 go_ret
 exact⟨by rw[HE.out];rfl,by assumption⟩
end
section
open Go.RowKit Go.Lib
section
variable {α:Type} {enc:α→List Value} {k:Nat}
theorem aVv (h1: ∀x,∀u∈enc x,u.oneCell'=true) (l:List α): ∀u∈yv enc l,u.oneCell'=true:=by
 intro u hu
 obtain⟨x,_,hx⟩:=List.mem_flatMap.1 hu
 exact h1 x u hx
end
end
section
open Go.RowKit Go.Lib
theorem aT0 (t ty:TypeId) {α:Type} (enc:α→List Value) {e:TypeId} {z:Value} {size bytes:Nat} (hi:Inf e z size bytes) (ht:Tryz.prog.underlying t=some (.slice e))
  (hzs:z.cells.size=size) (hsz:0<size) (hby:bytes≤1000) (hk: ∀x,(enc x).length=size) (hone: ∀x,∀u∈enc x,u.oneCell'=true) {B:Nat} {W:World} {v xv:Value} {l l2:List α} {n:Nat} (hown:W.ownsRow B e size v n (yv enc l)) (hv2:Vw size enc W xv l2) (hn:n+l2.length≤100000) (hB:B≤W.heap.size):
  ∃v' w',(Builtin.append_ #[t,t] ty #[v,xv]).run Tryz.prog W= .ok v' w'∧w'.ownsRow B e size v' (n+l2.length) (yv enc (l++l2))∧Kp v.ownBlock.toList W w':=by
 obtain⟨i0,hi0,hz0,hz1,hz2⟩:=info_parts hi
 by_cases h0:l2=[]
 ·subst h0
  obtain⟨p,c,rfl,hc⟩:=hv2.slice
  have hsrc:Src Tryz.prog i0.size t (.slice p 0 c) 0 [] W:=by
   cases p with
   |none=>exact Src.ofNil W ht c
   |some ad=>exact Src.ofSlice W ht ad 0 c [] (by simp) (by simp) (by simp)
  have hvf: ∃base sLen sCap,v= .slice base sLen sCap∧sLen≤sCap:=by
   rcases hown.2 with⟨rfl,_⟩ | ⟨g,cap,cur,rfl,_,_,hnc,_⟩
   ·exact⟨_,_,_,rfl,Nat.le_refl _⟩
   ·exact⟨_,_,_,rfl,hnc⟩
  obtain⟨base,sLen,sCap,rfl,hle⟩:=hvf
  refine⟨_,W,?_,by simpa using hown,Kp.refl _ _⟩
  have hlen:=hsrc.len
  have hcells:=hsrc.cells
  rw[show([]:List α).length=0 from rfl]
  cases base<;>simp[Builtin.append_,run_underlying ht,sizeOf,typeInfo,hi0,hlen,hle,hcells,storeCells]
 ·obtain⟨b,off,c,rfl,hc,hb,hxx⟩:=hv2.ex h0
  obtain⟨v',w',hr,h2,h3,_⟩:=run_append_own (P:=Tryz.prog) W B t ty e i0 z size bytes ht hi0 hz0 hz1 hz2 hzs hsz v n _ hown ⟨b,off,none⟩ l2.length c (yv enc l2) (Kz hk l2) (fun j u hj=>by rw[Addr.add_lit];exact hv2.cells hk j u hj) (aVv hone l2) (by unfold maxLen;omega)
   (by
    have:(n+l2.length)*bytes≤100000*1000:=Nat.mul_le_mul (by omega) hby
    omega) hB
  exact⟨v',w',hr,by rw[Ky];exact h2,(Kp.refl _ W).grown h3 (fun g hg=> .inl (Option.mem_toList.2 hg))⟩
section
variable {ops:Array Oper} {o:Oper} {a:Act} {Q:Exit→Act→World→Prop} {α:Type} {e:TypeId} {z:Value} {size bytes:Nat} {B:Nat} {W:World} {v xv:Value} {l l2:List α} {n:Nat}
theorem aTO {K:Act→World→Prop} {E:Prop} (hgd:o.guard=none) (s x:Operand) (t:TypeId)
  (ho:o.op= .call { callee:= .builtin .append,args:= #[s,x],argTypes:= #[t,t] }) (enc:α→List Value) (hi:Inf e z size bytes) (ht:Tryz.prog.underlying t=some (.slice e))
  (hzs:z.cells.size=size) (hsz:0<size) (hby:bytes≤1000) (hk: ∀x,(enc x).length=size) (hone: ∀x,∀u∈enc x,u.oneCell'=true) (hown:W.ownsRow B e size v n (yv enc l)) (hv2:Vw size enc W xv l2) (hn:n+l2.length≤100000) (hB:B≤W.heap.size)
  (hs:a.eval s=v) (hx:a.eval x=xv)
  (h: ∀v' w',w'.ownsRow B e size v' (n+l2.length) (yv enc (l++l2))→Kp v.ownBlock.toList W w'→K (a.put o.dst v') w'):
  if Region.wanted o (yielded ops a.tmps)=true then Oper.wp Tryz.prog o a W K Q else E:=by
 rw[if_pos (by unfold Region.wanted;rw[hgd])]
 obtain⟨v',w',hr,h2,h3⟩:=aT0 t o.type enc hi ht hzs hsz hby hk hone hown hv2 hn hB
 unfold Oper.wp execOp
 simp only[ho,resolve,invoke,builtin,Sem.run_bind,Sem.run_pure,Result.andThen_ok,List.map_toArray,List.map_cons,List.map_nil,hs,hx,hr]
 exact h v' w' h2 h3
end
end
section
structure In where
 op:Int
 a:Int
 b:Int
 c:Int
def inC (x:In):List Value:=[.int .i64 x.op,.int .i64 x.a,.int .i64 x.b,.int .i64 x.c]
def rgB (n:Int):Bool:=decide (0≤n)&&decide (n≤7)
def plB (n len:Int):Bool:=decide (0≤n)&&decide (n≤len)
def vM (x:In) (len:Int):Bool:=
 if x.op=0 then true
 else if x.op=1 then rgB x.a
 else if x.op=2∨x.op=11∨x.op=13∨x.op=14 then rgB x.a&&rgB x.b
 else if(3≤x.op∧x.op≤8)∨x.op=12 then rgB x.a&&(rgB x.b&&rgB x.c)
 else if x.op=9 then plB x.a len
 else if x.op=10 then rgB x.a&&plB x.b len
 else false
def xf (p:List In):Bool:=p.all (fun x=>vM x p.length)&&(decide (1≤p.length)&&decide (p.length≤48))
structure Ini where
 t:Nat
 dst:Int
 pay:Int
def aay (x:Ini):List Value:=[.float .f64 x.t,.int .i64 x.dst,.int .i64 x.pay]
def okZ (z:Int):Prop:= -9223372036854775808≤z∧z<9223372036854775808
def In.ok (y:In):Prop:=okZ y.op∧okZ y.a∧okZ y.b∧okZ y.c
def Ini.ok (y:Ini):Prop:=y.t<18446744073709551616∧okZ y.dst∧okZ y.pay
structure Mdl where
 seed:Int
 en:Nat
 dl:List Nat
 pr:List (List In)
 lp:List (Int×List Int)
 ini:List Ini
def X1 (m:Mdl):Bool:=decide (1≤m.lp.length∧m.lp.length≤6∧1≤m.pr.length∧m.pr.length≤4∧1≤m.dl.length∧m.dl.length≤8∧m.ini.length≤16)&& !jm m.en
def dlB (d:Nat):Bool:=fgt d 0
def lpB (n:Nat) (x:Int×List Int):Bool:=decide (0≤x.1∧x.1<n∧x.2.length≤8)
def aRS (n:Nat) (x:Ini):Bool:= !jm x.t&&decide (0≤x.dst∧x.dst<n)
def yM (m:Mdl):Bool:=X1 m&&(m.dl.all dlB&&(m.pr.all xf&&(m.lp.all (lpB m.pr.length)&&m.ini.all (aRS m.lp.length))))
def aS2 (m:Mdl):Bool:=decide (m.pr.length≤10∧m.lp.length≤20∧m.dl.length≤60∧m.ini.length≤60)&&(m.pr.all (fun p=>decide (p.length≤100))&&m.lp.all fun x=>decide (x.2.length≤60))
end
section
def zv (c:UInt8):Bs→List Bs
 | []=>[[]]
 |b::l=>if b=c then []::zv c l else
  match zv c l with
  | []=>[[b]]
  |p::ps=>(b::p)::ps
theorem xM (c b:UInt8) (l:Bs):zv c (b::l)=if b=c then []::zv c l else match zv c l with
  | []=>[[b]]
  |p::ps=>(b::p)::ps:=by rw[zv]
theorem ahw {c:UInt8} {p:Bs} (h: ∀b∈p,b≠c):zv c p=[p]:=by
 induction p with
 |nil=>rfl
 |cons b l ih=>
  rw[xM,if_neg (h b (by simp)),ih fun x hx=>h x (by simp[hx])]
theorem abU {c:UInt8} {p r:Bs} (h: ∀b∈p,b≠c):zv c (p++c::r)=p::zv c r:=by
 induction p with
 |nil=>simp[zv]
 |cons b l ih=>
  show zv c (b::(l++c::r))=_
  rw[xM,if_neg (h b (by simp)),ih fun x hx=>h x (by simp[hx])]
theorem xz (c:UInt8) (l:Bs):(zv c l).length≤l.length+1:=by
 induction l with
 |nil=>simp[zv]
 | cons b l ih=>
  rw[xM]
  split
  ·simp;omega
  ·split
   ·simp
   ·next h=>rw[h]at ih;simp at ih⊢;omega
theorem jH {c:UInt8} {l p:Bs} (h:p∈zv c l):p.length≤l.length:=by
 induction l generalizing p with
 |nil=>simp[zv]at h;simp[h]
 | cons b l ih=>
  rw[xM]at h
  split at h
  ·rcases List.mem_cons.1 h with rfl|h
   ·simp
   ·have:=ih h;simp;omega
  ·split at h
   ·simp at h;simp[h]
   ·next e=>
    rcases List.mem_cons.1 h with rfl|h
    ·have:=ih (by rw[e];exact List.mem_cons_self ..);simp;omega
    ·have:=ih (by rw[e];exact List.mem_cons_of_mem _ h);simp;omega
theorem jq (c:UInt8) (l:Bs):zv c l≠[]:=by
 cases l with
 |nil=>simp[zv]
 |cons b l=>
  rw[xM]
  split
  ·simp
  ·split<;>simp
def aal (b:UInt8):Bool:=decide (48≤b.toNat)&&decide (b.toNat≤57)
def QL (l:Bs):Nat:=l.foldl (fun n b=>n*10+(b.toNat-48)) 0
def yR (w:Bs):Option Nat:=if w≠[]∧w.all aal=true∧(w.getD 0 0≠48∨w.length=1)∧QL w≤1099511627776 then some (QL w)else none
theorem aij (l:Bs) (b:UInt8):QL (l++[b])=QL l*10+(b.toNat-48):=by simp[QL]
def Zl (n:Nat):Bs:=if h:n<10 then [UInt8.ofNat (48+n)]else Zl (n / 10)++[UInt8.ofNat (48+n%10)]
termination_by n
decreasing_by omega
def Xb (x:Int):Bs:=if x<0 then 45::Zl (-x).toNat else Zl x.toNat
def aSy (n:Nat):UInt8:=UInt8.ofNat (if n<10 then 48+n else 87+n)
def aTs (l:Bs):Bs:=l.flatMap fun b=>[aSy (b.toNat / 16),aSy (b.toNat%16)]
def aTG (l:Bs):Bs:=if l=[]then [45]else aTs l
def xu (c:UInt8):Option Nat:=if 48≤c.toNat∧c.toNat≤57 then some (c.toNat-48)else if 97≤c.toNat∧c.toNat≤102 then some (c.toNat-87)else none
def qs:Bs→Option Bs
 | []=>some []
 | [_]=>none
 |a::b::r=>match xu a,xu b,qs r with
  |some x,some y,some z=>some (UInt8.ofNat (16*x+y)::z)
  |_,_,_=>none
def xr (w:Bs):Option Bs:=if w=[45]then some []else if w=[]then none else qs w
def XV (l:List Bool):Bs:=if l=[]then [45]else l.map fun b=>if b then 121 else 110
def aca (b:UInt8):Bool:=decide (b=121) || decide (b=110)
def zX (w:Bs):Option (List Bool):=if w=[45]then some []else if w.all aca=true∧1≤w.length∧w.length≤64 then some (w.map fun b=>decide (b=121))else none
def kw (k:Nat):Bs:=match k with
 |1=>[100,101,108,105,118,101,114]
 |2=>[119,111,114,107]
 |3=>[114,111,117,110,100]
 |4=>[101,118,105,99,116]
 |5=>[108,97,122,121]
 |6=>[97,114,109]
 |7=>[99,114,97,115,104]
 |8=>[115,116,97,114,116]
 |9=>[100,114,105,118,101]
 |_=>[]
def zh (w:Bs):Nat:=if w=kw 1 then 1 else if w=kw 2 then 2 else if w=kw 3 then 3 else if w=kw 4 then 4 else if w=kw 5 then 5 else if w=kw 6 then 6 else if w=kw 7 then 7 else if w=kw 8 then 8 else if w=kw 9 then 9 else 0
structure Ac where
 kind:Int
 n:Int
 keep:List Bool
 torn:Int
 bytes:Int
def xD (ws:List Bs):Option Ac:=
 let k:=zh (ws.getD 0 [])
 if k=0 then none
 else if k=3 then(if ws.length=1 then some ⟨3,0,[],0,0⟩else none)
 else if k=7 then(if ws.length=4 then
  match zX (ws.getD 1 []),yR (ws.getD 2 []),yR (ws.getD 3 [])with
  |some b,some t,some n=>some ⟨7,0,b,t,n⟩
  |_,_,_=>none
  else none)
 else if ws.length=2 then(match yR (ws.getD 1 [])with
  |some n=>some ⟨k,n,[],0,0⟩
  |none=>none)
 else none
def YH (x:Int):Bool:=decide (0≤x)&&decide (x≤1099511627776)
def kwI (k:Int):Bs:=kw k.toNat
def aos (a:Ac):List Bs:=if a.kind=3 then [kwI a.kind]else if a.kind=7 then [kwI a.kind,XV a.keep,Xb a.torn,Xb a.bytes]else [kwI a.kind,Xb a.n]
def okA (a:Ac):Bool:=decide (1≤a.kind∧a.kind≤9)&&(if a.kind=3 then true else if a.kind=7 then YH a.torn&&(YH a.bytes&&decide (a.keep.length≤64))else YH a.n)
def abI:List Bs→Bs
 | []=>[]
 | [p]=>p
 |p::q::r=>p++32::abI (q::r)
def kH (a:Ac):Bs:=if 1≤a.kind∧a.kind≤9 then abI (aos a)else []
structure Scr where
 sec:Int
 fr:Int
 m:Mdl
 acts:List Ac
def agP (x:Nat):Bs:=be 8 x
def aRU (x:In):Bs:=X6 x.op++X6 x.a++X6 x.b++X6 x.c
def abK {α:Type} (one:α→Bs) (l:List α):Bs:=X6 l.length++l.flatMap one
def aRT (x:Ini):Bs:=agP x.t++X6 x.dst++X6 x.pay
def aUU (x:Int×List Int):Bs:=X6 x.1++abK X6 x.2
def aTe (m:Mdl):Bs:=X6 m.seed++agP m.en++abK agP m.dl++abK (abK aRU) m.pr++abK aUU m.lp++abK aRT m.ini
abbrev Rd (α:Type):=Bs→Option Nat→α×Option Nat
def rdI:Rd Int:=fun s st=>match st with
 |none=>(0,none)
 |some a=>if a+8≤s.length then((jY ((s.drop a).take 8):Int) -9223372036854775808,some (a+8))else(0,none)
def rdF:Rd Nat:=fun s st=>match st with
 |none=>(0,none)
 |some a=>if a+8≤s.length then(jY ((s.drop a).take 8),some (a+8))else(0,none)
def rdN {α:Type} (one:Rd α):Nat→Rd (List α)
 |0,_,st=>([],st)
 |n+1,s,st=>match st with
  |none=>([],none)
  |some a=>((one s (some a)).1::(rdN one n s (one s (some a)).2).1,(rdN one n s (one s (some a)).2).2)
def rdC:Rd Int:=fun s st=>match(rdI s st).2 with
 |none=>((rdI s st).1,none)
 |some a=>if 0≤(rdI s st).1∧(rdI s st).1≤48 then((rdI s st).1,some a)else((rdI s st).1,none)
def rdL {α:Type} (one:Rd α):Rd (List α):=fun s st=>rdN one (rdC s st).1.toNat s (rdC s st).2
def xR:Rd In:=fun s st=>
 let a:=rdI s st;let b:=rdI s a.2;let c:=rdI s b.2;let d:=rdI s c.2
 (⟨a.1,b.1,c.1,d.1⟩,d.2)
def acb:Rd (Int×List Int):=fun s st=>
 let a:=rdI s st;let b:=rdL rdI s a.2
 ((a.1,b.1),b.2)
def YO:Rd Ini:=fun s st=>
 let a:=rdF s st;let b:=rdI s a.2;let c:=rdI s b.2
 (⟨a.1,b.1,c.1⟩,c.2)
def rdM:Rd Mdl:=fun s st=>
 let a:=rdI s st;let b:=rdF s a.2;let c:=rdL rdF s b.2;let d:=rdL (rdL xR) s c.2;let e:=rdL acb s d.2;let f:=rdL YO s e.2
 (⟨a.1,b.1,c.1,d.1,e.1,f.1⟩,f.2)
def jE (s:Bs):Option Mdl:=if(rdM s (some 0)).2=some s.length∧yM (rdM s (some 0)).1=true then some (rdM s (some 0)).1 else none
def yg (ws:List Bs):Option Scr:=
 if ws.length=4∧ws.getD 0 []=[119,111,114,108,100]then
  match yR (ws.getD 1 []),yR (ws.getD 2 []),xr (ws.getD 3 [])with
  |some n,some f,some s=>(match jE s with
   |some m=>some ⟨n,f,m,[]⟩
   |none=>none)
  |_,_,_=>none
 else none
inductive PR where
 |full
 |line (n:Nat)
 |ok (s:Scr)
def goL (n:Nat):Nat→Option Scr→List Bs→PR
 |_,none,[]=> .line n
 |_,some s,[]=> .ok s
 | i,st,l::r=>
  if l=[]then goL n (i+1) st r
  else if []∈zv 32 l then .line i
  else match st with
   |none=>(match yg (zv 32 l)with
    |none=> .line i
    |some h=>goL n (i+1) (some h) r)
   |some s=>(match xD (zv 32 l)with
    |none=> .line i
    |some a=>goL n (i+1) (some { s with acts:=s.acts++[a] }) r)
def qW (s:Bs):PR:=if 1024<(zv 10 s).length then .full else goL (zv 10 s).length 0 none (zv 10 s)
def Kc (s:Scr):Bs:=abI [[119,111,114,108,100],Xb s.sec,Xb s.fr,aTG (aTe s.m)]++[10]
def aTB (s:Scr):Bs:=Kc s++s.acts.flatMap fun a=>kH a++[10]
def qc (s:Scr):Int:=if yM s.m=false then 15 else if(YH s.sec&&YH s.fr)=false then 2 else if s.acts.all okA=false then 2 else if 1024<s.acts.length+2 then 11 else 0
def qk (s:Scr):Bs:=if qc s=0 then aTB s else []
def YP (a b:Nat):Bool:=if jm a || jm b then jm a&&jm b else decide (a=b)
def aa0 (a b:In):Bool:=decide (a.op=b.op)&&(decide (a.a=b.a)&&(decide (a.b=b.b)&&decide (a.c=b.c)))
def vX {α:Type} (f:α→α→Bool):List α→List α→Bool
 | [],[]=>true
 |a::l,b::r=>f a b&&vX f l r
 |_,_=>false
def ahV (a b:Int×List Int):Bool:=decide (a.1=b.1)&&vX (fun x y=>decide (x=y)) a.2 b.2
def KB (a b:Ini):Bool:=YP a.t b.t&&(decide (a.dst=b.dst)&&decide (a.pay=b.pay))
def ab1 (a b:Mdl):Bool:=decide (a.seed=b.seed)&&(YP a.en b.en&&(vX YP a.dl b.dl&&(vX (vX aa0) a.pr b.pr&&(vX ahV a.lp b.lp&&vX KB a.ini b.ini))))
def aju (a b:Ac):Bool:=decide (kH a=kH b)&&decide (okA a=okA b)
def ahW (a b:Scr):Bool:=decide (a.sec=b.sec)&&(decide (a.fr=b.fr)&&(ab1 a.m b.m&&vX aju a.acts b.acts))
end
section
theorem aWi {n:Nat} {b:UInt8} (h:n%256≠b.toNat):UInt8.ofNat n≠b:=fun e=>h (by rw[←e];simp)
theorem V8 {n:Nat} (h:n<10):Zl n=[UInt8.ofNat (48+n)]:=by rw[Zl,dif_pos h]
theorem agw {n:Nat} (h: ¬n<10):Zl n=Zl (n / 10)++[UInt8.ofNat (48+n%10)]:=by rw[Zl,dif_neg h]
theorem aTU (n:Nat):Zl n≠[]:=by
 by_cases h:n<10
 ·rw[V8 h];simp
 ·rw[agw h];simp
theorem aU6 (n:Nat):QL (Zl n)=n:=by
 induction n using Nat.strongRecOn with
 |_ n ih=>
  by_cases h:n<10
  ·rw[V8 h];simp[QL];omega
  ·rw[agw h,aij,ih (n / 10) (by omega)];simp;omega
theorem aTg (n:Nat): ∀b∈Zl n,aal b=true:=by
 induction n using Nat.strongRecOn with
 | _ n ih=>
  intro b hb
  by_cases h:n<10
  ·rw[V8 h]at hb;simp at hb;subst hb;simp[aal];omega
  ·rw[agw h]at hb
   rcases List.mem_append.1 hb with hb|hb
   ·exact ih (n / 10) (by omega) b hb
   ·simp at hb;subst hb;simp[aal];omega
theorem aUC (n:Nat) (h1:1≤n):(Zl n).getD 0 0≠48:=by
 induction n using Nat.strongRecOn with
 | _ n ih=>
  by_cases h:n<10
  ·rw[V8 h]
   exact aWi (b:=48) (by show(48+n)%256≠48;omega)
  ·rw[agw h]
   have:=ih (n / 10) (by omega) (by omega)
   rw[List.getD_eq_getElem?_getD]at this⊢
   rw[List.getElem?_append_left (List.length_pos_iff.2 (aTU _))]
   exact this
theorem aSZ {n:Nat} (h:n≤1099511627776):yR (Zl n)=some n:=by
 unfold yR
 have h2:(Zl n).getD 0 0≠48∨(Zl n).length=1:=by
  by_cases h1:n<10
  ·rw[V8 h1];exact .inr rfl
  ·exact .inl (aUC n (by omega))
 rw[aU6,if_pos ⟨aTU n,List.all_eq_true.2 (aTg n),h2,h⟩]
theorem aam {x:Int} (h:YH x=true):Xb x=Zl x.toNat∧x.toNat≤1099511627776∧(x.toNat:Int)=x:=by
 unfold YH at h
 simp only[Bool.and_eq_true,decide_eq_true_eq]at h
 unfold Xb
 rw[if_neg (by omega)]
 exact⟨rfl,by omega,by omega⟩
theorem aTJ: ∀n,n<16→xu (aSy n)=some n:=by decide
theorem aSY (b:UInt8) (l:Bs):aTs (b::l)=aSy (b.toNat / 16)::aSy (b.toNat%16)::aTs l:=rfl
theorem aTY (l:Bs):qs (aTs l)=some l:=by
 induction l with
 |nil=>rfl
 |cons b l ih=>
  have hb:=b.toNat_lt
  rw[aSY,qs,aTJ _ (by omega),aTJ _ (by omega),ih]
  have:16*(b.toNat / 16)+b.toNat%16=b.toNat:=by omega
  simp only[this,UInt8.ofNat_toNat]
theorem aT2 (l:Bs):xr (aTG l)=some l:=by
 unfold xr aTG
 cases l with
 |nil=>simp
 |cons b l=>
  have e1: ¬aTs (b::l)=[45]:=by rw[aSY];simp
  have e2: ¬aTs (b::l)=[]:=by rw[aSY];simp
  rw[if_neg (show¬b::l=[]by simp),if_neg e1,if_neg e2]
  exact aTY _
theorem aTC {l:List Bool} (h:l.length≤64):zX (XV l)=some l:=by
 unfold zX XV
 cases l with
 |nil=>simp
 | cons b l=>
  have e1: ¬(List.map (fun b=>if b=true then(121:UInt8)else 110) (b::l)=[45]):=by cases b<;>simp
  simp only[if_neg (show¬b::l=[]by simp)]
  have e3:(List.map (fun b=>if b=true then(121:UInt8)else 110) (b::l)).all aca=true:=by
   rw[List.all_eq_true]
   intro x hx
   obtain⟨y,_,rfl⟩:=List.mem_map.1 hx
   cases y<;>decide
  rw[if_neg e1,if_pos ⟨e3,by simp,by simpa using h⟩]
  congr 1
  rw[List.map_map]
  refine(List.map_congr_left (g:=id) (fun x _=>?_)).trans (List.map_id _)
  cases x<;>decide
def aTp (b:UInt8):Prop:=b≠32∧b≠10
theorem aTQ {b:UInt8} (h:aal b=true):aTp b:=by
 unfold aal at h
 simp only[Bool.and_eq_true,decide_eq_true_eq]at h
 constructor
 ·rintro rfl;revert h;decide
 ·rintro rfl;revert h;decide
theorem aSV (x:Int): ∀b∈Xb x,aTp b:=by
 intro b hb
 unfold Xb at hb
 split at hb
 ·rcases List.mem_cons.1 hb with rfl|hb
  ·exact⟨by decide,by decide⟩
  ·exact aTQ (aTg _ b hb)
 ·exact aTQ (aTg _ b hb)
theorem aTx: ∀n,n<16→(aSy n≠32∧aSy n≠10):=by decide
theorem aUw (l:Bs): ∀b∈aTG l,aTp b:=by
 intro b hb
 unfold aTG at hb
 split at hb
 ·simp at hb;subst hb;exact⟨by decide,by decide⟩
 ·unfold aTs at hb
  obtain⟨x,_,hx⟩:=List.mem_flatMap.1 hb
  have:=x.toNat_lt
  simp at hx
  rcases hx with rfl|rfl
  ·exact aTx _ (by omega)
  ·exact aTx _ (by omega)
theorem aT3 (l:List Bool): ∀b∈XV l,aTp b:=by
 intro b hb
 unfold XV at hb
 split at hb
 ·simp at hb;subst hb;exact⟨by decide,by decide⟩
 ·obtain⟨x,_,rfl⟩:=List.mem_map.1 hb
  cases x<;>exact⟨by decide,by decide⟩
theorem aTE (k:Nat): ∀b∈kw k,aTp b:=by
 unfold kw aTp
 split<;>decide
theorem aTi (x:Int):Xb x≠[]:=by
 unfold Xb;split
 ·simp
 ·exact aTU _
theorem aVH (l:Bs):aTG l≠[]:=by
 unfold aTG
 split
 ·simp
 ·next h=>cases l with
  |nil=>exact absurd rfl h
  |cons b l=>rw[aSY];simp
theorem aVb (l:List Bool):XV l≠[]:=by
 unfold XV
 split
 ·simp
 ·next h=>simpa using h
theorem aV1 {k:Nat} (h:1≤k) (h2:k≤9):kw k≠[]:=by
 obtain rfl|rfl|rfl|rfl|rfl|rfl|rfl|rfl|rfl:k=1∨k=2∨k=3∨k=4∨k=5∨k=6∨k=7∨k=8∨k=9:=by omega
 all_goals decide
theorem aUH {k:Nat} (h:1≤k) (h2:k≤9):zh (kw k)=k:=by
 obtain rfl|rfl|rfl|rfl|rfl|rfl|rfl|rfl|rfl:k=1∨k=2∨k=3∨k=4∨k=5∨k=6∨k=7∨k=8∨k=9:=by omega
 all_goals decide
theorem aTu {ws:List Bs} (h0:ws≠[]) (h: ∀p∈ws,∀b∈p,b≠32):zv 32 (abI ws)=ws:=by
 induction ws with
 |nil=>exact absurd rfl h0
 | cons p r ih=>
  cases r with
  |nil=>exact ahw (h p (by simp))
  |cons q r=>
   show zv 32 (p++32::abI (q::r))=_
   rw[abU (h p (by simp)),ih (by simp) fun x hx=>h x (by simp[hx])]
theorem aTk {ws:List Bs} (h: ∀p∈ws,∀b∈p,aTp b): ∀b∈abI ws,b≠10:=by
 induction ws with
 |nil=>intro b hb;simp[abI]at hb
 | cons p r ih=>
  cases r with
  |nil=>exact fun b hb=>(h p (by simp) b hb).2
  | cons q r=>
   intro b hb
   have hb:b∈p++32::abI (q::r):=hb
   rcases List.mem_append.1 hb with hb|hb
   ·exact(h p (by simp) b hb).2
   ·rcases List.mem_cons.1 hb with rfl|hb
    ·decide
    ·exact ih (fun x hx=>h x (by simp[hx])) b hb
theorem aTn (a:Ac): ∀p∈aos a,∀b∈p,aTp b:=by
 intro p hp
 unfold aos kwI at hp
 split at hp
 ·simp at hp;subst hp;exact aTE _
 ·split at hp
  ·simp at hp
   rcases hp with rfl|rfl|rfl|rfl
   ·exact aTE _
   ·exact aT3 _
   ·exact aSV _
   ·exact aSV _
  ·simp at hp
   rcases hp with rfl|rfl
   ·exact aTE _
   ·exact aSV _
theorem aVy (a:Ac):aos a≠[]:=by
 unfold aos
 split
 ·simp
 ·split<;>simp
theorem aVz (a:Ac) (h:1≤a.kind∧a.kind≤9):([]:Bs)∉aos a:=by
 have hk:kwI a.kind≠[]:=aV1 (by omega) (by omega)
 unfold aos
 split
 ·simpa using Ne.symm hk
 ·split
  ·simp only[List.mem_cons,List.not_mem_nil,or_false,not_or]
   exact⟨Ne.symm hk,Ne.symm (aVb _),Ne.symm (aTi _),Ne.symm (aTi _)⟩
  ·simp only[List.mem_cons,List.not_mem_nil,or_false,not_or]
   exact⟨Ne.symm hk,Ne.symm (aTi _)⟩
theorem aTA {a:Ac} (h:okA a=true):1≤a.kind∧a.kind≤9:=by
 unfold okA at h
 simp only[Bool.and_eq_true,decide_eq_true_eq]at h
 exact h.1
theorem aVK (a:Ac) (h:1≤a.kind∧a.kind≤9):abI (aos a)≠[]:=by
 have hk:kwI a.kind≠[]:=aV1 (by omega) (by omega)
 unfold aos
 split
 ·exact hk
 ·split<;>simp[abI]
theorem aVa {a:Ac} (h:okA a=true): ∃a',xD (aos a)=some a'∧aju a' a=true:=by
 have hk:=aTA h
 have hkk:zh (kwI a.kind)=a.kind.toNat:=aUH (by omega) (by omega)
 have h':=h
 unfold okA at h'
 simp only[Bool.and_eq_true,decide_eq_true_eq]at h'
 obtain⟨_,h2⟩:=h'
 have same: ∀a':Ac,a'.kind=a.kind→aos a'=aos a→okA a'=true→aju a' a=true:=by
  intro a' e1 e2 e3
  unfold aju kH
  rw[e1,e2,e3,h]
  simp
 by_cases h3:a.kind=3
 ·refine⟨⟨3,0,[],0,0⟩,?_,same _ h3.symm (by unfold aos;rw[if_pos rfl,if_pos h3,h3]) (by decide)⟩
  unfold aos
  rw[if_pos h3]
  unfold xD
  rw[show([kwI a.kind]:List Bs).getD 0 []=kwI a.kind from rfl,hkk,h3]
  rfl
 ·rw [if_neg h3]at h2
  by_cases h7:a.kind=7
  ·rw[if_pos h7]at h2
   simp only[Bool.and_eq_true,decide_eq_true_eq]at h2
   obtain⟨t1,t2,t3⟩:=h2
   obtain⟨d1,d2,d3⟩:=aam t1
   obtain⟨f1,f2,f3⟩:=aam t2
   refine⟨⟨7,0,a.keep,a.torn,a.bytes⟩,?_,same _ h7.symm (by unfold aos;rw[if_neg (by simp),if_pos rfl,if_neg h3,if_pos h7,h7]) ?_⟩
   ·unfold aos
    rw[if_neg h3,if_pos h7]
    unfold xD
    rw[show([kwI a.kind,XV a.keep,Xb a.torn,Xb a.bytes]:List Bs).getD 0 []=kwI a.kind from rfl,hkk,h7]
    show(match zX (XV a.keep),yR (Xb a.torn),yR (Xb a.bytes)with
     |some b,some t,some n=>some (⟨7,0,b,t,n⟩:Ac)
     |_,_,_=>none)=_
    rw[aTC t3,d1,f1,aSZ d2,aSZ f2]
    simp only[d3,f3]
   ·unfold okA
    simp[t1,t2,t3]
  ·rw[if_neg h7]at h2
   obtain⟨d1,d2,d3⟩:=aam h2
   refine⟨⟨a.kind,a.n,[],0,0⟩,?_,same _ rfl (by unfold aos;rw[if_neg h3,if_neg h7,if_neg h3,if_neg h7]) ?_⟩
   ·unfold aos
    rw[if_neg h3,if_neg h7]
    unfold xD
    rw[show([kwI a.kind,Xb a.n]:List Bs).getD 0 []=kwI a.kind from rfl,hkk]
    simp only[]
    rw[if_neg (by omega),if_neg (by omega),if_neg (by omega)]
    show(match yR (Xb a.n)with
     |some n=>some (⟨(a.kind.toNat:Int),n,[],0,0⟩:Ac)
     |none=>none)=_
    rw[d1,aSZ d2]
    simp only[d3]
    rw[show((a.kind.toNat:Nat):Int)=a.kind by omega]
   ·unfold okA
    rw[if_neg h3,if_neg h7,h2]
    simp[hk]
theorem aBz {w:Bs} {n:Nat} (h:yR w=some n):n≤1099511627776:=by
 unfold yR at h
 split at h
 ·next e=>injection h with h;rw[←h];exact e.2.2.2
 ·cases h
theorem vQ {w:Bs} {n:Nat} (h:yR w=some n):YH n=true:=by
 have:=aBz h
 unfold YH
 simp only[Bool.and_eq_true,decide_eq_true_eq]
 omega
theorem ab8 {w:Bs} {l:List Bool} (h:zX w=some l):l.length≤64:=by
 unfold zX at h
 split at h
 ·injection h with h;rw[←h];simp
 ·split at h
  ·next e=>injection h with h;rw[←h];simpa using e.2.2
  ·cases h
theorem vO (w:Bs):zh w≤9:=by
 unfold zh
 repeat' split
 all_goals omega
theorem aox {ws:List Bs} {a:Ac} (h:xD ws=some a):okA a=true:=by
 unfold xD at h
 simp only[]at h
 have hle:=vO (ws.getD 0 [])
 generalize zh (ws.getD 0 [])=k at h hle
 split at h
 ·cases h
 ·next k0=>
  split at h
  ·split at h
   ·injection h with h;subst h;decide
   ·cases h
  ·next k3=>
   split at h
   ·split at h
    ·split at h
     ·next e1 e2 e3=>
      injection h with h;subst h
      have:=ab8 e1
      unfold okA
      simp[vQ e2,vQ e3,this]
     ·cases h
    ·cases h
   ·next k7=>
    split at h
    ·split at h
     ·next e1=>
      injection h with h;subst h
      unfold okA
      simp only[vQ e1]
      rw[if_neg (by omega),if_neg (by omega)]
      simp
      omega
     ·cases h
    ·cases h
/-! bytes of models -/
structure AtB (s:Bs) (a:Nat) (r:Bs):Prop where
 d:s.drop a=r
 l:a+r.length=s.length
theorem AtB.step {s r:Bs} {a:Nat} {p:Bs} (h:AtB s a (p++r)):AtB s (a+p.length) r:=by
 obtain⟨h1,h2⟩:=h
 refine⟨by rw[←List.drop_drop,h1,List.drop_left],by simp at h2;omega⟩
theorem AtB.take {s r:Bs} {a:Nat} {p:Bs} (h:AtB s a (p++r)):(s.drop a).take p.length=p∧a+p.length≤s.length:=by
 obtain⟨h1,h2⟩:=h
 exact⟨by rw[h1,List.take_left],by simp at h2;omega⟩
def Rds {α:Type} (one:Rd α) (enc:α→Bs) (x:α):Prop:= ∀s a r,AtB s a (enc x++r)→one s (some a)=(x,some (a+(enc x).length))
theorem aTo {x:Int} (h:okZ x):Rds rdI X6 x:=by
 intro s a r hA
 obtain⟨h1,h2⟩:=hA.take
 rw[aAY]at h1 h2
 unfold rdI
 simp only[]
 rw[if_pos h2,h1,aAY,aU5 h.1 h.2]
 congr 1
 omega
theorem aVU {x:Nat} (h:x<18446744073709551616):Rds rdF agP x:=by
 intro s a r hA
 unfold agP at hA⊢
 obtain⟨h1,h2⟩:=hA.take
 rw[aL0]at h1 h2
 unfold rdF
 simp only[]
 rw[if_pos h2,h1,aL0,aU4,Nat.mod_eq_of_lt (by simpa using h)]
theorem aWh {α:Type} {one:Rd α} {enc:α→Bs} {l:List α} (h: ∀x∈l,Rds one enc x): ∀s a r,AtB s a (l.flatMap enc++r)→rdN one l.length s (some a)=(l,some (a+(l.flatMap enc).length)):=by
 induction l with
 |nil=>intro s a r hA;rfl
 |cons x l ih=>
  intro s a r hA
  rw[List.flatMap_cons,List.append_assoc]at hA
  have e:=h x (by simp) s a _ hA
  show((one s (some a)).1::(rdN one l.length s (one s (some a)).2).1,(rdN one l.length s (one s (some a)).2).2)=_
  rw[e]
  simp only[]
  rw[ih (fun y hy=>h y (by simp[hy])) s _ r hA.step,List.flatMap_cons,List.length_append,Nat.add_assoc]
theorem aUt {α:Type} {one:Rd α} {enc:α→Bs} {l:List α} (h: ∀x∈l,Rds one enc x) (hl:l.length≤48):Rds (rdL one) (abK enc) l:=by
 intro s a r hA
 unfold abK at hA
 rw[List.append_assoc]at hA
 have e:=aTo (x:=(l.length:Int)) (by unfold okZ;omega) s a _ hA
 have ec:rdC s (some a)=((l.length:Int),some (a+(X6 (l.length:Int)).length)):=by
  unfold rdC
  rw[e]
  simp only[]
  rw[if_pos (by omega)]
 unfold rdL
 rw[ec]
 simp only[Int.toNat_natCast]
 rw[aWh h s _ r hA.step]
 unfold abK
 rw[List.length_append,Nat.add_assoc]
def aSD (x:Int×List Int):Prop:=okZ x.1∧ ∀y∈x.2,okZ y
structure Mdl.ok (m:Mdl):Prop where
 seed:okZ m.seed
 en:m.en<18446744073709551616
 dl: ∀x∈m.dl,x<18446744073709551616
 pr: ∀p∈m.pr,∀x∈p,x.ok
 lp: ∀x∈m.lp,aSD x
 ini: ∀x∈m.ini,x.ok
theorem aV3 {x:In} (h:x.ok):Rds xR aRU x:=by
 intro s a r hA
 unfold aRU at hA⊢
 simp only[List.append_assoc]at hA
 have e1:=aTo h.1 s a _ hA
 have e2:=aTo h.2.1 s _ _ hA.step
 have e3:=aTo h.2.2.1 s _ _ hA.step.step
 have e4:=aTo h.2.2.2 s _ _ hA.step.step.step
 unfold xR
 simp only[e1,e2,e3,e4]
 simp[Nat.add_assoc]
theorem aV4 {x:Int×List Int} (h:aSD x) (hl:x.2.length≤48):Rds acb aUU x:=by
 intro s a r hA
 unfold aUU at hA⊢
 simp only[List.append_assoc]at hA
 have e1:=aTo h.1 s a _ hA
 have e2:=aUt (fun y hy=>aTo (h.2 y hy)) hl s _ _ hA.step
 unfold acb
 simp only[e1,e2]
 simp[Nat.add_assoc]
theorem aVV {x:Ini} (h:x.ok):Rds YO aRT x:=by
 intro s a r hA
 unfold aRT at hA⊢
 simp only[List.append_assoc]at hA
 have e1:=aVU h.1 s a _ hA
 have e2:=aTo h.2.1 s _ _ hA.step
 have e3:=aTo h.2.2 s _ _ hA.step.step
 unfold YO
 simp only[e1,e2,e3]
 simp[Nat.add_assoc]
theorem aUc {p:List In} (h:xf p=true):p.length≤48:=by
 unfold xf at h
 simp only[Bool.and_eq_true,decide_eq_true_eq]at h
 exact h.2.2
theorem aUE {m:Mdl} (hm:m.ok) (hc:yM m=true):jE (aTe m)=some m:=by
 have hc':=hc
 unfold yM X1 at hc'
 simp only[Bool.and_eq_true,decide_eq_true_eq,List.all_eq_true]at hc'
 obtain⟨⟨⟨n1,n2,n3,n4,n5,n6,n7⟩,_⟩,_,c2,c3,_⟩:=hc'
 have hA:AtB (aTe m) 0 (X6 m.seed++(agP m.en++(abK agP m.dl++(abK (abK aRU) m.pr++(abK aUU m.lp++(abK aRT m.ini++[])))))):=by
  refine⟨by unfold aTe;simp,by unfold aTe;simp⟩
 have e1:=aTo hm.seed _ _ _ hA
 have e2:=aVU hm.en _ _ _ hA.step
 have e3:=aUt (fun y hy=>aVU (hm.dl y hy)) (by omega) _ _ _ hA.step.step
 have e4:=aUt (fun y hy=>aUt (fun z hz=>aV3 (hm.pr y hy z hz)) (aUc (c2 y hy))) (by omega) _ _ _ hA.step.step.step
 have e5:=aUt (fun y hy=>aV4 (hm.lp y hy) (by
  have:=c3 y hy
  unfold lpB at this
  simp only[decide_eq_true_eq]at this
  omega)) (by omega) _ _ _ hA.step.step.step.step
 have e6:=aUt (fun y hy=>aVV (hm.ini y hy)) (by omega) _ _ _ hA.step.step.step.step.step
 have hl:=hA.step.step.step.step.step.step.l
 have er:rdM (aTe m) (some 0)=(m,some (aTe m).length):=by
  unfold rdM
  simp only[e1,e2,e3,e4,e5,e6]
  rw[←hl]
  rfl
 unfold jE
 rw[er,if_pos ⟨rfl,hc⟩]
theorem abw {s:Bs} {m:Mdl} (h:jE s=some m):yM m=true:=by
 unfold jE at h
 split at h
 ·next e=>injection h with h;rw[←h];exact e.2
 ·cases h
/-! what was read has words of the right size -/
def Rok {α:Type} (one:Rd α) (ok:α→Prop):Prop:= ∀s st,ok (one s st).1
theorem Qv:Rok rdI okZ:=by
 intro s st
 unfold rdI
 split
 ·unfold okZ;omega
 ·split
  ·next a h=>
   have:=kR ((s.drop a).take 8)
   rw[show((s.drop a).take 8).length=8 by simp;omega]at this
   unfold okZ
   simp only[]
   omega
  ·unfold okZ;omega
theorem aBV:Rok rdF (· <18446744073709551616):=by
 intro s st
 unfold rdF
 split
 ·show(0:Nat)<_;omega
 ·split
  ·next a h=>
   have:=kR ((s.drop a).take 8)
   rw[show((s.drop a).take 8).length=8 by simp;omega]at this
   simpa using this
  ·show(0:Nat)<_;omega
theorem aM2 {α:Type} {one:Rd α} {ok:α→Prop} (h:Rok one ok) (n:Nat):Rok (rdN one n) fun l=> ∀x∈l,ok x:=by
 induction n with
 |zero=>intro s st x hx;simp[rdN]at hx
 | succ n ih=>
  intro s st x hx
  cases st with
  |none=>simp[rdN]at hx
  |some a=>
   have hx:x∈(one s (some a)).1::(rdN one n s (one s (some a)).2).1:=hx
   rcases List.mem_cons.1 hx with rfl|hx
   ·exact h s _
   ·exact ih s _ x hx
theorem Kx {α:Type} {one:Rd α} {ok:α→Prop} (h:Rok one ok):Rok (rdL one) fun l=> ∀x∈l,ok x:=fun s st=>aM2 h _ s _
theorem aA5 {s:Bs} {m:Mdl} (h:jE s=some m):m.ok:=by
 unfold jE at h
 split at h
 ·injection h with h
  rw[←h]
  exact⟨Qv _ _,aBV _ _,Kx aBV _ _,Kx (Kx (one:=xR) (ok:=In.ok) fun s st=>⟨Qv _ _,Qv _ _,Qv _ _,Qv _ _⟩) _ _,Kx (one:=acb) (ok:=aSD) (fun s st=>⟨Qv _ _,Kx Qv _ _⟩) _ _,Kx (one:=YO) (ok:=Ini.ok) (fun s st=>⟨aBV _ _,Qv _ _,Qv _ _⟩) _ _⟩
 ·cases h
end
section
theorem yX {α:Type} {f:α→α→Bool} {l:List α} (h: ∀x∈l,f x x=true):vX f l l=true:=by
 induction l with
 |nil=>rfl
 |cons a l ih=>simp only[vX,h a (by simp),ih fun x hx=>h x (by simp[hx]),Bool.and_self]
theorem kO (x:Nat):YP x x=true:=by
 unfold YP
 cases jm x<;>simp
theorem ab2 (m:Mdl):ab1 m m=true:=by
 unfold ab1
 simp only[decide_true,Bool.true_and,kO]
 rw[yX fun x _=>kO x,yX (fun p _=>yX fun x _=>by simp[aa0]),yX (fun x _=>by simp[ahV,yX (f:=fun x y:Int=>decide (x=y)) (l:=x.2) (fun y _=>by simp)]),yX (fun x _=>by simp[KB,kO])]
 rfl
theorem aUv {a b:Ac} (h:aju a b=true):aju b a=true:=by
 unfold aju at h⊢
 simp only[Bool.and_eq_true,decide_eq_true_eq]at h⊢
 exact⟨h.1.symm,h.2.symm⟩
theorem aT1 {l r:List Ac} (h:vX aju l r=true):vX aju r l=true:=by
 induction l generalizing r with
 |nil=>cases r with
  |nil=>rfl
  |cons=>simp[vX]at h
 | cons a l ih=>cases r with
  |nil=>simp[vX]at h
  |cons b r=>
   simp only[vX,Bool.and_eq_true]at h⊢
   exact⟨aUv h.1,ih h.2⟩
theorem aVB (p r:Bs):p++[10]++r=p++10::r:=by simp
theorem X8 (n i:Nat) (st:Option Scr) (l:Bs) (r:List Bs):goL n i st (l::r)=(if l=[]then goL n (i+1) st r
  else if []∈zv 32 l then .line i
  else match st with
   |none=>(match yg (zv 32 l)with
    |none=> .line i
    |some h=>goL n (i+1) (some h) r)
   |some s=>(match xD (zv 32 l)with
    |none=> .line i
    |some a=>goL n (i+1) (some { s with acts:=s.acts++[a] }) r)):=by cases st<;>(rw[goL];try rfl)
theorem aTt {l:List Ac} (h: ∀a∈l,okA a=true):zv 10 (l.flatMap fun a=>kH a++[10])=l.map kH++[[]]:=by
 induction l with
 |nil=>rfl
 | cons a l ih=>
  rw[List.flatMap_cons,aVB,abU,ih fun x hx=>h x (by simp[hx])]
  ·rfl
  ·have hk:=aTA (h a (by simp))
   unfold kH
   rw[if_pos hk]
   exact aTk (aTn a)
theorem aVG {l:List Ac} (h: ∀a∈l,okA a=true) (n:Nat): ∀i s,∃r,goL n i (some s) (l.map kH++[[]])= .ok { s with acts:=s.acts++r } ∧vX aju r l=true:=by
 induction l with
 |nil=>intro i s;exact⟨[],by simp[goL],rfl⟩
 |cons a l ih=>
  intro i s
  have ha:=h a (by simp)
  have hk:=aTA ha
  obtain⟨a',h1,h2⟩:=aVa ha
  have e1:kH a=abI (aos a):=if_pos hk
  have e2:zv 32 (kH a)=aos a:=by rw[e1];exact aTu (aVy a) fun p hp b hb=>(aTn a p hp b hb).1
  obtain⟨r,h3,h4⟩:=ih (fun x hx=>h x (by simp[hx])) (i+1) { s with acts:=s.acts++[a'] }
  refine⟨a'::r,?_,by simp only[vX,h2,h4,Bool.and_self]⟩
  show goL n i (some s) (kH a::(l.map kH++[[]]))=_
  rw[X8,if_neg (by rw[e1];exact aVK a hk),e2,if_neg (aVz a hk),h1]
  simp only[]
  rw[h3]
  simp
def aSW (s:Scr):List Bs:=[[119,111,114,108,100],Xb s.sec,Xb s.fr,aTG (aTe s.m)]
theorem aS3 (s:Scr): ∀p∈aSW s,∀b∈p,aTp b:=by
 intro p hp
 unfold aSW at hp
 simp only[List.mem_cons,List.not_mem_nil,or_false]at hp
 rcases hp with rfl|rfl|rfl|rfl
 ·unfold aTp;decide
 ·exact aSV _
 ·exact aSV _
 ·exact aUw _
theorem aVh {ws:List Bs} {n f:Nat} {b:Bs} {m:Mdl} (h4:ws.length=4) (h0:ws.getD 0 []=[119,111,114,108,100]) (h1:yR (ws.getD 1 [])=some n) (h2:yR (ws.getD 2 [])=some f) (h3:xr (ws.getD 3 [])=some b) (h5:jE b=some m):yg ws=some ⟨n,f,m,[]⟩:=by
 unfold yg
 rw[if_pos ⟨h4,h0⟩,h1,h2,h3]
 simp only[h5]
theorem aUk {s:Scr} (hm:s.m.ok) (hc:yM s.m=true) (h1:YH s.sec=true) (h2:YH s.fr=true):yg (aSW s)=some ⟨s.sec,s.fr,s.m,[]⟩:=by
 obtain⟨d1,d2,d3⟩:=aam h1
 obtain⟨f1,f2,f3⟩:=aam h2
 have w0:(aSW s).getD 0 []=[119,111,114,108,100]:=rfl
 have w1:(aSW s).getD 1 []=Xb s.sec:=rfl
 have w2:(aSW s).getD 2 []=Xb s.fr:=rfl
 have w3:(aSW s).getD 3 []=aTG (aTe s.m):=rfl
 have w4:(aSW s).length=4:=rfl
 have:=aVh w4 w0 (by rw[w1,d1];exact aSZ d2) (by rw[w2,f1];exact aSZ f2) (by rw[w3];exact aT2 _) (aUE hm hc)
 rwa[d3,f3]at this
theorem aS5 {s:Scr} (h:qc s=0):yM s.m=true∧YH s.sec=true∧YH s.fr=true∧(∀a∈s.acts,okA a=true)∧s.acts.length+2≤1024:=by
 unfold qc at h
 split at h
 ·omega
 ·next e1=>
  split at h
  ·omega
  ·next e2=>
   split at h
   ·omega
   ·next e3=>
    split at h
    ·omega
    ·next e4=>
     simp only[Bool.not_eq_false,Bool.and_eq_true]at e1 e2 e3
     exact⟨e1,e2.1,e2.2,List.all_eq_true.1 e3,by omega⟩
theorem aUs {s:Scr} (hm:s.m.ok) (h:qc s=0): ∃x,qW (qk s)= .ok x∧ahW x s=true∧ahW s x=true:=by
 obtain⟨h1,h2,h3,h4,h5⟩:=aS5 h
 obtain⟨r,g1,g2⟩:=aVG h4 (s.acts.length+2) 1 ⟨s.sec,s.fr,s.m,[]⟩
 have el:zv 10 (aTB s)=abI (aSW s)::(s.acts.map kH++[[]]):=by
  unfold aTB Kc
  rw[aVB]
  show zv 10 (abI (aSW s)++10::_)=_
  rw[abU (aTk (aS3 s)),aTt h4]
 refine⟨⟨s.sec,s.fr,s.m,r⟩,?_,?_,?_⟩
 ·unfold qk
  rw[if_pos h]
  unfold qW
  rw[el]
  have e:(abI (aSW s)::(s.acts.map kH++[[]])).length=s.acts.length+2:=by simp
  rw[e,if_neg (by omega),X8,if_neg (by unfold aSW abI;simp),aTu (by unfold aSW;simp) fun p hp b hb=>(aS3 s p hp b hb).1,if_neg ?_,aUk hm h1 h2 h3]
  ·simp only[]
   rw[g1]
   rfl
  ·unfold aSW
   simp only[List.mem_cons,List.not_mem_nil,or_false,not_or]
   exact⟨by simp,Ne.symm (aTi _),Ne.symm (aTi _),Ne.symm (aVH _)⟩
 ·unfold ahW
  simp only[decide_true,Bool.true_and,ab2]
  exact g2
 ·unfold ahW
  simp only[decide_true,Bool.true_and,ab2]
  exact aT1 g2
structure Scr.good (s:Scr):Prop where
 gc:yM s.m=true
 gm:s.m.ok
 gs:YH s.sec=true
 gf:YH s.fr=true
 ga:s.acts.all okA=true
theorem aby {ws:List Bs} {s:Scr} (h:yg ws=some s):s.good:=by
 unfold yg at h
 split at h
 ·split at h
  ·next e1 e2 e3=>
   split at h
   ·next e4=>
    injection h with h;subst h
    exact⟨abw e4,aA5 e4,vQ e1,vQ e2,rfl⟩
   ·cases h
  ·cases h
 ·cases h
theorem aiV {n:Nat} {l:List Bs} : ∀ {i:Nat} {st:Option Scr} {x:Scr},(∀s,st=some s→s.good)→goL n i st l= .ok x→x.good:=by
 induction l with
 |nil=>
  intro i st x hs h
  cases st with
  |none=>simp[goL]at h
  |some s=>unfold goL at h;injection h with h;subst h;exact hs _ rfl
 | cons p r ih=>
  intro i st x hs h
  rw[X8]at h
  split at h
  ·exact ih hs h
  ·split at h
   ·cases h
   ·cases st with
    |none=>
     simp only[]at h
     split at h
     ·cases h
     ·next e=>exact ih (fun s e'=>by injection e' with e';subst e';exact aby e) h
    | some s=>
     simp only[]at h
     split at h
     ·cases h
     ·next e=>
      refine ih (fun s' e'=>?_) h
      injection e' with e'
      subst e'
      have g:=hs s rfl
      exact⟨g.gc,g.gm,g.gs,g.gf,by rw[List.all_append,g.ga];simp[aox e]⟩
theorem abS {t:Bs} {x:Scr} (h:qW t= .ok x):x.good:=by
 unfold qW at h
 split at h
 ·cases h
 ·exact aiV (fun s e=>by cases e) h
theorem aT4 {x:Scr} (h:x.good):qc x=0∨qc x=11:=by
 unfold qc
 rw[if_neg (by rw[h.gc];simp),if_neg (by rw[h.gs,h.gf];simp),if_neg (by rw[h.ga];simp)]
 split
 ·exact .inr rfl
 ·exact .inl rfl
end
section
open Go.RowKit
section
variable {P:Program} {ops:Array Oper} {Q:Exit→Act→World→Prop} {md:Region.Mode} {S:World→Prop} {t:Nat}
def yQ (P:Program) (md:Region.Mode) (ops:Array Oper) (Q:Exit→Act→World→Prop) (S:World→Prop) (t:Nat):Nat→Array Bool→Act→World→Prop
 |0,listed,a,w=>Region.ready md ops listed=[]∧Q .normal a w
 |fuel+1,listed,a,w=>
  (Region.ready md ops listed=[]→Q .normal a w)∧
  ∀i∈Region.ready md ops listed,wpOp P ops Q i (fun a' w'=>(i≠t→S w')∧yQ P md ops Q S t fuel (listed.setIfInBounds i true) a' w') a w
theorem Xt: ∀(fuel:Nat) (listed:Array Bool) (a:Act) (w:World),yQ P md ops Q S t fuel listed a w→wpAny P md ops Q fuel listed a w
 |0,_,_,_,h=>h
 |fuel+1,_,_,_,h=>⟨h.1,fun i hi=>wpOp_mono (fun a' w' h'=>Xt fuel _ a' w' h'.2) (h.2 i hi)⟩
def Xg (md:Region.Mode) (ops:Array Oper) (i:Nat):Nat→Nat→Bool
 |0,_=>false
 |n+1,t=>match ops[t]? with
  |none=>false
  |some o=>o.after.any fun e=>Region.binds md e&&(e.on==i || Xg md ops i n e.on)
def XZ (md:Region.Mode) (ops:Array Oper) (listed:Array Bool):Bool:=
 listed.size==ops.size&&(List.range ops.size).all fun j=> !listed.getD j false || (match ops[j]? with |none=>true|some o=>o.after.all fun e=> !Region.binds md e || listed.getD e.on false)
theorem Jg {listed:Array Bool} (h:XZ md ops listed=true):HeadInv md ops ops.size listed:=by
 unfold XZ at h
 simp only[Bool.and_eq_true,beq_iff_eq,List.all_eq_true]at h
 refine⟨h.1,fun j oj hj hl e he hb=>?_,fun t h1 h2=>absurd h1 (by omega)⟩
 have h2:=h.2 j (List.mem_range.2 (Array.getElem?_eq_some_iff.1 hj).1)
 rw[hj,hl]at h2
 simp only[Bool.not_true,Bool.false_or]at h2
 have h3:=(Array.all_eq_true_iff_forall_mem.1 h2) e he
 rw[hb]at h3
 simpa using h3
theorem Yl {i:Nat} {listed:Array Bool} (inv:HeadInv md ops ops.size listed): ∀(n t:Nat),Xg md ops i n t=true→(t∈Region.ready md ops listed∨listed.getD t false=true)→listed.getD i false=true
 |0,_,h,_=>by cases h
 | n +1,t,h,ht=>by
  unfold Xg at h
  split at h
  ·cases h
  ·next o ho=>
   obtain⟨e,he,hb⟩:=Array.any_eq_true'.1 h
   simp only[Bool.and_eq_true,Bool.or_eq_true,beq_iff_eq]at hb
   have hl:listed.getD e.on false=true:=by
    rcases ht with ht|ht
    ·obtain⟨_,o',ho',hall⟩:=mem_ready.1 ht
     rw[ho]at ho'
     injection ho' with ho'
     subst ho'
     exact hall e he hb.1
    ·exact inv.closed t o ho ht e he hb.1
   rcases hb.2 with h1|h1
   ·rw[←h1];exact hl
   ·exact Yl inv n e.on h1 (.inr hl)
theorem JQ {i:Nat} {oi:Oper} {v:Value} (hi:ops[i]? =some oi) (hsel: ∀(j:Nat) (o:Oper) cs b,ops[j]? =some o→o.op≠ .select cs b)
  (hQ: ∀c a w,Q (.panic c) (a.put oi.dst v) w→Q (.panic c) a w) (hn:Xg md ops i ops.size t=true):
  ∀(fuel:Nat) (listed:Array Bool) (a:Act) (w:World),
   (∀j oj,ops[j]? =some oj→j≠i→listed.getD j true=false→(∀e∈oj.after,Region.binds md e=true→e.on≠i)→oi.apart ops oj=true)→
   HeadInv md ops ops.size listed→i∈Region.ready md ops listed→YieldsIf P ops S oi v a→S w→
   yQ P md ops Q S t fuel (listed.setIfInBounds i true) (a.put oi.dst v) w→yQ P md ops Q S t (fuel+1) listed a w:=by
 intro fuel
 induction fuel with
 | zero=>
  intro listed a w _ _ hr hy hS H
  refine⟨fun h=>(by rw[h]at hr;cases hr),fun j hj=>?_⟩
  by_cases hji:j=i
  ·subst hji;exact hy.wpOp hi hS ⟨fun _=>hS,H⟩
  ·have:=ready_mono hj hji
   rw[H.1]at this
   cases this
 | succ fuel ih=>
  intro listed a w hfree inv hr hy hS H
  refine⟨fun h=>(by rw[h]at hr;cases hr),fun j hj=>?_⟩
  by_cases hji:j=i
  ·subst hji;exact hy.wpOp hi hS ⟨fun _=>hS,H⟩
  ·have hjt:j≠t:=fun e=>by
    subst e
    have h1:=Yl inv _ _ hn (.inl hj)
    have h0:=(mem_ready.1 hr).1
    rcases Nat.lt_or_ge i listed.size with h'|h'
    ·simp[h']at h0 h1;rw[h0]at h1;cases h1
    ·simp[Array.getElem?_eq_none h']at h1
   have h1:=H.2 j (ready_mono hj hji)
   obtain⟨hjun,oj,hoj,hall⟩:=mem_ready.1 hj
   have hnot: ∀e∈oj.after,Region.binds md e=true→e.on≠i:=fun e he hb heq=>by
    have h1:=hall e he hb
    have h0:=(mem_ready.1 hr).1
    rw[heq]at h1
    rcases Nat.lt_or_ge i listed.size with h'|h'
    ·simp[h']at h0 h1;rw[h0]at h1;cases h1
    ·simp[Array.getElem?_eq_none h']at h1
   have h2:=wpOp_putIf hoj (hfree j oj hoj hji hjun hnot) (fun cs b=>hsel i oi cs b hi) (fun cs b=>hsel j oj cs b hoj) hQ hy h1
   have hfree': ∀k ok,ops[k]? =some ok→k≠i→(listed.setIfInBounds j true).getD k true=false→
     (∀e∈ok.after,Region.binds md e=true→e.on≠i)→oi.apart ops ok=true:=fun k ok hk hki hun hno=>by
    refine hfree k ok hk hki ?_ hno
    by_cases hjk:j=k
    ·subst hjk;exact hjun
    ·rw[getD_set_ne true hjk]at hun;exact hun
   refine wpOp_mono (fun a' w' h3=>⟨h3.2.1,ih (listed.setIfInBounds j true) a' w' hfree' (inv.set hj (Array.getElem?_eq_some_iff.1 hoj).1) (ready_mono hr (Ne.symm hji)) h3.1 (h3.2.1 hjt) ?_⟩) h2
   rw[Array.setIfInBounds_comm _ _ hji]
   exact h3.2.2
theorem eTk {i:Nat} {oi:Oper} {v:Value} {fuel:Nat} {listed:Array Bool} {a:Act} {w:World} (hi:ops[i]? =some oi)
  (h3:(Region.noSelect ops&&Region.free md ops listed i&&(Region.ready md ops listed).contains i&&XZ md ops listed&&Xg md ops i ops.size t)=true)
  (hQ: ∀c a w,Q (.panic c) (a.put oi.dst v) w→Q (.panic c) a w) (hy:YieldsIf P ops S oi v a) (hS:S w)
  (h:yQ P md ops Q S t fuel (listed.setIfInBounds i true) (a.put oi.dst v) w):yQ P md ops Q S t (fuel+1) listed a w:=by
 simp only[Bool.and_eq_true]at h3
 exact JQ hi (Region.noSelect_spec h3.1.1.1.1) hQ h3.2 fuel listed a w (Region.free_spec hi h3.1.1.1.2) (Jg h3.1.2) (by simpa using h3.1.1.2) hy hS h
theorem eRn {i:Nat} {o:Oper} {fuel:Nat} {listed:Array Bool} {a:Act} {w:World} (ho:ops[i]? =some o) (hr:Region.ready md ops listed=[i]) (hit:(i==t)=false)
  (h: ∀K':Act→World→Prop,Shut (∀a w,S w→(S w→yQ P md ops Q S t fuel (listed.setIfInBounds i true) a w)→K' a w)→if Region.wanted o (yielded ops a.tmps)=true then Oper.wp P o a w K' Q else K' (a.put o.dst undef) w):yQ P md ops Q S t (fuel+1) listed a w:=by
 refine⟨fun h0=>(by rw[hr]at h0;cases h0),fun j hj=>?_⟩
 rw[hr,List.mem_singleton]at hj
 subst hj
 exact wpOp_step ho fun K' hK=>h K' (fun a w hS hW=>hK a w ⟨fun _=>hS,hW hS⟩)
theorem eR2 {i j:Nat} {o o':Oper} {fuel:Nat} {listed:Array Bool} {a:Act} {w:World} (ho:ops[i]? =some o) (ho':ops[j]? =some o') (hr:Region.ready md ops listed=[i,j]) (hit:(i==t || j==t)=false)
  (h: ∀K':Act→World→Prop,Shut (∀a w,S w→(S w→yQ P md ops Q S t fuel (listed.setIfInBounds i true) a w)→K' a w)→if Region.wanted o (yielded ops a.tmps)=true then Oper.wp P o a w K' Q else K' (a.put o.dst undef) w)
  (h': ∀K':Act→World→Prop,Shut (∀a w,S w→(S w→yQ P md ops Q S t fuel (listed.setIfInBounds j true) a w)→K' a w)→if Region.wanted o' (yielded ops a.tmps)=true then Oper.wp P o' a w K' Q else K' (a.put o'.dst undef) w):yQ P md ops Q S t (fuel+1) listed a w:=by
 refine⟨fun h0=>(by rw[hr]at h0;cases h0),fun k hk=>?_⟩
 rw[hr,List.mem_cons,List.mem_singleton]at hk
 rcases hk with rfl|rfl
 ·exact wpOp_step ho fun K' hK=>h K' (fun a w hS hW=>hK a w ⟨fun _=>hS,hW hS⟩)
 ·exact wpOp_step ho' fun K' hK=>h' K' (fun a w hS hW=>hK a w ⟨fun _=>hS,hW hS⟩)
theorem aRw {o:Oper} {fuel:Nat} {listed:Array Bool} {a:Act} {w:World} (ho:ops[t]? =some o) (hr:Region.ready md ops listed=[t]) (hz:Region.ready md ops (listed.setIfInBounds t true)=[])
  (h: ∀K':Act→World→Prop,Shut (∀a w,Q .normal a w→K' a w)→if Region.wanted o (yielded ops a.tmps)=true then Oper.wp P o a w K' Q else K' (a.put o.dst undef) w):yQ P md ops Q S t (fuel+1) listed a w:=by
 refine⟨fun h0=>(by rw[hr]at h0;cases h0),fun j hj=>?_⟩
 rw[hr,List.mem_singleton]at hj
 subst hj
 refine wpOp_step ho fun K' hK=>h K' (fun a w hW=>hK a w ⟨fun h=>absurd rfl h,?_⟩)
 cases fuel with
 |zero=>exact⟨hz,hW⟩
 |succ n=>exact⟨fun _=>hW,by rw[hz];simp⟩
theorem zB {id:Nat} {a:Act} {w:World} (S:World→Prop) (t:Nat) (hm:P.follows .mixedOrders=true) (hS:S w.drew)
  (h:S w.drew→yQ P .any ops Q S t ops.size (Array.replicate ops.size false) a w.drew):(Code.region id ops true).wp P Q a w:=
 wp_region_any hm (Xt _ _ _ _ (h hS))
end
theorem gEa {α:Type} (l:List α) (i:Nat):l.toArray[i]? =l[i]? :=by simp
theorem gEb {α:Type} (a:α) (l:List α) (i:Nat):(a::l)[i+1]? =l[i]? :=List.getElem?_cons_succ
theorem gEc {α:Type} (a:α) (l:List α):(a::l)[0]? =some a:=List.getElem?_cons_zero
theorem sEa {α:Type} (l:List α) (i:Nat) (x:α):l.toArray.setIfInBounds i x=(l.set i x).toArray:=by simp
theorem sEb {α:Type} (a b:α) (l:List α):(a::l).set 0 b=b::l:=rfl
theorem sEc {α:Type} (a b:α) (l:List α) (i:Nat):(a::l).set (i+1) b=a::l.set i b:=rfl
attribute [irreducible] yQ
end
section
open Go.RowKit
section
variable {P:Program} {md:Region.Mode} {ops:Array Oper} {Q:Exit→Act→World→Prop} {S:World→Prop} {t:Nat} {fuel:Nat} {listed:Array Bool} {a:Act} {w:World}
theorem eT (i:Nat) {oi:Oper} {v:Value} (hS:S w) (h:yQ P md ops Q S t fuel (listed.setIfInBounds i true) (a.put oi.dst v) w)
  (hi:ops[i]? =some oi:=by((simp only[gEa,gEb,gEc];try rfl)))
  (h3:(Region.noSelect ops&&Region.free md ops listed i&&(Region.ready md ops listed).contains i&&XZ md ops listed&&Xg md ops i ops.size t)=true:=by kernel_rfl)
  (hQ: ∀c a w,Q (.panic c) (a.put oi.dst v) w→Q (.panic c) a w:=by exact fun _ _ _ h=>h)
  (hy:YieldsIf P ops S oi v a:=by(refine Or.inl ⟨by rfl,?_⟩;intro wz hSw;(try dsimp only at hSw);go_simp;first |done|with_reducible rfl)):yQ P md ops Q S t (fuel+1) listed a w:=eTk hi h3 hQ hy hS h
theorem eR (i:Nat) {o:Oper}
  (h: ∀K':Act→World→Prop,Shut (∀a w,S w→(S w→yQ P md ops Q S t fuel (listed.setIfInBounds i true) a w)→K' a w)→if Region.wanted o (yielded ops a.tmps)=true then Oper.wp P o a w K' Q else K' (a.put o.dst undef) w)
  (ho:ops[i]? =some o:=by((simp only[gEa,gEb,gEc];try rfl))) (hr:Region.ready md ops listed=[i]:=by kernel_rfl) (hit:(i==t)=false:=by rfl):yQ P md ops Q S t (fuel+1) listed a w:=eRn ho hr hit h
theorem eL {o:Oper}
  (h: ∀K':Act→World→Prop,Shut (∀a w,Q .normal a w→K' a w)→if Region.wanted o (yielded ops a.tmps)=true then Oper.wp P o a w K' Q else K' (a.put o.dst undef) w)
  (ho:ops[t]? =some o:=by((simp only[gEa,gEb,gEc];try rfl))) (hr:Region.ready md ops listed=[t]:=by kernel_rfl) (hz:Region.ready md ops (listed.setIfInBounds t true)=[]:=by kernel_rfl):yQ P md ops Q S t (fuel+1) listed a w:=aRw ho hr hz h
end
end
section
open Go.RowKit Go.Lib
theorem Ye (x:In):(inC x).length=4:=rfl
theorem vL (x:Ini):(aay x).length=3:=rfl
def flC (d:Nat):List Value:=[.float .f64 d]
theorem Ya (d:Nat):(flC d).length=1:=rfl
def wdC (d:Int):List Value:=[.int .i64 d]
theorem YG (d:Int):(wdC d).length=1:=rfl
structure Prg where
 p:Option Addr
 n:Nat
 c:Nat
 l:List In
def prC (q:Prg):List Value:=[.slice q.p q.n q.c]
theorem Yu (q:Prg):(prC q).length=1:=rfl
structure LpR where
 k:Int
 p:Option Addr
 n:Nat
 c:Nat
 l:List Int
def lpC (q:LpR):List Value:=[.int .i64 q.k,.slice q.p q.n q.c]
theorem Yg (q:LpR):(lpC q).length=2:=rfl
structure MdV where
 seed:Int
 en:Nat
 dp:Option Addr
 dn:Nat
 dc:Nat
 dl:List Nat
 pp:Option Addr
 pn:Nat
 pc:Nat
 ps:List Prg
 lp:Option Addr
 ln:Nat
 lc:Nat
 ls:List LpR
 ip:Option Addr
 im:Nat
 ic:Nat
 is:List Ini
def mdC (x:MdV):List Value:=[.int .i64 x.seed,.float .f64 x.en,.slice x.dp x.dn x.dc,.slice x.pp x.pn x.pc,.slice x.lp x.ln x.lc,.slice x.ip x.im x.ic]
def MdV.m (x:MdV):Mdl:=⟨x.seed,x.en,x.dl,x.ps.map Prg.l,x.ls.map fun q=>(q.k,q.l),x.is⟩
structure qZ (W:World) (x:MdV):Prop where
 d:Vw 1 flC W (.slice x.dp x.dn x.dc) x.dl
 dn:x.dn=x.dl.length
 p:Vw 1 prC W (.slice x.pp x.pn x.pc) x.ps
 pn:x.pn=x.ps.length
 pi: ∀q∈x.ps,q.n=q.l.length∧Vw 4 inC W (.slice q.p q.n q.c) q.l
 l:Vw 2 lpC W (.slice x.lp x.ln x.lc) x.ls
 ln:x.ln=x.ls.length
 li: ∀q∈x.ls,q.n=q.l.length∧Vw 1 wdC W (.slice q.p q.n q.c) q.l
 i:Vw 3 aay W (.slice x.ip x.im x.ic) x.is
 im:x.im=x.is.length
theorem qZ.below {W W':World} {x:MdV} (h:qZ W x) (hb:Below W.heap.size W W'):qZ W' x:=
 ⟨h.d.below hb,h.dn,h.p.below hb,h.pn,fun q hq=>⟨(h.pi q hq).1,(h.pi q hq).2.below hb⟩,h.l.below hb,h.ln,fun q hq=>⟨(h.li q hq).1,(h.li q hq).2.below hb⟩,h.i.below hb,h.im⟩
end
section
open Go.RowKit
def vv (W1:World) (W:World):Prop:=Below W1.heap.size W1 W
theorem vv.out {W1 W:World} (h:vv W1 W):Below W1.heap.size W1 W:=h
theorem vv.refl (W1:World):vv W1 W1:=Below.refl _ _
theorem vv.drew (W1:World):vv W1 W1.drew:=Z0 (Below.refl _ W1) 1
theorem vv.call {P:Program} {W1:World} {f:FuncId} {vs:Array Value} {v:Value} (hc: ∀W,Calls P f vs W fun e w'=>e= .returned v∧Below W.heap.size W w'): ∀W,vv W1 W→Calls P f vs W fun e w'=>e= .returned v∧vv W1 w':=fun W hW=>by
 refine(hc W).mono ?_
 rintro e w' ⟨rfl,hb⟩
 exact⟨rfl,hW.out.trans (hb.mono hW.out.size)⟩
theorem vv.blk {W1 W:World} {g:Nat} {t:TypeId} {cs:Array Value} (h:vv W1 W) (hB:Blk W1 g t cs):Blk W g t cs:=hB.below h.out hB.lt
theorem vv.alloc {W1 W:World} (h:vv W1 W) (o:Obj):vv W1 (W.alloc o):=Below.alloc h (Below.size h) o
theorem vv.trans {W1 W2 W3:World} (h:vv W1 W2) (k:vv W2 W3):vv W1 W3:=Below.trans h (k.out.mono h.out.size)
theorem vv.of {W1 W2:World} (h:Below W1.heap.size W1 W2):vv W1 W2:=h
attribute [irreducible] vv
end
end Go.Proofs.YtcdiljebkpikbaaGreat
