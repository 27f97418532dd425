/- Parts of the proof: Kvk Kvl Kvm Kvn Kvo. -/
import Derived.Laws.Small
import Derived.Laws.Strings
import Derived.Laws.BytesString
import Derived.Test.YtcdiljebkpikbaaGreatS03
set_option linter.all false
set_option maxRecDepth 100000
set_option maxHeartbeats 64000000
namespace Go.Proofs.YtcdiljebkpikbaaGreat
section
noncomputable section
namespace Kv
open Go.RowKit
variable {P:Program}
theorem c8 {c:Nat} (h:c<8):c=0∨c=1∨c=2∨c=3∨c=4∨c=5∨c=6∨c=7:=by omega
def jP (c:Nat):Nat:=Nat.shiftLeft 8 (Nat.land c 3)
theorem va {c:Nat} (h:c<8):(zh c).bits=jP c:=by rcases c8 h with rfl|rfl|rfl|rfl|rfl|rfl|rfl|rfl<;>rfl
theorem ah4 {c:Nat} (h:c<8):(zh c).signed=y9 c:=by rcases c8 h with rfl|rfl|rfl|rfl|rfl|rfl|rfl|rfl<;>rfl
theorem Jw (c:Nat):mdN c=2^jP c:=rfl
theorem xa {c x:Nat} :toI c x%(mdN c:Int)=(x:Int)%mdN c:=by
 unfold toI
 split
 ·rw[Int.sub_emod_right]
 ·rfl
theorem ke {c x:Nat} (hx:x<mdN c):(y9 c=true∧hfN c≤x∧toI c x=(x:Int) -mdN c)∨(toI c x=x∧(y9 c=true→x<hfN c)):=by
 unfold toI
 split
 ·next h=>exact .inl ⟨h.1,h.2,rfl⟩
 ·next h=>exact .inr ⟨rfl,fun h1=>Nat.lt_of_not_le fun h2=>h ⟨h1,h2⟩⟩
theorem ajU {c:Nat} (hc:c<8) (n:Int):(zh c).wrap n=toI c (n%(mdN c:Int)).toNat:=by
 have hp:(0:Int)<mdN c:=by have:=yD c;omega
 have h0:=Int.emod_nonneg n (show(mdN c:Int)≠0 by omega)
 have hh:=aaw c
 unfold IntKind.wrap toI
 simp only[va hc,ah4 hc]
 have e:((2:Int)^jP c)=mdN c:=by rw[Jw];simp
 rw[e]
 have e2:y9 c=true→((2:Int)^(jP c-1))=hfN c:=fun hs=>by
  have:hfN c=2^(jP c-1):=by unfold hfN;rw[hs];rfl
  rw[this];simp
 by_cases hs:y9 c=true
 ·rw[e2 hs,hs]
  simp only[Bool.true_and,ge_iff_le,decide_eq_true_eq,true_and]
  by_cases h1:(hfN c:Int)≤n%(mdN c:Int)
  ·rw[if_pos h1,if_pos (by omega),Int.toNat_of_nonneg h0]
  ·rw[if_neg h1,if_neg (by omega),Int.toNat_of_nonneg h0]
 ·rw[if_neg (by simp[hs]),if_neg (by simp[hs]),Int.toNat_of_nonneg h0]
theorem vu {c:Nat} (hc:c<8) {n:Int} {x:Nat} (hx:x<mdN c) (h:n%(mdN c:Int)=x):(zh c).wrap n=toI c x:=by
 rw[ajU hc,h];rfl
structure IR (c x:Nat) (v:Value):Prop where
 v:v= .int (zh c) (toI c x)
 lt:x<mdN c
 c:c<8
theorem zA {ρ:Ren} {c x:Nat} {v:Value} :VR ρ (.int c x) v↔IR c x v:=⟨fun h=>⟨h.1,h.2.1,h.2.2⟩,fun h=>⟨h.v,h.lt,h.c⟩⟩
theorem aCn {c j:Nat} (hc:c<8) (hj:j<8):zh c=zh j↔c=j:=by
 constructor
 ·intro h
  rcases c8 hc with rfl|rfl|rfl|rfl|rfl|rfl|rfl|rfl<;>rcases c8 hj with rfl|rfl|rfl|rfl|rfl|rfl|rfl|rfl<;>first |rfl|cases h
 ·intro h;rw[h]
theorem qT (x m:Nat):((x%m:Nat):Int)=(x:Int)%m:=Int.natCast_emod x m
def ArI (ρ:Ren) (op:BinOp) (c:Nat) (a b:Int) (r:AV):Prop:= ∀(w:World),∃v,(binOp op 0 (.int (zh c) a) (.int (zh c) b)).run P w= .ok v w∧VR ρ r v
section
variable {ρ:Ren} {c x y:Nat}
theorem aCF (hc:c<8) (hx:x<mdN c) (hy:y<mdN c) (t:TypeId) (w:World): ∃v,(binOp .add t (.int (zh c) (toI c x)) (.int (zh c) (toI c y))).run P w= .ok v w∧VR ρ (.int c (Nat.mod (Nat.add x y) (mdN c))) v:=by
 refine⟨.int (zh c) ((zh c).wrap (toI c x+toI c y)),by simp only[binOp,Op.intArith,ne_eq,not_true_eq_false,if_false];rfl,?_⟩
 refine zA.2 ⟨?_,Nat.mod_lt _ (yD c),hc⟩
 congr 1
 refine vu hc (Nat.mod_lt _ (yD c)) ?_
 show _=(((x+y)%mdN c:Nat):Int)
 rw[qT,Int.add_emod,xa,xa,←Int.add_emod];simp
theorem aCL (hc:c<8) (hx:x<mdN c) (hy:y<mdN c) (t:TypeId) (w:World): ∃v,(binOp .sub t (.int (zh c) (toI c x)) (.int (zh c) (toI c y))).run P w= .ok v w∧VR ρ (.int c (Nat.mod (Nat.add x (Nat.sub (mdN c) y)) (mdN c))) v:=by
 refine⟨.int (zh c) ((zh c).wrap (toI c x-toI c y)),by simp only[binOp,Op.intArith,ne_eq,not_true_eq_false,if_false];rfl,?_⟩
 refine zA.2 ⟨?_,Nat.mod_lt _ (yD c),hc⟩
 congr 1
 refine vu hc (Nat.mod_lt _ (yD c)) ?_
 show _=(((x+(mdN c-y))%mdN c:Nat):Int)
 rw[qT,Int.sub_emod,xa,xa,←Int.sub_emod]
 have:((x+(mdN c-y):Nat):Int)=(x:Int) -y+mdN c:=by omega
 rw[this,Int.add_emod_right]
theorem aCG (hc:c<8) (hx:x<mdN c) (hy:y<mdN c) (t:TypeId) (w:World): ∃v,(binOp .mul t (.int (zh c) (toI c x)) (.int (zh c) (toI c y))).run P w= .ok v w∧VR ρ (.int c (Nat.mod (Nat.mul x y) (mdN c))) v:=by
 refine⟨.int (zh c) ((zh c).wrap (toI c x*toI c y)),by simp only[binOp,Op.intArith,ne_eq,not_true_eq_false,if_false];rfl,?_⟩
 refine zA.2 ⟨?_,Nat.mod_lt _ (yD c),hc⟩
 congr 1
 refine vu hc (Nat.mod_lt _ (yD c)) ?_
 show _=(((x*y)%mdN c:Nat):Int)
 rw[qT,Int.mul_emod,xa,xa,←Int.mul_emod];simp
theorem yN (hc:c<8) (hx:x<mdN c):BitVec.ofInt (zh c).bits (toI c x)=BitVec.ofNat (zh c).bits x:=by
 apply BitVec.eq_of_toNat_eq
 rw[BitVec.toNat_ofInt,BitVec.toNat_ofNat,va hc,←Jw,xa,←qT];rfl
theorem ya (hc:c<8) (hx:x<mdN c):(BitVec.ofNat (zh c).bits x).toNat=x:=by
 rw[BitVec.toNat_ofNat,va hc,←Jw,Nat.mod_eq_of_lt hx]
theorem QH (hc:c<8) {z:Nat} (hz:z<mdN c):(zh c).wrap (z:Nat)=toI c z:=vu hc hz (by rw[←qT,Nat.mod_eq_of_lt hz])
theorem aL1 (hc:c<8) (b:BitVec (zh c).bits):b.toNat<mdN c:=by
 have h:=b.isLt
 have e:2^(zh c).bits=mdN c:=by rw[va hc,Jw]
 omega
theorem Xy (op:BinOp) (hc:c<8) (hx:x<mdN c) (hy:y<mdN c) (z:Nat) (t:TypeId) (w:World)
  (hop:(op= .and∧z=x&&& y)∨(op= .or∧z=x |||y)∨(op= .xor∧z=x^^^y)∨(op= .andNot∧z=x^^^(x&&& y))): ∃v,(binOp op t (.int (zh c) (toI c x)) (.int (zh c) (toI c y))).run P w= .ok v w∧VR ρ (.int c z) v:=by
 have key: ∀b:BitVec (zh c).bits,b.toNat=z→VR ρ (.int c z) (.int (zh c) ((zh c).wrap b.toNat)):=fun b hb=>by
  have h1:=aL1 hc b
  rw[hb]at h1⊢
  exact zA.2 ⟨by rw[QH hc h1],h1,hc⟩
 rcases hop with⟨rfl,rfl⟩ | ⟨rfl,rfl⟩ | ⟨rfl,rfl⟩ | ⟨rfl,rfl⟩
 ·exact⟨_,by simp only[binOp,Op.intBits,ne_eq,not_true_eq_false,if_false];rfl,key (BitVec.ofInt _ (toI c x)&&& BitVec.ofInt _ (toI c y)) (by rw[yN hc hx,yN hc hy,BitVec.toNat_and,ya hc hx,ya hc hy])⟩
 ·exact⟨_,by simp only[binOp,Op.intBits,ne_eq,not_true_eq_false,if_false];rfl,key (BitVec.ofInt _ (toI c x) |||BitVec.ofInt _ (toI c y)) (by rw[yN hc hx,yN hc hy,BitVec.toNat_or,ya hc hx,ya hc hy])⟩
 ·exact⟨_,by simp only[binOp,Op.intBits,ne_eq,not_true_eq_false,if_false];rfl,key (BitVec.ofInt _ (toI c x)^^^BitVec.ofInt _ (toI c y)) (by rw[yN hc hx,yN hc hy,BitVec.toNat_xor,ya hc hx,ya hc hy])⟩
 ·refine⟨_,by simp only[binOp,Op.intBits,ne_eq,not_true_eq_false,if_false];rfl,key (BitVec.ofInt _ (toI c x)&&& ~~~ BitVec.ofInt _ (toI c y)) ?_⟩
  have e: ∀a b:BitVec (zh c).bits,a&&& ~~~ b=a^^^(a&&& b):=fun a b=>by
   apply BitVec.eq_of_getLsbD_eq
   intro i hi
   simp only[BitVec.getLsbD_and,BitVec.getLsbD_not,BitVec.getLsbD_xor,hi,decide_true,Bool.true_and]
   cases a.getLsbD i<;>cases b.getLsbD i<;>rfl
  rw[e,yN hc hx,yN hc hy,BitVec.toNat_xor,BitVec.toNat_and,ya hc hx,ya hc hy]
theorem aB5 (hx:x<mdN c) (hy:y<mdN c):toI c x=toI c y↔x=y:=by
 constructor
 ·intro h
  have:=congrArg (· %(mdN c:Int)) h
  simp only[xa]at this
  rw[←qT,←qT,Nat.mod_eq_of_lt hx,Nat.mod_eq_of_lt hy]at this
  omega
 ·intro h;rw[h]
def Zd (c x:Nat):Nat:=if y9 c=true then(x+hfN c)%mdN c else x
theorem Qn (hx:x<mdN c) (hy:y<mdN c):toI c x<toI c y↔Zd c x<Zd c y:=by
 have hh:=aaw c
 unfold Zd
 rcases ke hx with⟨s1,h1,e1⟩ | ⟨e1,h1⟩<;>rcases ke hy with⟨s2,h2,e2⟩ | ⟨e2,h2⟩<;>rw[e1,e2]
 ·rw[if_pos s1]at hh⊢
  rw[if_pos s1,Nat.mod_eq_sub_mod (by omega),Nat.mod_eq_of_lt (by omega),Nat.mod_eq_sub_mod (show mdN c≤y+hfN c by omega),Nat.mod_eq_of_lt (by omega)]
  omega
 ·have:=h2 s1
  rw[if_pos s1]at hh⊢
  rw[if_pos s1,Nat.mod_eq_sub_mod (by omega),Nat.mod_eq_of_lt (by omega),Nat.mod_eq_of_lt (show y+hfN c<mdN c by omega)]
  omega
 ·have:=h1 s2
  rw[if_pos s2]at hh⊢
  rw[if_pos s2,Nat.mod_eq_of_lt (show x+hfN c<mdN c by omega),Nat.mod_eq_sub_mod (show mdN c≤y+hfN c by omega),Nat.mod_eq_of_lt (by omega)]
  omega
 ·by_cases hs:y9 c=true
  ·have:=h1 hs
   have:=h2 hs
   rw[if_pos hs]at hh⊢
   rw[if_pos hs,Nat.mod_eq_of_lt (by omega),Nat.mod_eq_of_lt (by omega)]
   omega
  ·rw[if_neg hs,if_neg hs];omega
theorem YU (op:BinOp) (hc:c<8) (hx:x<mdN c) (hy:y<mdN c) (b:Bool) (t:TypeId) (w:World)
  (hop:(op= .eql∧(b=true↔x=y))∨(op= .neq∧(b=true↔x≠y))∨(op= .lss∧(b=true↔Zd c x<Zd c y))∨(op= .leq∧(b=true↔Zd c x≤Zd c y))∨(op= .gtr∧(b=true↔Zd c y<Zd c x))∨(op= .geq∧(b=true↔Zd c y≤Zd c x))):
  ∃v,(binOp op t (.int (zh c) (toI c x)) (.int (zh c) (toI c y))).run P w= .ok v w∧VR ρ (.bl b) v:=by
 have hi:=aB5 hx hy
 have h1:=Qn hx hy
 have h2:=Qn hy hx
 refine⟨.bool b,?_,rfl⟩
 rcases hop with⟨rfl,h⟩ | ⟨rfl,h⟩ | ⟨rfl,h⟩ | ⟨rfl,h⟩ | ⟨rfl,h⟩ | ⟨rfl,h⟩<;>simp only[binOp,Op.intCmp,ne_eq,not_true_eq_false,if_false]<;>rw[rp]<;>congr 2<;>rw[Bool.eq_iff_iff,h]
 ·rw[beq_iff_eq];exact hi
 ·rw[bne_iff_ne];exact not_congr hi
 ·rw[decide_eq_true_eq];exact h1
 ·rw[decide_eq_true_eq];omega
 ·rw[decide_eq_true_eq];exact h2
 ·rw[decide_eq_true_eq];omega
end
end Kv
end
end
section
noncomputable section
namespace Kv
open Go.RowKit
variable {P:Program}
section
variable {ρ:Ren} {c x y:Nat}
theorem zR (hx:x<mdN c) (h:y9 c=true→x<hfN c):toI c x=x:=by
 rcases ke hx with⟨s1,h1,e1⟩ | ⟨e1,h1⟩
 ·have:=h s1;omega
 ·exact e1
theorem aCH (hc:c<8) (hx:x<mdN c) (hy:y<mdN c) (h0:y≠0) (h1:y9 c=true→x<hfN c) (h2:y9 c=true→y<hfN c) (t:TypeId) (w:World):
  ∃v,(binOp .quo t (.int (zh c) (toI c x)) (.int (zh c) (toI c y))).run P w= .ok v w∧VR ρ (.int c (Nat.div x y)) v:=by
 have hd:x / y≤x:=Nat.div_le_self x y
 refine⟨.int (zh c) ((zh c).wrap ((toI c x).tdiv (toI c y))),?_,zA.2 ⟨?_,Nat.lt_of_le_of_lt hd hx,hc⟩⟩
 ·simp only[binOp,Op.intDiv,ne_eq,not_true_eq_false,if_false]
  rw[if_neg (by rw[zR hy h2];omega)];rfl
 ·rw[zR hx h1,zR hy h2]
  have:((x:Int).tdiv (y:Int))=((x / y:Nat):Int):=by rw[Int.tdiv_eq_ediv_of_nonneg (by omega)];rfl
  rw[this,QH hc (Nat.lt_of_le_of_lt hd hx)];rfl
theorem aCI (hc:c<8) (hx:x<mdN c) (hy:y<mdN c) (h0:y≠0) (h1:y9 c=true→x<hfN c) (h2:y9 c=true→y<hfN c) (t:TypeId) (w:World):
  ∃v,(binOp .rem t (.int (zh c) (toI c x)) (.int (zh c) (toI c y))).run P w= .ok v w∧VR ρ (.int c (Nat.mod x y)) v:=by
 have hd:x%y≤x:=Nat.mod_le x y
 refine⟨.int (zh c) ((toI c x).tmod (toI c y)),?_,zA.2 ⟨?_,Nat.lt_of_le_of_lt hd hx,hc⟩⟩
 ·simp only[binOp,Op.intDiv,ne_eq,not_true_eq_false,if_false]
  rw[if_neg (by rw[zR hy h2];omega)];rfl
 ·rw[zR hx h1,zR hy h2]
  have:((x:Int).tmod (y:Int))=((x%y:Nat):Int):=by rw[Int.tmod_eq_emod_of_nonneg (by omega)];rfl
  rw[this]
  congr 1
  exact(zR (Nat.lt_of_le_of_lt hd hx) (fun hs=>Nat.lt_of_le_of_lt hd (h1 hs))).symm
theorem aCJ {j:Nat} (hc:c<8) (hx:x<mdN c) (hj:j<8) (hy:y<mdN j) (h2:y9 j=true→y<hfN j) (t:TypeId) (w:World):
  ∃v,(binOp .shl t (.int (zh c) (toI c x)) (.int (zh j) (toI j y))).run P w= .ok v w∧VR ρ (.int c (Nat.mod (Nat.shiftLeft x (Nat.min y (jP c))) (mdN c))) v:=by
 refine⟨.int (zh c) ((zh c).wrap (toI c x*2^(min y (jP c)))),?_,zA.2 ⟨?_,Nat.mod_lt _ (yD c),hc⟩⟩
 ·simp only[binOp,Op.shift]
  rw[zR hy h2,if_neg (by omega),va hc];rfl
 ·congr 1
  refine vu hc (Nat.mod_lt _ (yD c)) ?_
  show _=(((x<<<(min y (jP c)))%mdN c:Nat):Int)
  rw[qT,Nat.shiftLeft_eq,Int.mul_emod,xa,←Int.mul_emod];simp
theorem aCK {j:Nat} (hc:c<8) (hx:x<mdN c) (hj:j<8) (hy:y<mdN j) (h2:y9 j=true→y<hfN j) (h1:y9 c=true→x<hfN c) (t:TypeId) (w:World):
  ∃v,(binOp .shr t (.int (zh c) (toI c x)) (.int (zh j) (toI j y))).run P w= .ok v w∧VR ρ (.int c (Nat.shiftRight x (Nat.min y (jP c)))) v:=by
 have hd:x>>>(min y (jP c))≤x:=by rw[Nat.shiftRight_eq_div_pow];exact Nat.div_le_self _ _
 refine⟨.int (zh c) ((toI c x).fdiv (2^(min y (jP c)))),?_,zA.2 ⟨?_,Nat.lt_of_le_of_lt hd hx,hc⟩⟩
 ·simp only[binOp,Op.shift]
  rw[zR hy h2,if_neg (by omega),va hc];rfl
 ·congr 1
  rw[zR hx h1]
  have:toI c (Nat.shiftRight x (Nat.min y (jP c)))=((x>>>(min y (jP c)):Nat):Int):=zR (Nat.lt_of_le_of_lt hd hx) (fun hs=>Nat.lt_of_le_of_lt hd (h1 hs))
  rw[this,Nat.shiftRight_eq_div_pow,Int.fdiv_eq_ediv_of_nonneg _ (by exact_mod_cast Nat.zero_le _)]
  simp
end
theorem yr {v:AV} {φ:Nat→Nat→AV} (h:xo v φ≠ .un): ∃c x,v= .int c x:=by cases v<;>first |exact⟨_,_,rfl⟩ |exact absurd rfl h
theorem xV {v:AV} {φ:Nat→Nat→AV} (h:qU v φ≠ .un): ∃c x,v= .str c x:=by cases v<;>first |exact⟨_,_,rfl⟩ |exact absurd rfl h
theorem Kn {v:AV} {φ:Nat→AV} (h:aje v φ≠ .un): ∃x,v= .fl x:=by cases v<;>first |exact⟨_,rfl⟩ |exact absurd rfl h
theorem Yq {v:AV} {φ:Bool→AV} (h:Jx v φ≠ .un): ∃x,v= .bl x:=by cases v<;>first |exact⟨_,rfl⟩ |exact absurd rfl h
theorem vS {v:AV} {φ:Nat→Nat→AV} (h:xq v φ≠ .un): ∃c x,v= .ptr c x:=by cases v<;>first |exact⟨_,_,rfl⟩ |exact absurd rfl h
theorem Qk {v:AV} {φ:List AV→AV} (h:vR v φ≠ .un): ∃l,v= .agg l:=by cases v<;>first |exact⟨_,rfl⟩ |exact absurd rfl h
theorem ajg {v:AV} {φ:List AV→AV} (h:aaK v φ≠ .un): ∃l,v= .tup l:=by cases v<;>first |exact⟨_,rfl⟩ |exact absurd rfl h
def B2 (P:Program) (ρ:Ren) (op:BinOp) (f:BC):Prop:= ∀(t:TypeId) (a b:AV) (a' b':Value) (w:World),VR ρ a a'→VR ρ b b'→f a b≠ .un→ ∃v,(binOp op t a' b').run P w= .ok v w∧VR ρ (f a b) v
theorem xn {ρ:Ren} {op:BinOp} {c:Nat} {f:Nat→Nat→AV} (h: ∀x y,c<8→x<mdN c→y<mdN c→f x y≠ .un→ ∀t w,∃v,(binOp op t (.int (zh c) (toI c x)) (.int (zh c) (toI c y))).run P w= .ok v w∧VR ρ (f x y) v):B2 P ρ op (QJ c f).f:=by
 intro t a b a' b' w ha hb hu
 obtain⟨k,x,rfl⟩:=yr hu
 have hu:xo b (fun j y=> @Bool.rec (fun _=>AV) .un (@Bool.rec (fun _=>AV) .un (f x y) (Nat.beq j c)) (Nat.beq k c))≠ .un:=hu
 obtain⟨j,y,rfl⟩:=yr hu
 have e:(QJ c f).f (.int k x) (.int j y)=if k=c then(if j=c then f x y else .un)else .un:=by
  show @Bool.rec (fun _=>AV) .un (@Bool.rec (fun _=>AV) .un (f x y) (Nat.beq j c)) (Nat.beq k c)=_
  rw[zg,zg]
 have hq:(QJ c f).f (.int k x) (.int j y)≠ .un:=hu
 clear hu
 rw[e]at hq⊢
 by_cases h1:k=c
 ·rw[if_pos h1]at hq⊢
  by_cases h2:j=c
  ·rw[if_pos h2]at hq⊢
   subst h1;subst h2
   obtain⟨v1,l1,c1⟩:=zA.1 ha
   obtain⟨v2,l2,_⟩:=zA.1 hb
   subst v1;subst v2
   exact h x y c1 l1 l2 hq t w
  ·rw[if_neg h2]at hq;exact absurd rfl hq
 ·rw[if_neg h1]at hq;exact absurd rfl hq
theorem Qm {ρ:Ren} {op:BinOp} {c:Nat} {f:Nat→Nat→AV} (h: ∀x y,c<8→x<mdN c→y<mdN c→f (Zd c x) (Zd c y)≠ .un→ ∀t w,∃v,(binOp op t (.int (zh c) (toI c x)) (.int (zh c) (toI c y))).run P w= .ok v w∧VR ρ (f (Zd c x) (Zd c y)) v):B2 P ρ op (an6 c f).f:=by
 have e:an6 c f=if y9 c=true then QJ c (fun x y=>f ((x+hfN c)%mdN c) ((y+hfN c)%mdN c))else QJ c f:=zN _ _ _
 unfold Zd at h
 by_cases hs:y9 c=true
 ·rw[e,if_pos hs]
  simp only[if_pos hs]at h
  exact xn h
 ·rw[e,if_neg hs]
  simp only[if_neg hs]at h
  exact xn h
theorem agx {ρ:Ren} {op:BinOp} {c:Nat} {f:Nat→Nat→Nat} (h: ∀x y,c<8→x<mdN c→y<mdN c→y≠0→(y9 c=true→x<hfN c)→(y9 c=true→y<hfN c)→ ∀t w,∃v,(binOp op t (.int (zh c) (toI c x)) (.int (zh c) (toI c y))).run P w= .ok v w∧VR ρ (.int c (f x y)) v):B2 P ρ op (aRv c f).f:=by
 refine xn fun x y hc hx hy hu t w=>?_
 rw[zg]at hu⊢
 by_cases h0:y=0
 ·rw[if_pos h0]at hu;exact absurd rfl hu
 ·rw [if_neg h0,zN]at hu⊢
  by_cases hs:y9 c=true
  ·rw[if_pos hs,zf]at hu⊢
   by_cases h1:hfN c≤x
   ·rw[if_pos h1]at hu;exact absurd rfl hu
   ·rw[if_neg h1,zf]at hu⊢
    by_cases h2:hfN c≤y
    ·rw[if_pos h2]at hu;exact absurd rfl hu
    ·rw[if_neg h2]
     exact h x y hc hx hy h0 (fun _=>by omega) (fun _=>by omega) t w
  ·rw[if_neg hs]
   exact h x y hc hx hy h0 (fun h=>absurd h hs) (fun h=>absurd h hs) t w
theorem aoi {ρ:Ren} {op:BinOp} {c:Nat} {f:Nat→Nat→AV} (h: ∀x y j,c<8→x<mdN c→j<8→y<mdN j→(y9 j=true→y<hfN j)→f x (min y (jP c))≠ .un→ ∀t w,∃v,(binOp op t (.int (zh c) (toI c x)) (.int (zh j) (toI j y))).run P w= .ok v w∧VR ρ (f x (min y (jP c))) v):B2 P ρ op (shC c f).f:=by
 intro t a b a' b' w ha hb hu
 obtain⟨k,x,rfl⟩:=yr hu
 have hu:xo b (fun j y=> @Bool.rec (fun _=>AV) .un (@Bool.rec (fun _=>AV) (f x (Nat.min y (Nat.shiftLeft 8 (Nat.land c 3)))) .un (@Bool.rec (fun _=>Bool) false (Nat.ble (hfN j) y) (y9 j))) (Nat.beq k c))≠ .un:=hu
 obtain⟨j,y,rfl⟩:=yr hu
 have e:(shC c f).f (.int k x) (.int j y)=if k=c then(if(if y9 j=true then Nat.ble (hfN j) y else false)=true then .un else f x (min y (jP c)))else .un:=by
  show @Bool.rec (fun _=>AV) .un (@Bool.rec (fun _=>AV) (f x (Nat.min y (Nat.shiftLeft 8 (Nat.land c 3)))) .un (@Bool.rec (fun _=>Bool) false (Nat.ble (hfN j) y) (y9 j))) (Nat.beq k c)=_
  rw[zg,zN,zN];rfl
 have hq:(shC c f).f (.int k x) (.int j y)≠ .un:=hu
 clear hu
 rw[e]at hq⊢
 by_cases h1:k=c
 ·rw[if_pos h1]at hq⊢
  subst h1
  by_cases h2:(if y9 j=true then Nat.ble (hfN j) y else false)=true
  ·rw[if_pos h2]at hq;exact absurd rfl hq
  ·rw[if_neg h2]at hq⊢
   obtain⟨v1,l1,c1⟩:=zA.1 ha
   obtain⟨v2,l2,c2⟩:=zA.1 hb
   subst v1;subst v2
   refine h x y j c1 l1 c2 l2 (fun hs=>?_) hq t w
   rw[if_pos hs,zy]at h2;omega
 ·rw[if_neg h1]at hq;exact absurd rfl hq
theorem vi (b:Bool):not b= !b:=by cases b<;>rfl
theorem aAG {ρ:Ren} (op:BinOp) (c:Nat):B2 P ρ op (aSq op c).f:=by
 cases op
 case add=>exact xn fun x y hc hx hy _ t w=>aCF hc hx hy t w
 case sub=>exact xn fun x y hc hx hy _ t w=>aCL hc hx hy t w
 case mul=>exact xn fun x y hc hx hy _ t w=>aCG hc hx hy t w
 case quo=>exact agx fun x y hc hx hy h0 h1 h2 t w=>aCH hc hx hy h0 h1 h2 t w
 case rem=>exact agx fun x y hc hx hy h0 h1 h2 t w=>aCI hc hx hy h0 h1 h2 t w
 case and=>exact xn fun x y hc hx hy _ t w=>Xy .and hc hx hy _ t w (.inl ⟨rfl,rfl⟩)
 case or=>exact xn fun x y hc hx hy _ t w=>Xy .or hc hx hy _ t w (.inr (.inl ⟨rfl,rfl⟩))
 case xor=>exact xn fun x y hc hx hy _ t w=>Xy .xor hc hx hy _ t w (.inr (.inr (.inl ⟨rfl,rfl⟩)))
 case andNot=>exact xn fun x y hc hx hy _ t w=>Xy .andNot hc hx hy _ t w (.inr (.inr (.inr ⟨rfl,rfl⟩)))
 case shl=>exact aoi fun x y j hc hx hj hy h2 _ t w=>aCJ hc hx hj hy h2 t w
 case shr=>
  refine aoi fun x y j hc hx hj hy h2 hu t w=>?_
  rw[zN,zN]at hu⊢
  by_cases h1:(if y9 c=true then Nat.ble (hfN c) x else false)=true
  ·rw[if_pos h1]at hu;exact absurd rfl hu
  ·rw[if_neg h1]
   exact aCK hc hx hj hy h2 (fun hs=>by rw[if_pos hs,zy]at h1;omega) t w
 case eql=>exact xn fun x y hc hx hy _ t w=>YU .eql hc hx hy _ t w (.inl ⟨rfl,zu x y⟩)
 case neq=>exact xn fun x y hc hx hy _ t w=>YU .neq hc hx hy _ t w (.inr (.inl ⟨rfl,by rw[vi,Bool.not_eq_true',Bool.eq_false_iff,ne_eq,zu]⟩))
 case lss=>exact Qm fun x y hc hx hy _ t w=>YU .lss hc hx hy _ t w (.inr (.inr (.inl ⟨rfl,zy _ _⟩)))
 case leq=>exact Qm fun x y hc hx hy _ t w=>YU .leq hc hx hy _ t w (.inr (.inr (.inr (.inl ⟨rfl,zy _ _⟩))))
 case gtr=>exact Qm fun x y hc hx hy _ t w=>YU .gtr hc hx hy _ t w (.inr (.inr (.inr (.inr (.inl ⟨rfl,zy _ _⟩)))))
 case geq=>exact Qm fun x y hc hx hy _ t w=>YU .geq hc hx hy _ t w (.inr (.inr (.inr (.inr (.inr ⟨rfl,zy _ _⟩)))))
end Kv
end
end
section
noncomputable section
namespace Kv
open Go.RowKit
variable {P:Program}
section
variable {ρ:Ren} {l x m y:Nat} {s s':ByteArray}
theorem xC (h:SR l x s):s.size=l:=by
 have:=congrArg List.length h.1
 rw[List.length_map,zo]at this
 exact this
theorem vP: ∀ {a b:List UInt8},a.map UInt8.toNat=b.map UInt8.toNat→a=b
 | [],[],_=>rfl
 | [],_::_,h=>by cases h
 |_::_,[],h=>by cases h
 |a::x,b::y,h=>by
  simp only[List.map_cons,List.cons.injEq]at h
  rw[vP h.2,UInt8.toNat_inj.1 h.1]
theorem aot (h:SR l x s) (k:SR m y s'):(s.toList==s'.toList)=eqS l x m y:=by
 rw[ByteArray.toList_eq,ByteArray.toList_eq,Bool.eq_iff_iff,beq_iff_eq]
 unfold eqS
 rw[zg]
 constructor
 ·intro e
  have e1:=congrArg (List.map UInt8.toNat) e
  rw[h.1,k.1]at e1
  have e2:=congrArg List.length e1
  rw[zo,zo]at e2
  subst e2
  rw[if_pos rfl,zu]
  exact af7 h.2 k.2 e1
 ·intro e
  by_cases c:l=m
  ·rw[if_pos c,zu]at e
   subst c;subst e
   exact vP (h.1.trans k.1.symm)
  ·rw[if_neg c]at e;cases e
theorem aaD: ∀a b:List UInt8,Op.bytesLess a b=ltB (a.map UInt8.toNat) (b.map UInt8.toNat)
 |a,[]=>by cases a<;>rfl
 | [],_::_=>rfl
 |a::x,b::y=>by
  simp only[Op.bytesLess,List.map_cons,ltB,aaD x y]
  congr 2
  rw[Bool.eq_iff_iff,beq_iff_eq,beq_iff_eq,UInt8.toNat_inj]
theorem Zx (h:SR l x s) (k:SR m y s'):Op.bytesLess s.toList s'.toList=kG l x m y:=by
 rw[ByteArray.toList_eq,ByteArray.toList_eq,aaD,h.1,k.1,Qd h.2 k.2]
theorem Jt: ∀a b:List Nat,(ltB a b || (a==b))= !ltB b a
 | [],[]=>rfl
 | [],_::_=>rfl
 |_::_,[]=>rfl
 | a::x,b::y=>by
  have ih:=Jt x y
  simp only[ltB]
  rcases Nat.lt_trichotomy a b with h|h|h
  ·simp[h,Nat.not_lt_of_gt h,show¬b=a by omega]
  ·subst h
   simp only[Nat.lt_irrefl,decide_false,Bool.false_or,beq_self_eq_true,Bool.true_and]
   rw[←ih]
   congr 1
   simp
  ·simp[h,Nat.not_lt_of_gt h,show¬a=b by omega]
theorem ajW (h:SR l x s) (k:SR m y s'):(Op.bytesLess s.toList s'.toList || (s.toList==s'.toList))= !kG m y l x:=by
 rw[Zx h k,Qd h.2 k.2,Qd k.2 h.2,←Jt]
 congr 1
 rw[aot h k,Bool.eq_iff_iff]
 unfold eqS
 rw[zg,beq_iff_eq]
 constructor
 ·intro e
  by_cases c:l=m
  ·rw[if_pos c,zu]at e;rw[c,e]
  ·rw[if_neg c]at e;cases e
 ·intro e
  have e2:=congrArg List.length e
  rw[zo,zo]at e2
  subst e2
  rw[if_pos rfl,zu]
  exact af7 h.2 k.2 e
theorem aCy (h:SR l x s) (k:SR m y s'):SR (l+m) (jn x m y) (s++s'):=by
 refine⟨?_,aBj h.2 k.2⟩
 rw[af8 k.2,←h.1,←k.1,←List.map_append]
 congr 1
end
theorem vt {ρ:Ren} {op:BinOp} {f:Nat→Nat→Nat→Nat→AV} (h: ∀l x m y s s',SR l x s→SR m y s'→f l x m y≠ .un→ ∀w,∃v,(Op.stringOp op s s').run P w= .ok v w∧VR ρ (f l x m y) v) (h1:op≠ .shl∧op≠ .shr):B2 P ρ op (aok f).f:=by
 intro t a b a' b' w ha hb hu
 obtain⟨l,x,rfl⟩:=xV hu
 have hu:qU b (fun m y=>f l x m y)≠ .un:=hu
 obtain⟨m,y,rfl⟩:=xV hu
 obtain⟨s,rfl,hs⟩:=ha
 obtain⟨s',rfl,hs'⟩:=hb
 have:=h l x m y s s' hs hs' hu w
 cases op<;>first |exact this|exact absurd rfl h1.1|exact absurd rfl h1.2
theorem aAH {ρ:Ren} (op:BinOp):B2 P ρ op (aSr op).f:=by
 cases op
 case add=>
  refine vt (fun l x m y s s' h k hu w=>?_) ⟨(by decide),(by decide)⟩
  rw[zf]at hu⊢
  by_cases hl:Nat.add l m≤1000000
  ·rw[if_pos hl]
   change l+m≤1000000 at hl
   refine⟨.string (s++s'),?_,_,rfl,aCy h k⟩
   simp only[Op.stringOp]
   rw[xC h,xC k,if_neg]
   ·rfl
   ·show¬_>IntKind.i64.max
    rw[show IntKind.i64.max=9223372036854775807 from rfl];omega
  ·rw[if_neg hl]at hu;exact absurd rfl hu
 case eql=>exact vt (fun l x m y s s' h k _ w=>⟨.bool _,rfl,by show Value.bool _=_;rw[aot h k]⟩) ⟨(by decide),(by decide)⟩
 case neq=>exact vt (fun l x m y s s' h k _ w=>⟨.bool _,rfl,by show Value.bool _=_;rw[aot h k,vi]⟩) ⟨(by decide),(by decide)⟩
 case lss=>exact vt (fun l x m y s s' h k _ w=>⟨.bool _,rfl,by show Value.bool _=_;rw[Zx h k]⟩) ⟨(by decide),(by decide)⟩
 case geq=>exact vt (fun l x m y s s' h k _ w=>⟨.bool _,rfl,by show Value.bool _=_;rw[Zx h k,vi]⟩) ⟨(by decide),(by decide)⟩
 case gtr=>exact vt (fun l x m y s s' h k _ w=>⟨.bool _,rfl,by show Value.bool _=_;rw[ajW h k,Bool.not_not]⟩) ⟨(by decide),(by decide)⟩
 case leq=>exact vt (fun l x m y s s' h k _ w=>⟨.bool _,rfl,by show Value.bool _=_;rw[ajW h k,vi]⟩) ⟨(by decide),(by decide)⟩
 all_goals exact fun t a b a' b' w _ _ hu=>absurd rfl hu
theorem qE {ρ:Ren} {op:BinOp} {f:Nat→Nat→AV} (h: ∀x y,f x y≠ .un→ ∀t w,∃v,(binOp op t (.float .f64 x) (.float .f64 y)).run P w= .ok v w∧VR ρ (f x y) v):B2 P ρ op (aip f).f:=by
 intro t a b a' b' w ha hb hu
 obtain⟨x,rfl⟩:=Kn hu
 have hu:aje b (fun y=>f x y)≠ .un:=hu
 obtain⟨y,rfl⟩:=Kn hu
 obtain rfl:=ha
 obtain rfl:=hb
 exact h x y hu t w
theorem anY (c:Option Ordering):isO c false true false=(c==some .eq):=by cases c with |none=>rfl|some o=>cases o<;>rfl
theorem aMA (c:Option Ordering):isO c true false false=(c==some .lt):=by cases c with |none=>rfl|some o=>cases o<;>rfl
theorem aMy (c:Option Ordering):isO c false false true=(c==some .gt):=by cases c with |none=>rfl|some o=>cases o<;>rfl
theorem aMz (c:Option Ordering):isO c true true false=(c==some .lt || c==some .eq):=by cases c with |none=>rfl|some o=>cases o<;>rfl
theorem aMx (c:Option Ordering):isO c false true true=(c==some .gt || c==some .eq):=by cases c with |none=>rfl|some o=>cases o<;>rfl
theorem aho {ρ:Ren} {r:Option Nat} (hu:oFl r≠ .un): ∃z,r=some z∧VR ρ (oFl r) (.float .f64 z):=by
 cases r with
 |none=>exact absurd rfl hu
 |some z=>exact⟨z,rfl,rfl⟩
theorem aAF {ρ:Ren} (op:BinOp):B2 P ρ op (aSp op).f:=by
 cases op
 case eql=>exact qE fun x y _ t w=>⟨.bool _,rfl,by show Value.bool _=_;rw[anY];rfl⟩
 case neq=>exact qE fun x y _ t w=>⟨.bool _,rfl,by show Value.bool _=_;rw[anY,vi];rfl⟩
 case lss=>exact qE fun x y _ t w=>⟨.bool _,rfl,by show Value.bool _=_;rw[aMA];rfl⟩
 case leq=>exact qE fun x y _ t w=>⟨.bool _,rfl,by show Value.bool _=_;rw[aMz];rfl⟩
 case gtr=>exact qE fun x y _ t w=>⟨.bool _,rfl,by show Value.bool _=_;rw[aMy];rfl⟩
 case geq=>exact qE fun x y _ t w=>⟨.bool _,rfl,by show Value.bool _=_;rw[aMx];rfl⟩
 case add=>
  refine qE fun x y hu t w=>?_
  obtain⟨z,hz,hv⟩:=aho (ρ:=ρ) hu
  refine⟨_,?_,hv⟩
  show(Op.floatArith .add .f64 x y).run P w=_
  unfold Op.floatArith
  simp only[hz];rfl
 case sub=>
  refine qE fun x y hu t w=>?_
  obtain⟨z,hz,hv⟩:=aho (ρ:=ρ) hu
  refine⟨_,?_,hv⟩
  show(Op.floatArith .sub .f64 x y).run P w=_
  unfold Op.floatArith
  simp only[hz];rfl
 case mul=>
  refine qE fun x y hu t w=>?_
  obtain⟨z,hz,hv⟩:=aho (ρ:=ρ) hu
  refine⟨_,?_,hv⟩
  show(Op.floatArith .mul .f64 x y).run P w=_
  unfold Op.floatArith
  simp only[hz];rfl
 all_goals exact fun t a b a' b' w _ _ hu=>absurd rfl hu
end Kv
end
end
section
noncomputable section
namespace Kv
open Go.RowKit
variable {P:Program}
def E2 (P:Program) (ρ:Ren) (t:TypeId) (f:AV→AV→(Bool→AV)→AV):Prop:= ∀(a b:AV) (φ:Bool→AV) (a' b':Value) (w:World),VR ρ a a'→VR ρ b b'→f a b φ≠ .un→ ∃r,(Op.equal t a' b').run P w= .ok r w∧f a b φ=φ r∧(∀op,op= .eql∨op= .neq→(binOp op t a' b').run P w= .ok (.bool (if op= .eql then r else !r)) w)
theorem yp (t:TypeId) (x y:Value):Op.equal t x y=Op.equalIn 10000 t x y:=rfl
theorem jj {t:TypeId} {x y:Value} {r:Bool} {w:World} (hx:(∀k n,x≠ .int k n)∧(∀k n,x≠ .float k n)∧(∀k n m,x≠ .complex k n m)∧(∀s,x≠ .string s)) (h:(Op.equal t x y).run P w= .ok r w): ∀op,op= .eql∨op= .neq→(binOp op t x y).run P w= .ok (.bool (if op= .eql then r else !r)) w:=by
 rintro op (rfl|rfl)
 ·have e:binOp .eql t x y=(do pure (.bool (←Op.equal t x y))):=by
   cases x<;>first |rfl|exact absurd rfl (hx.1 _ _) |exact absurd rfl (hx.2.1 _ _) |exact absurd rfl (hx.2.2.1 _ _ _) |exact absurd rfl (hx.2.2.2 _)
  rw[e,rb h];rfl
 ·have e:binOp .neq t x y=(do pure (.bool (!(←Op.equal t x y)))):=by
   cases x<;>first |rfl|exact absurd rfl (hx.1 _ _) |exact absurd rfl (hx.2.1 _ _) |exact absurd rfl (hx.2.2.1 _ _ _) |exact absurd rfl (hx.2.2.2 _)
  rw[e,rb h];rfl
theorem aCh {t:TypeId} {d:TypeDesc} (hd:P.underlying t=some d) (x y:Value) (w:World) (s:Sem Bool) (n:Nat) (h:Op.equalIn (n+1) t x y=(underlying t>>=fun d'=>s)∨True):True:=trivial
theorem aRu {ρ:Ren} {t:TypeId} (hd:P.underlying t=some .bool):E2 P ρ t aSw:=by
 intro a b φ a' b' w ha hb hu
 obtain⟨x,rfl⟩:=Yq hu
 have hu:Jx b (fun y=>φ (@Bool.rec (fun _=>Bool) (not y) y x))≠ .un:=hu
 obtain⟨y,rfl⟩:=Yq hu
 obtain rfl:=ha
 obtain rfl:=hb
 have h1:(Op.equal t (.bool x) (.bool y)).run P w= .ok (x==y) w:=by
  rw[yp]
  unfold Op.equalIn
  rw[rb (zb hd w)];rfl
 refine⟨x==y,h1,?_,jj ⟨(fun _ _ e=>by cases e),(fun _ _ e=>by cases e),(fun _ _ _ e=>by cases e),(fun _ e=>by cases e)⟩ h1⟩
 show φ (@Bool.rec (fun _=>Bool) (not y) y x)=_
 congr 1
 cases x<;>cases y<;>rfl
theorem aRB {ρ:Ren} {t:TypeId} {a1 a2 a3} (hd:P.underlying t=some (.func a1 a2 a3)):E2 P ρ t aNr:=by
 intro a b φ a' b' w ha hb hu
 have key: ∀r,(Op.equal t a' b').run P w= .ok r w→aNr a b φ=φ r→((∀k n,a'≠ .int k n)∧(∀k n,a'≠ .float k n)∧(∀k n m,a'≠ .complex k n m)∧(∀s,a'≠ .string s))→ ∃r,(Op.equal t a' b').run P w= .ok r w∧aNr a b φ=φ r∧(∀op,op= .eql∨op= .neq→(binOp op t a' b').run P w= .ok (.bool (if op= .eql then r else !r)) w):=fun r h1 h2 h3=>⟨r,h1,h2,jj h3 h1⟩
 cases a
 case nilf=>
  obtain rfl:=ha
  cases b
  case nilf=>
   obtain rfl:=hb
   exact key true (by rw[yp];unfold Op.equalIn;rw[rb (zb hd w)];rfl) rfl ⟨(fun _ _ e=>by cases e),(fun _ _ e=>by cases e),(fun _ _ _ e=>by cases e),(fun _ e=>by cases e)⟩
  case fn f c d=>
   obtain⟨c',d',rfl,_⟩:=hb
   exact key false (by rw[yp];unfold Op.equalIn;rw[rb (zb hd w)];rfl) rfl ⟨(fun _ _ e=>by cases e),(fun _ _ e=>by cases e),(fun _ _ _ e=>by cases e),(fun _ e=>by cases e)⟩
  all_goals exact absurd rfl hu
 case fn f c d=>
  obtain⟨c',d',rfl,_⟩:=ha
  cases b
  case nilf=>
   obtain rfl:=hb
   exact key false (by rw[yp];unfold Op.equalIn;rw[rb (zb hd w)];rfl) rfl ⟨(fun _ _ e=>by cases e),(fun _ _ e=>by cases e),(fun _ _ _ e=>by cases e),(fun _ e=>by cases e)⟩
  all_goals exact absurd rfl hu
 all_goals exact absurd rfl hu
theorem aSb {ρ:Ren} {t e:TypeId} (hd:P.underlying t=some (.slice e)):E2 P ρ t aNs:=by
 intro a b φ a' b' w ha hb hu
 have key: ∀r,(Op.equal t a' b').run P w= .ok r w→aNs a b φ=φ r→((∀k n,a'≠ .int k n)∧(∀k n,a'≠ .float k n)∧(∀k n m,a'≠ .complex k n m)∧(∀s,a'≠ .string s))→ ∃r,(Op.equal t a' b').run P w= .ok r w∧aNs a b φ=φ r∧(∀op,op= .eql∨op= .neq→(binOp op t a' b').run P w= .ok (.bool (if op= .eql then r else !r)) w):=fun r h1 h2 h3=>⟨r,h1,h2,jj h3 h1⟩
 have ho: ∀x n m,((∀k l,Value.slice x n m≠ .int k l)∧(∀k l,Value.slice x n m≠ .float k l)∧(∀k l p,Value.slice x n m≠ .complex k l p)∧(∀s,Value.slice x n m≠ .string s)):=fun x n m=>⟨(fun _ _ e=>by cases e),(fun _ _ e=>by cases e),(fun _ _ _ e=>by cases e),(fun _ e=>by cases e)⟩
 cases a
 case nils=>
  obtain rfl:=ha
  cases b
  case nils=>
   obtain rfl:=hb
   exact key true (by rw[yp];unfold Op.equalIn;rw[rb (zb hd w)];rfl) rfl (ho _ _ _)
  case sl i o l c=>
   obtain⟨g,κ,_,rfl,_⟩:=hb
   exact key false (by rw[yp];unfold Op.equalIn;rw[rb (zb hd w)];rfl) rfl (ho _ _ _)
  case sf i o l u=>
   obtain⟨g,κ,c,_,rfl,_⟩:=hb
   exact key false (by rw[yp];unfold Op.equalIn;rw[rb (zb hd w)];rfl) rfl (ho _ _ _)
  all_goals exact absurd rfl hu
 case sl i o l c=>
  obtain⟨g,κ,_,rfl,_⟩:=ha
  cases b
  case nils=>
   obtain rfl:=hb
   exact key false (by rw[yp];unfold Op.equalIn;rw[rb (zb hd w)];rfl) rfl (ho _ _ _)
  all_goals exact absurd rfl hu
 case sf i o l u=>
  obtain⟨g,κ,c,_,rfl,_⟩:=ha
  cases b
  case nils=>
   obtain rfl:=hb
   exact key false (by rw[yp];unfold Op.equalIn;rw[rb (zb hd w)];rfl) rfl (ho _ _ _)
  all_goals exact absurd rfl hu
 all_goals exact absurd rfl hu
theorem aMS {ρ:Ren} {t e:TypeId} (hd:P.underlying t=some (.pointer e)) (he:(zw P e).cells≠0):E2 P ρ t agB:=by
 intro a b φ a' b' w ha hb hu
 have key: ∀r,(Op.equal t a' b').run P w= .ok r w→agB a b φ=φ r→((∀k n,a'≠ .int k n)∧(∀k n,a'≠ .float k n)∧(∀k n m,a'≠ .complex k n m)∧(∀s,a'≠ .string s))→ ∃r,(Op.equal t a' b').run P w= .ok r w∧agB a b φ=φ r∧(∀op,op= .eql∨op= .neq→(binOp op t a' b').run P w= .ok (.bool (if op= .eql then r else !r)) w):=fun r h1 h2 h3=>⟨r,h1,h2,jj h3 h1⟩
 have ho: ∀x,((∀k l,Value.pointer x≠ .int k l)∧(∀k l,Value.pointer x≠ .float k l)∧(∀k l p,Value.pointer x≠ .complex k l p)∧(∀s,Value.pointer x≠ .string s)):=fun x=>⟨(fun _ _ e=>by cases e),(fun _ _ e=>by cases e),(fun _ _ _ e=>by cases e),(fun _ e=>by cases e)⟩
 obtain⟨i0,d0,F⟩:=zW (P:=P) (t:=e) (fun h=>he (by rw[h];rfl))
 cases a
 case nilp=>
  obtain rfl:=ha
  cases b
  case nilp=>
   obtain rfl:=hb
   exact key true (by rw[yp];unfold Op.equalIn;rw[rb (zb hd w)];rfl) rfl (ho _)
  case ptr i o=>
   obtain⟨g,κ,_,rfl⟩:=hb
   exact key false (by rw[yp];unfold Op.equalIn;rw[rb (zb hd w)];rfl) rfl (ho _)
  all_goals exact absurd rfl hu
 case ptr i o=>
  obtain⟨g,κ,e1,rfl⟩:=ha
  cases b
  case nilp=>
   obtain rfl:=hb
   exact key false (by rw[yp];unfold Op.equalIn;rw[rb (zb hd w)];rfl) rfl (ho _)
  case ptr j p=>
   obtain⟨g',κ',e2,rfl⟩:=hb
   have e:agB (.ptr i o) (.ptr j p) φ=if i=j then φ (Nat.beq o p)else .un:=zg _ _ _ _
   rw[e]at hu⊢
   by_cases h:i=j
   ·subst h
    rw[e1]at e2
    injection e2 with e2
    injection e2 with e3 e4
    subst e3
    rw[if_pos rfl]
    have h1:(Op.equal t (.pointer (some ⟨g,o,none⟩)) (.pointer (some ⟨g,p,none⟩))).run P w= .ok (Nat.beq o p) w:=by
     rw[yp]
     unfold Op.equalIn
     rw[rb (zb hd w)]
     simp only
     rw[rb (yk F.hi w),if_pos (by rw[F.size];exact he)]
     unfold sameAddr
     simp only[beq_self_eq_true,if_true]
     rw[rp]
     congr 1
     rw[Bool.eq_iff_iff,beq_iff_eq,zu]
     constructor
     ·intro h;injection h
     ·intro h;rw[h]
    exact⟨_,h1,rfl,jj (ho _) h1⟩
   ·rw[if_neg h]at hu;exact absurd rfl hu
  all_goals exact absurd rfl hu
 all_goals exact absurd rfl hu
theorem XU {ρ:Ren} {t:TypeId} {f:AV→AV→(Bool→AV)→AV} (hf:E2 P ρ t f) (op:BinOp) (a b:AV) (a' b':Value) (w:World) (ha:VR ρ a a') (hb:VR ρ b b') (hu:(aCc f op).f a b≠ .un): ∃v,(binOp op t a' b').run P w= .ok v w∧VR ρ ((aCc f op).f a b) v:=by
 cases op
 case eql=>
  obtain⟨r,h1,h2,h3⟩:=hf a b (fun x=> .bl x) a' b' w ha hb hu
  refine⟨_,h3 .eql (.inl rfl),?_⟩
  show VR ρ (f a b fun x=> .bl x) _
  rw[h2];rfl
 case neq=>
  obtain⟨r,h1,h2,h3⟩:=hf a b (fun x=> .bl (not x)) a' b' w ha hb hu
  refine⟨_,h3 .neq (.inr rfl),?_⟩
  show VR ρ (f a b fun x=> .bl (not x)) _
  rw[h2,vi];rfl
 all_goals exact absurd rfl hu
theorem aAE {ρ:Ren} (op:BinOp) (t:TypeId) (a b:AV) (a' b':Value) (w:World) (ha:VR ρ a a') (hb:VR ρ b b') (hu:(aiC P op t).f a b≠ .un): ∃v,(binOp op t a' b').run P w= .ok v w∧VR ρ ((aiC P op t).f a b) v:=by
 unfold aiC at hu⊢
 split at hu
 ·exact aAG op _ t a b a' b' w ha hb hu
 ·exact aAH op t a b a' b' w ha hb hu
 ·exact aAF op t a b a' b' w ha hb hu
 ·next hd=>exact XU (aRu hd) op a b a' b' w ha hb hu
 ·next e hd=>
  rw[zg]at hu⊢
  by_cases he:(zw P e).cells=0
  ·rw[if_pos he]at hu;exact absurd rfl hu
  ·rw[if_neg he]at hu⊢
   exact XU (aMS hd he) op a b a' b' w ha hb hu
 ·next hd=>exact XU (aSb hd) op a b a' b' w ha hb hu
 ·next hd=>exact XU (aRB hd) op a b a' b' w ha hb hu
 ·exact absurd rfl hu
def Kc (a:AV):Bool:=match a with | .agg _=>false| .ba _ _=>false| .nili=>false| .un=>false|_=>true
theorem jG {a:AV} (h:(∃c x,a= .int c x)∨(∃c x,a= .str c x)∨(∃x,a= .fl x)∨(∃x,a= .bl x)):Kc a=true:=by
 rcases h with⟨_,_,rfl⟩ | ⟨_,_,rfl⟩ | ⟨_,rfl⟩ | ⟨_,rfl⟩<;>rfl
theorem af1 {op:BinOp} {t:TypeId} {a b:AV} (hu:(aiC P op t).f a b≠ .un):Kc a=true:=by
 have h1: ∀φ f,xo a φ≠ .un→f=()→Kc a=true:=fun φ f h _=>jG (.inl (yr h))
 unfold aiC at hu
 split at hu
 ·next k _=>
  have hi: ∀f,(QJ (an1 k) f).f a b≠ .un→Kc a=true:=fun f h=>jG (.inl (yr h))
  have ho: ∀f,(an6 (an1 k) f).f a b≠ .un→Kc a=true:=fun f h=>by
   unfold an6 at h
   rw[zN]at h
   split at h
   ·exact hi _ h
   ·exact hi _ h
  cases op<;>first |exact hi _ hu|exact ho _ hu|exact jG (.inl (yr hu))
 ·cases op<;>first |exact jG (.inr (.inl (xV hu))) |exact absurd rfl hu
 ·cases op<;>first |exact jG (.inr (.inr (.inl (Kn hu)))) |exact absurd rfl hu
 ·cases op<;>first |exact jG (.inr (.inr (.inr (Yq hu)))) |exact absurd rfl hu
 ·rw[zg]at hu
  split at hu
  ·exact absurd rfl hu
  ·cases op<;>first |exact absurd rfl hu| (cases a<;>first |rfl|exact absurd rfl hu)
 ·cases op<;>first |exact absurd rfl hu| (cases a<;>first |rfl|exact absurd rfl hu)
 ·cases op<;>first |exact absurd rfl hu| (cases a<;>first |rfl|exact absurd rfl hu)
 ·exact absurd rfl hu
theorem aiW {ρ:Ren} {a:AV} {a':Value} (ha:VR ρ a a') (h:Kc a=true) (op:BinOp) (t:TypeId) (x y:Operand) (b':Value) (w:World):(eqGuard op t x y a' b').run P w= .ok () w:=by
 have hc:(∀cs,a'≠ .agg cs)∧a'≠ .nilIface:=by
  cases a<;>first
   | (cases h;done)
   | (obtain rfl:_=_:=ha;exact⟨(fun _ e=>by cases e),(fun e=>by cases e)⟩)
   | (obtain⟨rfl,_⟩:=ha;exact⟨(fun _ e=>by cases e),(fun e=>by cases e)⟩)
   | (obtain⟨_,rfl,_⟩:=ha;exact⟨(fun _ e=>by cases e),(fun e=>by cases e)⟩)
   | (obtain⟨_,_,rfl⟩:=ha;exact⟨(fun _ e=>by cases e),(fun e=>by cases e)⟩)
   | (obtain⟨_,_,rfl,_⟩:=ha;exact⟨(fun _ e=>by cases e),(fun e=>by cases e)⟩)
   | (obtain⟨_,_,_,rfl⟩:=ha;exact⟨(fun _ e=>by cases e),(fun e=>by cases e)⟩)
   | (obtain⟨_,_,_,rfl,_⟩:=ha;exact⟨(fun _ e=>by cases e),(fun e=>by cases e)⟩)
   | (obtain⟨_,_,_,_,rfl,_⟩:=ha;exact⟨(fun _ e=>by cases e),(fun e=>by cases e)⟩)
 cases op<;>first |rfl| (cases a'<;>first |rfl|exact absurd rfl (hc.1 _) |exact absurd rfl hc.2)
end Kv
end
end
section
noncomputable section
namespace Kv
open Go.RowKit
variable {P:Program}
def RR (ρ:Ren) (r:RG) (a:Act):Prop:= ∀k,k<512→VR ρ (xj r k) (a.tmps.getD k undef)
theorem RR.mono {ρ ρ':Ren} {r:RG} {a:Act} (h:RLe ρ ρ') (k:RR ρ r a):RR ρ' r a:=fun i hi=>(k i hi).mono h
theorem zr {ρ:Ren} {r:RG} {a:Act} (rr:RR ρ r a) (x:Operand) (hu:(zx x).f r≠ .un):VR ρ ((zx x).f r) (a.eval x):=by
 cases x with
 |tmp t=>
  rcases Nat.lt_or_ge t 512 with h|h
  ·exact rr t h
  ·exact absurd (vJ r h) hu
 |const v=>exact agt ρ v hu
 |global g=>exact absurd rfl hu
 |func f=>exact⟨#[],#[],rfl,rfl,rfl⟩
theorem aCM {ρ:Ren} {r:RG} {a:Act} (rr:RR ρ r a) {x:Operand} (h:aR5 x=true):(zx x).f r≠ .un:=by
 cases x with
 |tmp t=>
  have h:t≤511:=(zy _ _).1 h
  intro e
  have:=rr t (Nat.lt_succ_of_le h)
  change VR ρ ((zx (.tmp t)).f r) _ at this
  rw[e]at this
  exact this.elim
 |const v=>
  intro e
  have e:cvt v= .un:=e
  change not (aSA (cvt v))=true at h
  rw[e]at h;cases h
 |global g=>cases h
 |func f=>intro e;cases e
theorem Xz {ρ:Ren} {r:RG} {a:Act} (rr:RR ρ r a): ∀(l:List Operand),xQ l=true→VRs ρ ((xk l).f r) (l.map a.eval)
 | [],_=>rfl
 | x::l,h=>by
  change @Bool.rec (fun _=>Bool) false (xQ l) (aR5 x)=true at h
  rw[zN]at h
  split at h
  ·next hx=>
   have e:(xk (x::l)).f r=(zx x).f r::(xk l).f r:=by
    unfold xk
    simp only[zl]
    cases l<;>rfl
   rw[e]
   exact⟨_,_,rfl,zr rr x (aCM rr hx),Xz rr l h⟩
  ·cases h
def Xw (ρ:Ren) (n c:Nat):Src→List Value→Prop
 | .bad,_=>False
 | .b m y,cs=>m=n∧c=1∧cs=byC n y∧y<256^n
 | .t s i,cs=>0<c∧cs.length=c*n∧ ∀k,k<n→UR ρ c (s.get (i+k)) (yx cs c k)
 | .c l,cs=>VRs ρ l cs∧l.all sca=true∧cs.length=c*n∧(c=1∨l=[])
theorem Xw.length {ρ:Ren} {n c:Nat} {s:Src} {cs:List Value} (h:Xw ρ n c s cs):cs.length=c*n:=by
 cases s with
 |bad=>exact h.elim
 |b m y=>obtain⟨_,h1,h2,_⟩:=h;rw[h2,zG,h1];omega
 |t s i=>exact h.2.1
 |c l=>exact h.2.2.1
theorem UR.one {ρ:Ren} {u:Nat} {a:AV} {cs:List Value} (h:UR ρ u a cs): ∀x∈cs,air x=true:=Zy h.vs h.sc
theorem Xw.one {ρ:Ren} {n c:Nat} {s:Src} {cs:List Value} (h:Xw ρ n c s cs): ∀x∈cs,air x=true:=by
 cases s with
 |bad=>exact h.elim
 |b m y=>obtain⟨_,_,h2,_⟩:=h;rw[h2];exact Zy (jA ρ n y) (jM n y)
 |c l=>exact Zy h.1 h.2.1
 | t s i=>
  obtain⟨h0,h1,h2⟩:=h
  intro x hx
  obtain⟨k,hk⟩:=List.mem_iff_getElem?.1 hx
  have hlt:=(List.getElem?_eq_some_iff.1 hk).1
  have hd:=Zb k c
  have hm:=Nat.mod_lt k h0
  have hkn:k / c<n:=by
   rw[Nat.div_lt_iff_lt_mul h0,Nat.mul_comm];omega
  refine(h2 (k / c) hkn).one x (List.mem_iff_getElem?.2 ⟨k%c,?_⟩)
  rw[xG,if_pos hm,hd];exact hk
theorem Zf {b o l k n c:Nat} {cs:Array Value} {tid:TypeId} {fr:Nat×Nat} {w:World} (hb:w.heap[b]? =some (.cells cs tid fr)) (h:o+n*c≤cs.size):(Builtin.firstCells c n (.slice (some ⟨b,o,none⟩) l k)).run P w= .ok ((cs.toList.drop o).take (n*c)).toArray w:=Yv hb h
theorem V4 {α:Type} (l:List α) (c i n k:Nat) (hk:k<n):yx ((l.drop (i*c)).take (n*c)) c k=yx l c (i+k):=by
 apply List.ext_getElem?
 intro m
 rw[xG,xG]
 by_cases hm:m<c
 ·have:(k+1)*c≤n*c:=Nat.mul_le_mul_right _ hk
  rw[Nat.add_mul]at this
  rw[if_pos hm,if_pos hm,List.getElem?_take_of_lt (by omega),List.getElem?_drop]
  congr 1
  rw[Nat.add_mul];omega
 ·rw[if_neg hm,if_neg hm]
theorem ajC {ρ:Ren} {h:HP} {n c i o b κ:Nat} {u8:Bool} {ob:Obj} {w:World} (h8:u8=true→c=1) (hc:0<c) (hb:w.heap[b]? =some ob) (hB:BR ρ κ (h.get i) ob) (hu:zQ.go h n c u8 i o≠ .bad):
  ∃cs tid fr,ob= .cells cs tid fr∧o+n*c≤cs.size∧Xw ρ n c (zQ.go h n c u8 i o) ((cs.toList.drop o).take (n*c)):=by
 unfold zQ.go at hu⊢
 generalize h.get i=blk at *
 cases blk with
 |dead=>exact absurd rfl hu
 |si l x p=>exact absurd rfl hu
 | «by» l x=>
  obtain⟨cs,tid,fr,rfl,k1,k2,k3,k4,k5⟩:=hB
  simp only at hu⊢
  rw[zN]at hu⊢
  by_cases h1:u8=true
  ·have hc1:=h8 h1
   subst hc1
   rw[if_pos h1,zf]at hu⊢
   by_cases h2:Nat.add o n≤l
   ·rw[if_pos h2]
    have h2:o+n≤l:=h2
    refine⟨cs,tid,fr,rfl,by omega,rfl,rfl,?_,?_⟩
    ·have e1:=vc (l:=l) (x:=x) (i:=o) (j:=o+n) (by omega) h2
     rw[show o+n-o=n by omega]at e1
     show _=byC n (sub l x o (o+n))
     unfold byC
     rw[e1,List.map_drop,List.map_take]
     change _=((byC l x).take (o+n)).drop o
     rw[←k5,List.take_take,Nat.min_eq_left h2,List.drop_take,show o+n-o=n by omega,Nat.mul_one]
    ·have:=Zh l x o (o+n)
     rwa[show o+n-o=n by omega]at this
   ·rw[if_neg h2]at hu;exact absurd rfl hu
  ·rw[if_neg h1]at hu;exact absurd rfl hu
 | row u m t=>
  obtain⟨cs,tid,fr,rfl,k1,k2,k3,k4,k5,k6⟩:=hB
  have hdm:=Zb o u
  have hcl:cs.toList.length=cs.size:=Array.length_toList
  simp only at hu⊢
  rw[zN]at hu⊢
  by_cases h1:u8=true
  ·have hc1:=h8 h1
   subst hc1
   rw[if_pos h1,zf]at hu⊢
   by_cases h2:m≤Nat.div o u
   ·rw[if_pos h2]at hu;exact absurd rfl hu
   ·rw [if_neg h2]at hu⊢
    have h2':o / u<m:=by have:=Nat.lt_of_not_le h2;exact this
    have hU:=k6 (o / u) h2'
    have hm:(o / u+1)*u≤m*u:=Nat.mul_le_mul_right _ h2'
    rw[Nat.add_mul,Nat.mul_comm m]at hm
    change (match t.get (o / u)with | .ba l x=>_|_=>_:Src)≠_ at hu
    change∃cs' tid' fr',Obj.cells cs tid fr=_∧_∧Xw ρ n 1 (match t.get (o / u)with | .ba l x=>_|_=>_) _
    generalize t.get (o / u)=a at *
    cases a
    case ba l x=>
     simp only at hu⊢
     rw[zf]at hu⊢
     by_cases h3:Nat.add (Nat.mod o u) n≤l
     ·rw[if_pos h3]
      have h3:o%u+n≤l:=h3
      have hlu:l=u:=by
       have:=VRs.length _ _ hU.vs
       rw[hU.len]at this
       rw[←this]
       show l=(xE l x).length
       rw[yw,List.length_map,zo]
      subst hlu
      have hv:=yL hU.vs
      refine⟨cs,tid,fr,rfl,by omega,rfl,rfl,?_,?_⟩
      ·have e1:=vc (l:=l) (x:=x) (i:=o%l) (j:=o%l+n) (by omega) h3
       rw[show o%l+n-o%l=n by omega]at e1
       show _=byC n (sub l x (o%l) (o%l+n))
       unfold byC
       rw[e1,List.map_drop,List.map_take]
       change _=((byC l x).take (o%l+n)).drop (o%l)
       rw[←hv,List.take_take,Nat.min_eq_left h3,List.drop_take,List.drop_drop,hdm,show o%l+n-o%l=n by omega,Nat.mul_one]
      ·have:=Zh l x (o%l) (o%l+n)
       rwa[show o%l+n-o%l=n by omega]at this
     ·rw[if_neg h3]at hu;exact absurd rfl hu
    all_goals exact absurd rfl hu
  ·rw [if_neg h1,zg]at hu⊢
   by_cases h2:u=c
   ·subst h2
    rw[if_pos rfl,zf]at hu⊢
    by_cases h3:Nat.add (Nat.div o u) n≤m
    ·rw[if_pos h3,zg]at hu⊢
     have h3:o / u+n≤m:=h3
     by_cases h4:Nat.mod o u=0
     ·rw[if_pos h4]
      have h4:o%u=0:=h4
      have hm:(o / u+n)*u≤m*u:=Nat.mul_le_mul_right _ h3
      rw[Nat.add_mul,Nat.mul_comm m]at hm
      have ho:o=o / u*u:=by omega
      refine⟨cs,tid,fr,rfl,by omega,hc,?_,fun k hk=>?_⟩
      ·rw[List.length_take,List.length_drop,Nat.mul_comm u];omega
      ·have e:=V4 cs.toList u (o / u) n k hk
       rw[←ho]at e
       rw[e]
       exact k6 (o / u+k) (by omega)
     ·rw[if_neg h4]at hu;exact absurd rfl hu
    ·rw[if_neg h3]at hu;exact absurd rfl hu
   ·rw [if_neg h2,zg]at hu⊢
    by_cases h3:c=1
    ·subst h3
     rw[if_pos rfl,zf]at hu⊢
     by_cases h4:m≤Nat.div o u
     ·rw[if_pos h4]at hu;exact absurd rfl hu
     ·rw [if_neg h4]at hu⊢
      have h4:o / u<m:=by have:=Nat.lt_of_not_le h4;exact this
      have hU:=k6 (o / u) h4
      have hm:(o / u+1)*u≤m*u:=Nat.mul_le_mul_right _ h4
      rw[Nat.add_mul,Nat.mul_comm m]at hm
      change (match t.get (o / u)with | .agg l=>_|_=>_:Src)≠_ at hu
      change∃cs' tid' fr',Obj.cells cs tid fr=_∧_∧Xw ρ n 1 (match t.get (o / u)with | .agg l=>_|_=>_) _
      generalize t.get (o / u)=a at *
      cases a
      case agg l=>
       simp only at hu⊢
       rw[zf,xU,aa8,aao]at hu⊢
       by_cases h5:Nat.add (Nat.mod o u) n≤l.length
       ·rw[if_pos h5]
        have h5:o%u+n≤l.length:=h5
        have hlu:l.length=u:=by rw[←hU.len];exact VRs.length _ _ hU.vs
        refine⟨cs,tid,fr,rfl,by omega,?_,xT _ (xS _ hU.sc),?_,.inl rfl⟩
        ·have:=(hU.vs.drop (o%u)).take n
         rw[List.drop_take,List.take_take,List.drop_drop,hdm,Nat.min_eq_left (by omega)]at this
         rw[Nat.mul_one];exact this
        ·rw[List.length_take,List.length_drop];omega
       ·rw[if_neg h5]at hu;exact absurd rfl hu
      all_goals exact absurd rfl hu
    ·rw[if_neg h3]at hu;exact absurd rfl hu
theorem aNy {v:AV} {φ:Nat→AV} (h:an5 v φ≠ .un): ∃l,ag9 v=some l∧an5 v φ=φ l:=by cases v<;>first |exact⟨_,rfl,rfl⟩ |exact absurd rfl h
theorem ahq {v:AV} {φ:Nat→R} (h:Zc v φ≠none): ∃l,ag9 v=some l∧Zc v φ=φ l:=by cases v<;>first |exact⟨_,rfl,rfl⟩ |exact absurd rfl h
theorem YS {ρ:Ren} {v:AV} {v':Value} {l:Nat} (h:VR ρ v v') (hl:ag9 v=some l) (w:World):(Builtin.lenOf v').run P w= .ok l w:=by
 cases v<;>first
  | (cases hl;done)
  | (injection hl with hl;subst hl;obtain⟨_,rfl,k⟩:=h;rw[←xC k];rfl)
  | (injection hl with hl;subst hl;obtain rfl:_=_:=h;rfl)
  | (injection hl with hl;subst hl;obtain⟨_,_,rfl⟩:=h;rfl)
  | (injection hl with hl;subst hl;obtain⟨_,_,_,rfl,_⟩:=h;rfl)
  | (injection hl with hl;subst hl;obtain⟨_,_,_,_,rfl,_⟩:=h;rfl)
theorem YE {ρ:Ren} {h:HP} {w:World} (hr:HR ρ h w) {n c l:Nat} {u8:Bool} (h8:u8=true→c=1) (hc:0<c) {v:AV} {v':Value} (hv:VR ρ v v') (hl:ag9 v=some l) (hn:n≤l) (hstr: ∀l x,v= .str l x→c=1) (hu:zQ h v n c u8≠ .bad):
  ∃cs:List Value,(Builtin.firstCells c n v').run P w= .ok cs.toArray w∧Xw ρ n c (zQ h v n c u8) cs:=by
 have hgo: ∀i o b κ k m,ρ i=some (b,κ)→v'= .slice (some ⟨b,o,none⟩) k m→zQ.go h n c u8 i o≠ .bad→ ∃cs:List Value,(Builtin.firstCells c n v').run P w= .ok cs.toArray w∧Xw ρ n c (zQ.go h n c u8 i o) cs:=fun i o b κ k m hi e hu=>by
  obtain⟨_,ob,h1,h2⟩:=hr.at_ i b κ hi
  obtain⟨cs,tid,fr,rfl,h3,h4⟩:=ajC h8 hc h1 h2 hu
  rw[e]
  exact⟨_,Zf h1 h3,h4⟩
 cases v
 case nils=>
  injection hl with hl
  obtain rfl:=hv
  have:n=0:=by omega
  subst this
  exact⟨[],rfl,rfl,rfl,rfl,.inr rfl⟩
 case se=>
  injection hl with hl
  obtain⟨a,k,rfl⟩:=hv
  have:n=0:=by omega
  subst this
  refine⟨[],?_,rfl,rfl,rfl,.inr rfl⟩
  cases a with
  |none=>rfl
  |some a=>
   show(loadCells a (0*c)).run P w=_
   rw[Nat.zero_mul];rfl
 case str l' x=>
  injection hl with hl
  subst hl
  obtain⟨s,rfl,hs⟩:=hv
  have hc1:=hstr _ _ rfl
  subst hc1
  have e:zQ h (.str l' x) n 1 u8=if n≤l' then .b n (sub l' x 0 n)else .bad:=zf _ _ _ _
  rw[e,if_pos hn]
  refine⟨byC n (sub l' x 0 n),?_,rfl,rfl,rfl,?_⟩
  ·show(pure ((s.extract 0 n).data.map fun b=>Value.int .u8 b.toNat):Sem (Array Value)).run P w=_
   rw[rp]
   congr 1
   apply Array.ext'
   have e1:=vc (l:=l') (x:=x) (i:=0) (j:=n) (by omega) hn
   rw[List.drop_zero,Nat.sub_zero]at e1
   show _=byC n (sub l' x 0 n)
   unfold byC
   rw[e1,←hs.1]
   simp[ByteArray.data_extract,List.map_take]
   rfl
  ·have:=Zh l' x 0 n
   rwa[Nat.sub_zero]at this
 case sl i o l' k=>
  obtain⟨b,κ,e1,e2,_⟩:=hv
  exact hgo i o b κ _ _ e1 e2 hu
 case sf i o l' k=>
  obtain⟨b,κ,m,e1,e2,_⟩:=hv
  exact hgo i o b κ _ _ e1 e2 hu
 all_goals exact absurd rfl hu
end Kv
end
end
end Go.Proofs.YtcdiljebkpikbaaGreat
