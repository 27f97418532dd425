/- Parts of the proof: Fl Mc Q Fs Mk Vwa Fm Sa Po Tb Tf Na Nb Nc Ga Gd Hc Hd He Hg Kza. -/
import GoSem.Core.Float
import Derived.Deep.Quiet
import Derived.Deep.QuietTactic
import Derived.Tactics2
import Derived.KernelRfl
import Derived.WalkKit
import Derived.WalkSpells
import Derived.WalkLawsBesides
import Derived.Laws.IdiomCopy
import Derived.Laws.AppendOwn
import Derived.Lib.ConvBytes
import Derived.Lib.SmallJoins
import Derived.Lib.Hide
import Derived.Laws.Append
import Derived.Deep.AppendSrc
import Derived.BigQuiet
import Derived.Lib.AppendStr
import Derived.Deep.LoopGhost
import Derived.Handy
import Derived.Deep.AppendLies
import Derived.Shelf.Abstract
import Derived.ArgAppend
import Derived.Laws.AppendOwnNone
import Derived.Deep.RegionHeld3
import Derived.Laws.Cover1
import Derived.Laws.IdiomStrings
import Derived.StillTailTactics
import Derived.Lib.Bytealg
import Derived.Lib.SliceRun
import Derived.Deep.RegionLaw
import Derived.Lib.AppendZerosOnto
import Derived.Lib.AppendZeros
import Derived.Lib.Overlaps
import Derived.Laws.Externs
import Derived.Laws.NewBlocks
import Derived.Maps.AppendAt
import Derived.Test.YtcdiljebkpikbaaGreatS10
set_option linter.all false
set_option maxRecDepth 100000
set_option maxHeartbeats 64000000
namespace Go.Proofs.YtcdiljebkpikbaaGreat
section
open Ieee
def abv (x y:Nat):Option Ordering:=FloatKind.f64.format.order x y
def jm (x:Nat):Bool:=abv x x != some .eq
def IR:Nat:=9218868437227405312
theorem agG:Ieee.double.signWeight=9223372036854775808:=by decide
theorem agD:Ieee.double.binade=4503599627370496:=by decide
theorem agE:Ieee.double.infRung=9218868437227405312:=by decide
theorem agF:Ieee.double.leastPlace= -1074:=by decide
def Xo (r:Nat):Nat:=if r<4503599627370496 then r else(4503599627370496+r%4503599627370496)*2^(r / 4503599627370496-1)
theorem JI (r:Nat):Xo r<Xo (r+1):=by
 unfold Xo
 generalize hB:4503599627370496=B
 have hB0:0<B:=by omega
 by_cases h1:r+1<B
 ·rw[if_pos (by omega),if_pos h1];omega
 ·rw [if_neg h1]
  by_cases h2:r<B
  ·have h3:r+1=B:=by omega
   rw[if_pos h2,h3]
   simp[Nat.div_self hB0]
   omega
  ·rw[if_neg h2]
   have hd:=Nat.div_add_mod r B
   have hd':=Nat.div_add_mod (r+1) B
   have hm:=Nat.mod_lt r hB0
   have hm':=Nat.mod_lt (r+1) hB0
   by_cases h4:r%B+1<B
   ·have e1:(r+1) / B=r / B:=by
     have:r+1=B*(r / B)+(r%B+1):=by omega
     rw[this,Nat.mul_add_div hB0,Nat.div_eq_of_lt h4];simp
    have e2:(r+1)%B=r%B+1:=by
     have:r+1=B*(r / B)+(r%B+1):=by omega
     rw[this,Nat.mul_add_mod,Nat.mod_eq_of_lt h4]
    rw[e1,e2]
    have hp:0<2^(r / B-1):=Nat.two_pow_pos _
    exact Nat.mul_lt_mul_of_pos_right (by omega) hp
   ·have h5:r%B+1=B:=by omega
    have h6:r+1=B*(r / B+1):=by rw[Nat.mul_add];omega
    have e1:(r+1) / B=r / B+1:=by rw[h6,Nat.mul_div_cancel_left _ hB0]
    have e2:(r+1)%B=0:=by rw[h6,Nat.mul_mod_right]
    rw[e1,e2]
    have hq:1≤r / B:=(Nat.le_div_iff_mul_le hB0).2 (by omega)
    have e3:r / B+1-1=(r / B-1)+1:=by omega
    rw[e3,Nat.pow_succ]
    have hp:0<2^(r / B-1):=Nat.two_pow_pos _
    generalize 2^(r / B-1)=p at hp
    have:(B+r%B)*p<(B+B)*p:=Nat.mul_lt_mul_of_pos_right (by omega) hp
    have e4:(B+0)*(p*2)=(B+B)*p:=by rw[Nat.add_zero,Nat.mul_comm p 2,←Nat.mul_assoc,Nat.mul_two]
    omega
theorem Qz {r s:Nat} (h:r<s):Xo r<Xo s:=by
 induction s with
 |zero=>omega
 | succ s ih=>
  rcases Nat.lt_or_ge r s with h1|h1
  ·exact Nat.lt_trans (ih h1) (JI s)
  ·have:r=s:=by omega
   subst this;exact JI r
theorem ahT:Xo 0=0:=by simp[Xo]
def aNw (x:Nat):Int:=if x / 9223372036854775808%2==1 then -((x%9223372036854775808:Nat):Int)else((x%9223372036854775808:Nat):Int)
def qg (x:Nat):Nat:=x%9223372036854775808
theorem Zs {x:Nat} (h:qg x<9218868437227405312):
  ∃m i,Ieee.double.read x= .number (x / 9223372036854775808%2==1) m i∧ -1074≤i∧m*2^(i+1074).toNat=Xo (qg x):=by
 unfold qg at *
 simp only[Format.read,agG,agD,agE,agF]
 generalize x%9223372036854775808=r at *
 by_cases h1:r<4503599627370496
 ·refine⟨r,-1074,by rw[if_pos h1],by omega,?_⟩
  unfold Xo;rw[if_pos h1];simp
 ·refine⟨4503599627370496+r%4503599627370496,-1074+(r / 4503599627370496-1:Nat),by rw[if_neg h1,if_pos h],by omega,?_⟩
  unfold Xo;rw[if_neg h1]
  congr 2
  omega
theorem Zr {x:Nat} (h:qg x=9218868437227405312):Ieee.double.read x= .infinity (x / 9223372036854775808%2==1):=by
 unfold qg at *
 simp only[Format.read,agG,agD,agE,agF]
 rw[h];simp
theorem ajp {x:Nat} (h:9218868437227405312<qg x): ∃t,Ieee.double.read x= .nan (x / 9223372036854775808%2==1) t:=by
 unfold qg at *
 simp only[Format.read,agG,agD,agE,agF]
 generalize x%9223372036854775808=r at *
 exact⟨_,by rw[if_neg (by omega),if_neg (by omega),if_neg (by omega)]⟩
theorem JJ (s:Bool) (m k:Nat):signed s m k=if s then -((m*2^k:Nat):Int)else((m*2^k:Nat):Int):=by
 simp[signed,Nat.shiftLeft_eq]
def sg (s:Bool) (n:Nat):Int:=if s then -(n:Int)else n
theorem agi (a b:Int) (k:Nat):compare (a*2^k) (b*2^k)=compare a b:=by
 have hp:(0:Int)<2^k:=Int.pow_pos (by decide)
 simp only[compare,compareOfLessAndEq]
 have h1:a*2^k<b*2^k↔a<b:=Int.mul_lt_mul_right hp
 have h2:a*2^k=b*2^k↔a=b:=⟨fun h=>Int.eq_of_mul_eq_mul_right (by omega) h,fun h=>by rw[h]⟩
 simp only[h1,h2]
theorem aoh (s:Bool) (m k:Nat):sg s (m*2^k)=sg s m*2^k:=by
 cases s<;>simp[sg,Int.neg_mul]
theorem aMc {s t:Bool} {r q:Nat} :compare (sg s (Xo r)) (sg t (Xo q))=compare (sg s r) (sg t q):=by
 have key: ∀a b:Nat,(Xo a<Xo b↔a<b):=fun a b=>⟨fun h=>by
  rcases Nat.lt_or_ge a b with h1|h1
  ·exact h1
  ·rcases Nat.lt_or_ge b a with h2|h2
   ·have:=Qz h2;omega
   ·have:a=b:=by omega
    subst this;omega,Qz⟩
 have keq: ∀a b:Nat,(Xo a=Xo b↔a=b):=fun a b=>⟨fun h=>by
  rcases Nat.lt_trichotomy a b with h1|h1|h1
  ·have:=Qz h1;omega
  ·exact h1
  ·have:=Qz h1;omega,fun h=>by rw[h]⟩
 have h0:=ahT
 have k1:=key r q
 have k2:=key q r
 have k3:=key 0 r
 have k4:=key 0 q
 have e1:=keq r q
 rw[h0]at k3 k4
 simp only[compare,compareOfLessAndEq]
 have l:(sg s (Xo r)<sg t (Xo q))↔(sg s r<sg t q):=by
  cases s<;>cases t<;>simp[sg]<;>omega
 have e:(sg s (Xo r)=sg t (Xo q))↔(sg s r=sg t q):=by
  cases s<;>cases t<;>simp[sg]<;>omega
 simp only[l,e]
theorem anO {a b:Int} (h:a<b):compare a b= .lt:=by simp[compare,compareOfLessAndEq,h]
theorem anN {a b:Int} (h:b<a):compare a b= .gt:=by
 have h1: ¬a<b:=by omega
 have h2: ¬a=b:=by omega
 simp[compare,compareOfLessAndEq,h1,h2]
theorem aMb {a b:Int} (h:a=b):compare a b= .eq:=by subst h;simp[compare,compareOfLessAndEq]
theorem aht (s t:Bool) (m n:Nat) (i j:Int) (hi: -1074≤i) (hj: -1074≤j):
  Datum.order (.number s m i) (.number t n j)=some (compare (sg s (m*2^(i+1074).toNat)) (sg t (n*2^(j+1074).toNat))):=by
 simp only[Datum.order,JJ]
 have hb: -1074≤min i j:=by omega
 have e1:(i+1074).toNat=(i-min i j).toNat+(min i j+1074).toNat:=by omega
 have e2:(j+1074).toNat=(j-min i j).toNat+(min i j+1074).toNat:=by omega
 rw[e1,e2,Nat.pow_add,Nat.pow_add,←Nat.mul_assoc,←Nat.mul_assoc,aoh s (m*2^_),aoh t (n*2^_),agi]
 rfl
theorem ahs {x y:Nat} (hx:qg x≤9218868437227405312) (hy:qg y≤9218868437227405312):abv x y=some (compare (aNw x) (aNw y)):=by
 unfold abv FloatKind.format Format.order
 have kx:aNw x=sg (x / 9223372036854775808%2==1) (qg x):=rfl
 have ky:aNw y=sg (y / 9223372036854775808%2==1) (qg y):=rfl
 rw[kx,ky]
 rcases Nat.lt_or_ge (qg x) 9218868437227405312 with h1|h1<;>rcases Nat.lt_or_ge (qg y) 9218868437227405312 with h2|h2
 ·obtain⟨m,i,e1,hi,v1⟩:=Zs h1
  obtain⟨n,j,e2,hj,v2⟩:=Zs h2
  rw[e1,e2,aht _ _ _ _ _ _ hi hj,v1,v2,aMc]
 ·obtain⟨m,i,e1,hi,v1⟩:=Zs h1
  have h3:qg y=9218868437227405312:=by omega
  rw[e1,Zr h3,h3]
  generalize (x / 9223372036854775808%2==1)=s
  generalize (y / 9223372036854775808%2==1)=t
  cases t
  ·rw[anO (by cases s<;>simp[sg]<;>omega)];rfl
  ·rw[anN (by cases s<;>simp[sg]<;>omega)];rfl
 ·obtain⟨n,j,e2,hj,v2⟩:=Zs h2
  have h3:qg x=9218868437227405312:=by omega
  rw[e2,Zr h3,h3]
  generalize (x / 9223372036854775808%2==1)=s
  generalize (y / 9223372036854775808%2==1)=t
  cases s
  ·rw[anN (by cases t<;>simp[sg]<;>omega)];rfl
  ·rw[anO (by cases t<;>simp[sg]<;>omega)];rfl
 ·have h3:qg x=9218868437227405312:=by omega
  have h4:qg y=9218868437227405312:=by omega
  rw[Zr h3,Zr h4,h3,h4]
  generalize (x / 9223372036854775808%2==1)=s
  generalize (y / 9223372036854775808%2==1)=t
  cases s<;>cases t<;>decide
theorem Yt {x:Nat} (hx:9218868437227405312<qg x) (y:Nat):abv x y=none:=by
 unfold abv FloatKind.format Format.order
 obtain⟨t,e⟩:=ajp hx
 rw[e];rfl
theorem aar (x:Nat):jm x=true↔9218868437227405312<qg x:=by
 unfold jm
 constructor
 ·intro h
  rcases Nat.lt_or_ge 9218868437227405312 (qg x)with h1|h1
  ·exact h1
  ·rw[ahs h1 h1,aMb rfl]at h;cases h
 ·intro h;rw[Yt h];rfl
theorem jC {x:Nat} (hx:jm x=true) (y:Nat):abv x y=none:=Yt ((aar x).1 hx) y
def flt (x y:Nat):Bool:=abv x y==some .lt
def fgt (x y:Nat):Bool:=abv x y==some .gt
def feq (x y:Nat):Bool:=abv x y==some .eq
def fge (x y:Nat):Bool:=abv x y==some .gt || abv x y==some .eq
def fle (x y:Nat):Bool:=abv x y==some .lt || abv x y==some .eq
section
variable {x y:Nat} (hx:jm x=false) (hy:jm y=false)
include hx hy
end
end
section
structure Ev where
 t:Nat
 src:Int
 n:Int
 dst:Int
 pay:Int
deriving DecidableEq
def Ev.right (e:Ev):Prop:=jm e.t=false∧ -1≤e.src∧e.src<6∧0≤e.n∧e.n≤1099511627776∧0≤e.dst∧e.dst<6
instance (e:Ev):Decidable e.right:=by unfold Ev.right;infer_instance
def Ev.ok (e:Ev):Prop:=e.t<18446744073709551616∧(-9223372036854775808≤e.src∧e.src<9223372036854775808)∧(-9223372036854775808≤e.n∧e.n<9223372036854775808)∧(-9223372036854775808≤e.dst∧e.dst<9223372036854775808)∧(-9223372036854775808≤e.pay∧e.pay<9223372036854775808)
def tn (x:Nat):Nat:=if x=9223372036854775808 then 0 else x
def tkey (x:Nat):Nat:=if tn x<9223372036854775808 then tn x+9223372036854775808 else 18446744073709551615-tn x
def ajI (x:Nat):Bs:=be 8 (tkey x)
@[simp] theorem aon (x:Nat):(ajI x).length=8:=by simp[ajI]
def aMN (n:Int):Bs:=[UInt8.ofNat n.toNat]
@[simp] theorem aBC (n:Int):(aMN n).length=1:=rfl
def aSB (e:Ev):Bs:=ajI e.t++aMN (e.src+1)++X6 e.n++X6 e.pay
def evB (e:Ev):Bs:=ajI e.t++aMN (e.src+1)++X6 e.n++aMN e.dst++X6 e.pay
@[simp] theorem aBk (e:Ev):(aSB e).length=25:=by simp[aSB]
@[simp] theorem aCi (e:Ev):(evB e).length=26:=by simp[evB]
def aSE (e:Ev) (anti:Bool):Bs:=(if anti then [1]else [0])++evB e
@[simp] theorem aBv (e:Ev) (a:Bool):(aSE e a).length=27:=by cases a<;>simp[aSE]
structure Sta where
 words:List Int
 sent:Int
 dice:Int
def Sta.right (s:Sta):Prop:=s.words.length≤8∧0≤s.sent∧s.sent≤1099511627776∧0≤s.dice∧s.dice≤1099511627776
instance (e:Sta):Decidable e.right:=by unfold Sta.right;infer_instance
def ail (l:List Int):Bs:=l.flatMap X6
@[simp] theorem ajQ (l:List Int):(ail l).length=8*l.length:=by
 induction l with
 |nil=>rfl
 |cons x t ih=>simp[ail]at ih⊢;omega
def aSJ (s:Sta):Bs:=aMN s.words.length++ail s.words++X6 s.sent++X6 s.dice
@[simp] theorem aB3 (s:Sta):(aSJ s).length=17+8*s.words.length:=by simp[aSJ];omega
end
section
section
variable {P:Program} {ops:Array Oper} {C:World→Prop}
def aSg (C:World→Prop) (V:Value→Prop):Result Next→Prop
 | .ok (.value u) w'=>C w'∧V u
 | .ok .skip w'=>C w'∧V undef
 |_=>False
def vAt (P:Program) (o:Oper) (a:Act) (C:World→Prop) (V:Value→Prop):Prop:= ∀w,C w→aSg C V ((execOp a.eval o).run P w)
def vOne (P:Program) (o:Oper) (a:Act) (C:World→Prop) (next:Act→Prop):Prop:= ∃V,vAt P o a C V∧ ∀v,V v→next (a.put o.dst v)
def wpV (P:Program) (ops:Array Oper) (C:World→Prop) (Q:Act→Prop):List Oper→Act→Prop
 | [],a=>Q a
 |o::rest,a=>if Region.wanted o (yielded ops a.tmps)then vOne P o a C (wpV P ops C Q rest)else wpV P ops C Q rest (a.put o.dst undef)
end
attribute [irreducible] wpV
end
section
open Go.RowKit
@[go_sem] theorem aRC (x y:Nat):(FloatKind.f64.format.order x y==some Ordering.eq)=feq x y:=rfl
@[go_sem] theorem aRH (x y:Nat):(FloatKind.f64.format.order x y != some Ordering.eq)= !feq x y:=rfl
@[go_sem] theorem aRG (x y:Nat):(FloatKind.f64.format.order x y==some Ordering.lt)=flt x y:=rfl
@[go_sem] theorem aRE (x y:Nat):(FloatKind.f64.format.order x y==some Ordering.gt)=fgt x y:=rfl
@[go_sem] theorem aRD (x y:Nat):(fgt x y || feq x y)=fge x y:=rfl
@[go_sem] theorem aRF (x y:Nat):(flt x y || feq x y)=fle x y:=rfl
@[go_sem] theorem aNv (x:Nat):feq x x= !jm x:=by unfold feq jm;simp[bne]
def aRI (x y:Nat):Option Nat:=FloatKind.f64.format.sub x y
def aRz (x y:Nat):Option Nat:=FloatKind.f64.format.add x y
def aRA (x y:Nat):Option Nat:=FloatKind.f64.format.mul x y
def aCq (w:World) (x y:Nat):Nat:=(Question.nanBits .f64 x y).cut (w.tape w.drawn (.nanBits .f64 x y))
theorem vI (w:World) (x y:Nat):jm (aCq w x y)=true:=by
 rw[aar]
 unfold aCq Question.cut qg
 simp only
 generalize w.tape w.drawn (.nanBits .f64 x y)=t
 have h1:t%2<2:=Nat.mod_lt _ (by omega)
 have h2:t / 2%(2^52-1)<2^52-1:=Nat.mod_lt _ (by omega)
 generalize t%2=s at h1
 generalize t / 2%(2^52-1)=m at h2
 omega
def kK (w:World) (x y:Nat):Option Nat→Nat
 |some r=>r
 |none=>aCq w x y
def X5:Option Nat→Nat
 |some _=>0
 |none=>1
section
variable {P:Program} (w:World) (t:TypeId) (x y:Nat)
@[go_sem] theorem aNE:(binOp .sub t (.float .f64 x) (.float .f64 y)).run P w= .ok (.float .f64 (kK w x y (aRI x y))) (w.drewN (X5 (aRI x y))):=by
 cases h:aRI x y with
 | some r => have h':FloatKind.f64.format.sub x y=some r:=h
             simp[binOp,Op.floatArith,h',kK,X5,World.drewN_zero]
 | none => have h':FloatKind.f64.format.sub x y=none:=h
           simp[binOp,Op.floatArith,h',kK,X5,aCq,choose,Question.forced,Sem.run,World.drewN]
@[go_sem] theorem aNC:(binOp .add t (.float .f64 x) (.float .f64 y)).run P w= .ok (.float .f64 (kK w x y (aRz x y))) (w.drewN (X5 (aRz x y))):=by
 cases h:aRz x y with
 | some r => have h':FloatKind.f64.format.add x y=some r:=h
             simp[binOp,Op.floatArith,h',kK,X5,World.drewN_zero]
 | none => have h':FloatKind.f64.format.add x y=none:=h
           simp[binOp,Op.floatArith,h',kK,X5,aCq,choose,Question.forced,Sem.run,World.drewN]
@[go_sem] theorem aND:(binOp .mul t (.float .f64 x) (.float .f64 y)).run P w= .ok (.float .f64 (kK w x y (aRA x y))) (w.drewN (X5 (aRA x y))):=by
 cases h:aRA x y with
 | some r => have h':FloatKind.f64.format.mul x y=some r:=h
             simp[binOp,Op.floatArith,h',kK,X5,World.drewN_zero]
 | none => have h':FloatKind.f64.format.mul x y=none:=h
           simp[binOp,Op.floatArith,h',kK,X5,aCq,choose,Question.forced,Sem.run,World.drewN]
end
@[go_sem] theorem ahS {P:Program} (w:World) (a:Addr) (m:Mode) (k:FloatKind) (b:Nat):(store a (.float k b) m).run P w=stored P w a (.float k b) m:=run_store P w a _ m rfl
def oLt:Option Nat→Nat→Bool
 |some r,z=>flt r z
 |none,_=>false
def oGt:Option Nat→Nat→Bool
 |some r,z=>fgt r z
 |none,_=>false
def oEq:Option Nat→Nat→Bool
 |some r,z=>feq r z
 |none,_=>false
theorem agQ {x:Nat} (h:jm x=true) (y:Nat):flt x y=false:=by unfold flt;rw[jC h];rfl
theorem agI {x:Nat} (h:jm x=true) (y:Nat):fgt x y=false:=by unfold fgt;rw[jC h];rfl
theorem agH {x:Nat} (h:jm x=true) (y:Nat):feq x y=false:=by unfold feq;rw[jC h];rfl
@[go_sem] theorem aMm (w:World) (x y z:Nat) (o:Option Nat):flt (kK w x y o) z=oLt o z:=by
 cases o with
 |some r=>rfl
 |none=>exact agQ (vI w x y) z
@[go_sem] theorem aMj (w:World) (x y z:Nat) (o:Option Nat):fgt (kK w x y o) z=oGt o z:=by
 cases o with
 |some r=>rfl
 |none=>exact agI (vI w x y) z
@[go_sem] theorem aMi (w:World) (x y z:Nat) (o:Option Nat):feq (kK w x y o) z=oEq o z:=by
 cases o with
 |some r=>rfl
 |none=>exact agH (vI w x y) z
@[go_sem] theorem aCl (w:World) (x y:Nat) (o:Option Nat):jm (kK w x y o)=(match o with |some r=>jm r|none=>true):=by
 cases o with
 |some r=>rfl
 |none=>exact vI w x y
def agu (w:World) (v:Value):Result Next→Prop
 | .ok (.value u) w'=>w'=w∧u=v
 | .ok .skip w'=>w'=w∧undef=v
 |_=>False
def aMg (P:Program) (o:Oper) (a:Act) (w:World) (next:Act→Prop):Prop:= ∃v,(∀n,agu (w.drewN n) v ((execOp a.eval o).run P (w.drewN n)))∧next (a.put o.dst v)
attribute [go_sem] aMg agu
end
section
open Go.RowKit Go.Lib
theorem ag2 (b:Nat) (w:World):
  Calls Tryz.prog 107 #[.float .f64 b] w fun e w'=>e= .returned (.bool (jm b))∧w=w':=by
 go_enter Tryz.func107,Tryz.ntmps107
 go_wp2
 go_ret
 exact⟨by simp,rfl⟩
@[go_sem] theorem ahR (b:Nat) (w:World):(callFunc 86 #[.float .f64 b]).run Tryz.prog w= .ok (.value (.int .u64 b)) w:=by
 rw[run_callFunc_extern (e:=Extern.MathFloatBits.float64bits) Tryz.func86 (by kernel_rfl) (by kernel_rfl) (by kernel_rfl) (by kernel_rfl)]
 rfl
@[go_sem] theorem KA (b:Int) (w:World):(callFunc 138 #[.int .u64 b]).run Tryz.prog w= .ok (.value (.float .f64 b.toNat)) w:=by
 rw[run_callFunc_extern (e:=Extern.MathFloatBits.float64frombits) Tryz.func138 (by kernel_rfl) (by kernel_rfl) (by kernel_rfl) (by kernel_rfl)]
 rfl
end
section
open Go.RowKit Go.Lib
theorem zm {w:World} {B:Nat} {T:TypeId} {s n:Nat} {v:Value} {xs:List Value} (h:w.ownsRow B T s v n xs): ∃p c,v= .slice p n c:=by
 rcases h.2 with⟨h,h0⟩ | ⟨g,cap,cur,h,_⟩
 ·exact⟨none,0,by rw[h,h0]⟩
 ·exact⟨_,_,h⟩
abbrev Inf (e:TypeId) (z:Value) (size bytes:Nat):Prop:=(Tryz.prog.info? e).map (fun i=>(i.zero,i.size,i.bytes))=some (some z,size,bytes)
theorem xN {w w':World} {B s n:Nat} {T:TypeId} {v:Value} {xs:List Value} (h:w.ownsRow B T s v n xs) (e: ∀b,v.ownBlock=some b→w'.heap[b]? =w.heap[b]?):w'.ownsRow B T s v n xs:=by
 refine⟨h.1,?_⟩
 rcases h.2 with h3| ⟨g,cap,cur,e1,e2,e3,e4⟩
 ·exact .inl h3
 ·exact .inr ⟨g,cap,cur,e1,e2,(e g (by rw[e1];rfl)).trans e3,e4⟩
theorem Qy {P:Program} (w:World) (base:Nat) (t ty e:TypeId) (i:TypeInfo) (z:Value) (size bytes:Nat) (ht:P.underlying t=some (.slice e)) (hi:P.info? e=some i) (hz:i.zero=some z)
  (hsize:i.size=size) (hby:i.bytes=bytes) (hzs:z.cells.size=size) (hsz:0<size) (v:Value) (n:Nat) (xs:List Value) (hown:w.ownsRow base e size v n xs)
  (a:Addr) (c:Nat) (news:List Value) (hl:news.length=size) (hnews: ∀j u,news[j]? =some u→w.cell? (a.add j)=some u) (h1: ∀u∈news,u.oneCell'=true)
  (h63:n+1≤maxLen) (hbytes:(n+1)*bytes≤140737488355328) (hbase:base≤w.heap.size):
  ∃v' w',(Builtin.append_ #[t,t] ty #[v,.slice (some a) 1 c]).run P w= .ok v' w'∧w'.ownsRow base e size v' (n+1) (xs++news)∧w.grownBy w' v.ownBlock∧ ∀g,v'.ownBlock=some g→v.ownBlock=some g∨w.heap.size≤g:=by
 obtain⟨v',w',hr,h2,h3,_⟩:=run_append_own (P:=P) w base t ty e i z size bytes ht hi hz hsize hby hzs hsz v n xs hown a 1 c news (by rw[hl,Nat.one_mul]) hnews h1 h63 hbytes hbase
 refine⟨v',w',hr,h2,h3,fun g hg=>?_⟩
 subst hsize hby
 have h47:n+1≤9223372036854775807:=by simp only[maxLen]at h63;omega
 rcases hown.2 with⟨rfl,h0⟩ | ⟨q,cap,cur,rfl,hbg,hq,hnc,hcm,hcs,htake⟩
 ·subst h0
  have hr2:=run_append_nil (P:=P) w t ty e i z ht hi hz a 1 c news (by rw[hl,Nat.one_mul]) hnews (by omega) (by omega) (by rw[Nat.zero_add]at hbytes;omega)
  rw[hr]at hr2
  injection hr2 with e1 _
  subst e1
  simp[Value.ownBlock]at hg
  exact .inr (by omega)
 ·by_cases hroom:n+1≤cap
  ·have hr2:=run_append_room (P:=P) w t ty e i ht hi q n cap cur hq a 1 c news (by rw[hl,Nat.one_mul]) hnews h1 hroom (by rw[hl,hcs];have:=Nat.mul_le_mul_right i.size hroom;rw[Nat.add_mul,Nat.one_mul]at this;exact this)
   rw[hr]at hr2
   injection hr2 with e1 _
   subst e1
   exact .inl (by simpa[Value.ownBlock]using hg)
  ·have hr2:=run_append_grow (P:=P) w t ty e i z ht hi hz ⟨q,0,none⟩ n cap xs hown.1 (hown.cells (g:=q) rfl) a 1 c news (by rw[hl,Nat.one_mul]) hnews (by omega) (by omega) (growslice_fits (by omega) hbytes)
   rw[hr]at hr2
   injection hr2 with e1 _
   subst e1
   simp[Value.ownBlock]at hg
   exact .inr (by omega)
theorem zO {ops:Array Oper} {rest:List Oper} {o:Oper} {a:Act} {Q:Exit→Act→World→Prop} (hgd:o.guard=none) (s x:Operand) (t:TypeId)
  (ho:o.op= .call { callee:= .builtin .append,args:= #[s,x],argTypes:= #[t,t] }) {α:Type} (enc:α→List Value) {e:TypeId} {z:Value} {size bytes:Nat} (hi:Inf e z size bytes) (ht:Tryz.prog.underlying t=some (.slice e))
  (hzs:z.cells.size=size) (hsz:0<size) (hby:bytes≤1000) (hk: ∀x,(enc x).length=size) (hone: ∀x,∀u∈enc x,u.oneCell'=true) {B:Nat} {W:World} {v:Value} {l:List α} {n:Nat} (x0:α) (hown:W.ownsRow B e size v n (yv enc l)) (hn:n≤100000) (hB:B≤W.heap.size)
  (hs:a.eval s=v) (hx:a.eval x= .slice (some ⟨W.heap.size,0,none⟩) 1 1)
  (h: ∀v' w',w'.ownsRow B e size v' (n+1) (yv enc (l++[x0]))→Kp v.ownBlock.toList W w'→(∀g,v'.ownBlock=some g→v.ownBlock=some g∨W.heap.size≤g)→wpList Tryz.prog ops Q rest (a.put o.dst v') w'):wpList Tryz.prog ops Q (o::rest) a (W.alloc (.cells (enc x0).toArray e)):=by
 obtain⟨i0,hi0,hz0,hz1,hz2⟩:=info_parts hi
 refine wpList_plain hgd fun K hK=>?_
 obtain⟨v',w',hr,h2,h3,h4⟩:=Qy (P:=Tryz.prog) (W.alloc (.cells (enc x0).toArray e)) B t o.type e i0 z size bytes ht hi0 hz0 hz1 hz2 hzs hsz v n _ (hown.alloc _) ⟨W.heap.size,0,none⟩ 1 (enc x0) (hk x0) (aBw (Blk.new W e (enc x0).toArray)) (hone x0) (by unfold maxLen;omega)
  (by
   have:(n+1)*bytes≤100001*1000:=Nat.mul_le_mul (by omega) hby
   omega) (by simp;omega)
 unfold Oper.wp execOp
 simp only[ho,resolve,invoke,builtin,Sem.run_bind,Sem.run_pure,Result.andThen_ok,List.map_toArray,List.map_cons,List.map_nil,hs,hx,hr]
 refine hK _ _ (h v' w' (by rw[Ky,jw,ajs,List.append_nil];exact h2) (((Kp.refl _ W).alloc _).grown h3 (fun g hg=> .inl (Option.mem_toList.2 hg))) (fun g hg=>(h4 g hg).imp id (fun h'=>?_)))
 simp at h'
 omega
theorem aBF {W:World} {B B' n k m k':Nat} {T U:TypeId} {v u:Value} {xs ys:List Value} (h:W.ownsRow B T k v n xs) (h2:W.ownsRow B' U k' u m ys) (ht:T≠U) {g:Nat} (hv:v.ownBlock=some g):u.ownBlock≠some g:=by
 intro hu
 rcases h.2 with⟨rfl,_⟩ | ⟨g',c,cur,rfl,_,hg,_⟩
 ·cases hv
 ·rcases h2.2 with⟨rfl,_⟩ | ⟨g2,c2,cur2,rfl,_,hg2,_⟩
  ·cases hu
  ·injection hv with hv
   injection hu with hu
   simp only at hv hu
   subst hv hu
   exact(Blk.ne_ (g:=g2) (g':=g2) hg2 hg (Ne.symm ht)) rfl
theorem aBG {W:World} {B n k m:Nat} {T U:TypeId} {v u:Value} {xs ys:List Value} (h:W.ownsRow B T k v n xs) {g:Nat} {cs:Array Value} (hb:Blk W g U cs) (ht:T≠U):v.ownBlock≠some g:=by
 rcases h.2 with⟨rfl,_⟩ | ⟨g',c,cur,rfl,_,hg,_⟩
 ·simp[Value.ownBlock]
 ·intro e
  injection e with e
  simp only at e
  subst e
  exact(Blk.ne_ (g:=g') (g':=g') hg hb ht) rfl
def jQ (b:Bs):List Value:=[.string (S b)]
theorem v9 (a:Bs):(jQ a).length=1:=rfl
theorem Zv (a:Bs): ∀u∈jQ a,u.oneCell'=true:=by
 intro u hu
 simp[jQ]at hu
 subst hu
 rfl
theorem Qa:(Tryz.prog.info? 9).map (fun i=>(i.zero,i.size,i.bytes))=some (some (.string ⟨#[]⟩),1,16):=by kernel_rfl
section
variable {α:Type} {k:Nat} {enc:α→List Value} {w w':World} {v:Value} {l:List α}
structure Vw (k:Nat) (enc:α→List Value) (w:World) (v:Value) (l:List α):Prop where
 form: ∃p c,v= .slice p l.length c∧l.length≤c∧(l=[]∨ ∃b off,p=some ⟨b,off,none⟩∧b<w.heap.size∧ ∀i x,l[i]? =some x→ ∀q u,(enc x)[q]? =some u→w.cell? ⟨b,off+i*k+q,none⟩=some u)
theorem Vw.of_block (h:Vw k enc w v l) (e: ∀b,b<w.heap.size→v.ownBlock=some b→w'.heap[b]? =w.heap[b]?) (hs:w.heap.size≤w'.heap.size):Vw k enc w' v l:=by
 obtain⟨p,c,rfl,hc,g⟩:=h.form
 refine⟨p,c,rfl,hc,?_⟩
 rcases g with g| ⟨b,off,rfl,hb,hx⟩
 ·exact .inl g
 ·exact .inr ⟨b,off,rfl,Nat.lt_of_lt_of_le hb hs,fun i x hi q u hu=>(World.cell?_of_block (e b hb rfl)).trans (hx i x hi q u hu)⟩
theorem Vw.below (h:Vw k enc w v l) (hb:Below w.heap.size w w'):Vw k enc w' v l:=h.of_block (fun b hlt _=>hb.block b hlt) hb.size
theorem Vw.nil (k:Nat) (enc:α→List Value) (w:World) (p:Option Addr) (c:Nat):Vw k enc w (.slice p 0 c) []:=⟨p,c,rfl,Nat.zero_le _,.inl rfl⟩
theorem Vw.slice (h:Vw k enc w v l): ∃p c,v= .slice p l.length c∧l.length≤c:=by
 obtain⟨p,c,h1,h2,_⟩:=h.form
 exact⟨p,c,h1,h2⟩
theorem Vw.ex (h:Vw k enc w v l) (hn:l≠[]): ∃b off c,v= .slice (some ⟨b,off,none⟩) l.length c∧l.length≤c∧b<w.heap.size∧ ∀i x,l[i]? =some x→ ∀q u,(enc x)[q]? =some u→w.cell? ⟨b,off+i*k+q,none⟩=some u:=by
 obtain⟨p,c,h1,h2,g⟩:=h.form
 obtain⟨b,off,rfl,g1,g2⟩:=g.resolve_left hn
 exact⟨b,off,c,h1,h2,g1,g2⟩
theorem Vw.of_own {B n:Nat} {T:TypeId} (hk: ∀x,(enc x).length=k) (h:w.ownsRow B T k v n (yv enc l)) (hn:n=l.length):Vw k enc w v l:=by
 subst hn
 by_cases h0:l=[]
 ·obtain⟨p,c,rfl⟩:=zm h
  exact⟨p,c,rfl,by rw[h0];exact Nat.zero_le _,.inl h0⟩
 ·obtain⟨g,c,rfl,hg1,hg2,hg3⟩:=ajh h (List.length_pos_iff.2 h0)
  refine⟨_,c,rfl,hg3,.inr ⟨g,0,rfl,hg2,fun i x hx q u hu=>?_⟩⟩
  have hq:q<k:=by
   have:=(List.getElem?_eq_some_iff.1 hu).1
   rwa[hk]at this
  rw[Nat.zero_add]
  exact aMQ h rfl (j:=i*k+q) ((Qx hk l i x hx q hq).trans hu)
theorem Vw.one {T:TypeId} {x:α} {b c:Nat} (h:Blk w b T (enc x).toArray) (hc:1≤c):Vw k enc w (.slice (some ⟨b,0,none⟩) 1 c) [x]:=by
 refine⟨_,c,rfl,hc,.inr ⟨b,0,rfl,h.lt,fun i y hy q u hu=>?_⟩⟩
 rcases i with _|i
 ·simp at hy
  subst hy
  rw[Nat.zero_mul,Nat.add_zero,Nat.zero_add,h.cell]
  simpa using hu
 ·simp at hy
theorem Vw.take {b off c:Nat} (h:Vw k enc w (.slice (some ⟨b,off,none⟩) l.length c) l) (i:Nat) (hi:i≤l.length):Vw k enc w (.slice (some ⟨b,off,none⟩) i c) (l.take i):=by
 obtain⟨p,c',e,hc,g⟩:=h.form
 injection e with e1 _ e3
 subst e1 e3
 refine⟨_,c,by rw[List.length_take,Nat.min_eq_left hi],by rw[List.length_take];omega,?_⟩
 by_cases h0:l=[]
 ·exact .inl (by rw[h0];simp)
 ·obtain⟨b',off',e,hb,hx⟩:=g.resolve_left h0
  injection e with e
  injection e with e1 e2 _
  subst e1 e2
  refine .inr ⟨b,off,rfl,hb,fun j x hj q u hu=>hx j x ?_ q u hu⟩
  rw[List.getElem?_take]at hj
  split at hj
  ·exact hj
  ·cases hj
theorem Vw.drop {b off c:Nat} (h:Vw k enc w (.slice (some ⟨b,off,none⟩) l.length c) l) (i:Nat) (hi:i≤l.length):Vw k enc w (.slice (some ⟨b,off+i*k,none⟩) (l.length-i) (c-i)) (l.drop i):=by
 obtain⟨p,c',e,hc,g⟩:=h.form
 injection e with e1 _ e3
 subst e1 e3
 refine⟨_,c-i,by rw[List.length_drop],by rw[List.length_drop];omega,?_⟩
 by_cases h0:l=[]
 ·exact .inl (by rw[h0];simp)
 ·obtain⟨b',off',e,hb,hx⟩:=g.resolve_left h0
  injection e with e
  injection e with e1 e2 _
  subst e1 e2
  refine .inr ⟨b,off+i*k,rfl,hb,fun j x hj q u hu=>?_⟩
  rw[List.getElem?_drop]at hj
  rw[show off+i*k+j*k+q=off+(i+j)*k+q by rw[Nat.add_mul];omega]
  exact hx (i+j) x hj q u hu
theorem Vw.cells (hk: ∀x,(enc x).length=k) {b off c:Nat} (h:Vw k enc w (.slice (some ⟨b,off,none⟩) l.length c) l): ∀j u,(yv enc l)[j]? =some u→w.cell? ⟨b,off+j,none⟩=some u:=by
 intro j u hj
 have hlt:j<(yv enc l).length:=(List.getElem?_eq_some_iff.1 hj).1
 rw[Kz hk]at hlt
 have hk0:0<k:=Nat.pos_of_ne_zero (by rintro rfl;simp at hlt)
 have hd:=Nat.div_add_mod j k
 have hm:=Nat.mod_lt j hk0
 have hjl:j / k<l.length:=(Nat.div_lt_iff_lt_mul hk0).2 hlt
 obtain⟨p,c',e,hc,g⟩:=h.form
 have h0:l≠[]:=by rintro rfl;simp at hjl
 obtain⟨b',off',rfl,hb,hx⟩:=g.resolve_left h0
 injection e with e _ _
 injection e with e
 injection e with e1 e2 _
 subst e1 e2
 obtain⟨x,hxx⟩: ∃x,l[j / k]? =some x:=⟨_,List.getElem?_eq_getElem hjl⟩
 have hr:=Qx hk l (j / k) x hxx (j%k) hm
 rw[show j / k*k+j%k=j by rw[Nat.mul_comm];exact hd]at hr
 have:=hx (j / k) x hxx (j%k) u (by rw[←hr];exact hj)
 rw[show off+j / k*k+j%k=off+j by rw[Nat.mul_comm];omega]at this
 exact this
end
end
section
open Go.RowKit Go.Lib
def cI (l:List Int):List Value:=l.map fun n=>Value.int .i64 n
@[simp] theorem aL5 (l:List Int):(cI l).length=l.length:=by simp[cI]
theorem aL4 (l:List Int) (i:Nat) (h:i<l.length):(cI l)[i]? =some (.int .i64 (l.getD i 0)):=by
 simp[cI,h,List.getD]
def SlI (w:World) (v:Value) (l:List Int):Prop:=(v= .slice none 0 0∧l=[])∨ ∃b o c,v= .slice (some ⟨b,o,none⟩) l.length c∧b<w.heap.size∧w.rangeAt b o (cI l)
theorem agW (w:World) (v:Value) (l:List Int) (x:Int) (h:SlI w v l) (hl:l.length≤1000000):
  Calls Tryz.prog 329 #[v,.int .i64 x] w fun e w'=>w=w'∧((e= .returned (.int .i64 (-1))∧x∉l)∨ ∃k:Nat,e= .returned (.int .i64 k)∧l[k]? =some x∧x∉l.take k):=by
 rcases h with⟨rfl,rfl⟩ | ⟨b,o,c,rfl,hb,hr⟩
 ·go_enter Tryz.func329,Tryz.ntmps329
  go_wp2
  refine wp_loop_rounds 1 ?_
  rw[rounds_succ]
  go_wp2
  go_ret
  exact⟨rfl,.inl ⟨rfl,by simp⟩⟩
 ·go_enter Tryz.func329,Tryz.ntmps329
  go_wp2
  go_loop [8] (fun i=> ∃k:Nat,k≤l.length∧i= .int .i64 k∧x∉l.take k) (fun i=>l.length- (intOf i).toNat)
  case atStart=>exact⟨0,Nat.zero_le _,rfl,by simp⟩
  case round=>
   obtain⟨k,hk,rfl,hno⟩:=hrel
   have HNO:=hid hno
   clear hno
   by_cases hlt:k<l.length
   ·have hc:=hr k _ (aL4 l k hlt)
    have hg:l[k]? =some (l.getD k 0):=by simp[List.getD,hlt]
    have HG:=hid hg
    have ht:l.take (k+1)=l.take k++[l.getD k 0]:=by rw[List.take_succ_eq_append_getElem hlt];simp[List.getD,hlt]
    have HT:=hid ht
    clear hg ht
    generalize l.getD k 0=y at *
    by_cases hxy:x=y
    ·subst hxy
     go_wp2
     go_ret
     exact⟨rfl,.inr ⟨k,rfl,HG.out,HNO.out⟩⟩
    ·have hne:(x==y)=false:=by simpa using hxy
     go_wp2
     go_round
     case rel=>exact⟨k+1,by omega,by go_num,by rw[HT.out];simp[HNO.out,hxy]⟩
     case measure=>simp[intOf];omega
   ·have hke:k=l.length:=by omega
    go_wp2
    go_ret
    exact⟨rfl,.inl ⟨rfl,by have:=HNO.out;rwa[hke,List.take_length]at this⟩⟩
structure MpI (w:World) (m ml:Nat) (K:List Int):Prop where
 c:Blk w m 271 #[.slice (some ⟨ml,0,none⟩) K.length K.length]
 l:Blk w ml 3 (cI K).toArray
 n0:0<K.length
 n1:K.length≤1024
theorem MpI.ne {w:World} {m ml:Nat} {K:List Int} (h:MpI w m ml K):m≠ml:=h.c.ne_ h.l (by decide)
theorem MpI.sl {w:World} {m ml:Nat} {K:List Int} (h:MpI w m ml K):SlI w (.slice (some ⟨ml,0,none⟩) K.length K.length) K:=
 .inr ⟨ml,0,_,rfl,h.l.lt,fun j v hj=>by rw[h.l.cell];simpa using hj⟩
theorem ahc {w:World} {m ml:Nat} {K:List Int} (h:MpI w m ml K) (x:Int):
  Calls Tryz.prog 358 #[.pointer (some ⟨m,0,none⟩),.int .i64 x] w fun e w'=>w=w'∧((e= .returned (.int .i64 (-1))∧x∉K)∨ ∃k:Nat,e= .returned (.int .i64 k)∧K[k]? =some x∧x∉K.take k):=by
 have HI:=hid (agW w _ K x h.sl (by have:=h.n1;omega))
 have h0:w.cell? ⟨m,0,none⟩=some (.slice (some ⟨ml,0,none⟩) K.length K.length):=by rw[h.c.cell];rfl
 clear h
 go_enter Tryz.func358,Tryz.ntmps358
 go_wp2_with fail
 refine HI.out.mono ?_
 rintro e w' ⟨rfl,⟨rfl,hx⟩ | ⟨k,rfl,hk,hx⟩⟩
 ·have HX:=hid hx
  clear hx
  go_wp2
  go_ret
  exact⟨rfl,.inl ⟨rfl,HX.out⟩⟩
 ·have HX:=hid hx
  have HK:=hid hk
  clear hx hk
  go_wp2
  go_ret
  exact⟨rfl,.inr ⟨k,rfl,HK.out,HX.out⟩⟩
theorem aL6 (K:List Int) (p:Nat) (x:Int):(cI K).toArray.setIfInBounds p (.int .i64 x)=(cI (K.set p x)).toArray:=by
 simp[cI,List.map_set]
theorem MpI.set_ {w:World} {m ml:Nat} {K:List Int} (h:MpI w m ml K) (p:Nat) (x:Int):MpI (w.setCell ⟨ml,p,none⟩ (.int .i64 x)) m ml (K.set p x):=
 ⟨by have:=h.c.far (p:=⟨ml,p,none⟩) h.ne (.int .i64 x);simpa using this,by have:=h.l.set_ p (.int .i64 x);rwa[aL6]at this,by simpa using h.n0,by simpa using h.n1⟩
theorem map_take {w:World} {m ml:Nat} {K:List Int} (h:MpI w m ml K) (hx:(0:Int)∈K):
  Calls Tryz.prog 283 #[.pointer (some ⟨m,0,none⟩)] w fun e w'=> ∃p:Nat,K[p]? =some 0∧e= .returned (.tuple #[.int .i64 p,.int .i64 0])∧MpI w' m ml (K.set p 2)∧w'=w.setCell ⟨ml,p,none⟩ (.int .i64 2):=by
 have HF:=hid (ahc h 0)
 have h0:w.cell? ⟨m,0,none⟩=some (.slice (some ⟨ml,0,none⟩) K.length K.length):=by rw[h.c.cell];rfl
 have H:=hid h
 have HX:=hid hx
 have hn:=h.n1
 clear h hx
 go_enter Tryz.func283,Tryz.ntmps283
 go_wp2_with fail
 refine HF.out.mono ?_
 rintro e w' ⟨rfl,⟨rfl,hx⟩ | ⟨k,rfl,hk,hx⟩⟩
 ·exact absurd HX.out hx
 ·have hkl:=(List.getElem?_eq_some_iff.1 hk).1
  have hc:w.cell? ⟨ml,k,none⟩=some (.int .i64 0):=by rw[H.out.l.cell];simp[cI,hk]
  have hf:=H.out.l.frozen k
  have HK:=hid hk
  clear hk hx
  go_wp2
  go_ret2
  exact⟨k,HK.out,rfl,H.out.set_ k 2,rfl⟩
end
section
open Go.RowKit Go.Lib
structure ShL where
 D:DkL
 m:Nat
 ml:Nat
 s:Nat
structure ShG where
 sec:Nat→Bs
 K:List Int
 T:List Int
 tv:Value
end
section
open Go.RowKit Go.Lib
structure Fr where
 page:Int
 pay:Bs
 held:Int
 dirty:Bool
 used:Bool
structure PL where
 S:ShL
 p:Nat
 f:Nat
 cap:Nat
end
section
open Go.RowKit Go.Lib
def At (l:Bs) (p v:Nat):Prop:= ∃x y,l[p]? =some x∧l[p+1]? =some y∧un2 x y=v
theorem At.of {a b:Bs} {v p:Nat} (hv:v<65536) (hp:p=a.length):At (a++two v++b) p v:=by
 subst hp
 refine⟨UInt8.ofNat (v / 256),UInt8.ofNat v,?_,?_,aB7 hv⟩
 ·rw[List.append_assoc,List.getElem?_append_right (Nat.le_refl _)];simp[two]
 ·rw[List.append_assoc,List.getElem?_append_right (by omega)];simp[two]
end
section
open Go.RowKit Go.Lib
def ofS (l:List Bs):ByteArray:=if used l≤232 then S (lay l)else⟨#[]⟩
def ofE (l:List Bs):Int:=if used l≤232 then 0 else 11
abbrev ofR (l:List Bs):Value:= .tuple #[.string (ofS l),.int .i64 (ofE l)]
end
section
/-! the order of strings -/
theorem bl: ∀(x y:Bs),Op.bytesLess x y=decide (x<y)
 | [],[]=>by simp[Op.bytesLess]
 |_::_,[]=>by simp[Op.bytesLess]
 | [],_::_=>by simp[Op.bytesLess]
 |a::x,b::y=>by
  rw[Op.bytesLess,bl x y]
  simp only[List.cons_lt_cons_iff]
  by_cases h1:a<b<;>by_cases h2:a=b<;>by_cases h3:x<y<;>simp[h1,h2,h3]
theorem zy {a b:Bs} :a≤b↔ ¬b<a:=List.not_lt.symm
structure En where
 key:Bs
 val:Bs
 far:Int
structure Nd where
 leaf:Bool
 l:List En
def encE (x:En):Bs:=UInt8.ofNat x.key.length::(x.key++two (x.far+1).toNat++x.val)
def aRX (b:Bool):Bs:=if b then [1]else [2]
def recs (n:Nd):List Bs:=aRX n.leaf::n.l.map encE
def enB (x:En):Nat:=x.key.length+x.val.length+7
def nB (l:List En):Nat:=(l.map enB).sum
@[simp] theorem aSF:nB []=0:=rfl
@[simp] theorem aR1 (x:En) (l:List En):nB (x::l)=enB x+nB l:=by simp[nB]
@[simp] theorem aMG (a b:List En):nB (a++b)=nB a+nB b:=by simp[nB]
/-! the place of a key -/
def cnt (k:Bs) (l:List En):Nat:=l.countP fun x=>decide (x.key<k)
/-! halves -/
end
section
abbrev PN:=Nat×Nat×Nat
structure Ch where
 key:Bs
 page:Nat
 es:List En
 ps:List PN
def Ch.en (c:Ch):En:=⟨c.key,[],c.page⟩
def aAK (cs:List Ch):List En:=cs.flatMap Ch.es
def aAM (cs:List Ch):List PN:=cs.flatMap Ch.ps
@[simp] theorem aNn:aAK []=[]:=rfl
@[simp] theorem aL9 (c:Ch) (cs:List Ch):aAK (c::cs)=c.es++aAK cs:=rfl
@[simp] theorem aAL (a b:List Ch):aAK (a++b)=aAK a++aAK b:=by simp[aAK]
@[simp] theorem aNo:aAM []=[]:=rfl
@[simp] theorem aMa (c:Ch) (cs:List Ch):aAM (c::cs)=c.ps++aAM cs:=rfl
@[simp] theorem aAN (a b:List Ch):aAM (a++b)=aAM a++aAM b:=by simp[aAM]
/-! a tree with a hole -/
def below (cs:List Ch) (k:Bs):Nat:=(cs.countP fun c=>decide (¬k<c.key)) -1
end
section
def Kq (ps:List PN):List Nat:=ps.map Prod.fst
@[simp] theorem aMR:Kq []=[]:=rfl
@[simp] theorem aCs (x:PN) (ps:List PN):Kq (x::ps)=x.1::Kq ps:=rfl
@[simp] theorem an8 (a b:List PN):Kq (a++b)=Kq a++Kq b:=by simp[Kq]
/-! potentials -/
structure Pot where
 A:Nat
 c:Nat→Nat
 R:Nat
 h1:A+39*c 1≤R
 h2:2*A≤R
 h3: ∀h,1≤h→A+39*c (h+1)≤72*c h
 h4: ∀h,1≤h→2*A≤72*c h
def Pot.one (p:Pot) (x:PN):Nat:=p.A+if x.2.1=0 then 0 else p.c x.2.1*(x.2.2-152)
def Pot.sum (p:Pot):List PN→Nat
 | []=>0
 |x::ps=>p.one x+p.sum ps
@[simp] theorem Pot.sum_nil (p:Pot):p.sum []=0:=rfl
@[simp] theorem Pot.sum_cons (p:Pot) (x:PN) (ps:List PN):p.sum (x::ps)=p.one x+p.sum ps:=rfl
@[simp] theorem Pot.sum_append (p:Pot) (a b:List PN):p.sum (a++b)=p.sum a+p.sum b:=by
 induction a with
 |nil=>simp
 |cons x a ih=>simp[ih];omega
theorem Pot.leaf (p:Pot) (q b:Nat):p.one (q,0,b)=p.A:=by simp[Pot.one]
theorem Pot.inner (p:Pot) (q d b:Nat):p.one (q,d+1,b)=p.A+p.c (d+1)*(b-152):=by simp[Pot.one]
theorem Pot.mono (p:Pot) (q q' d:Nat) {b b':Nat} (h:b≤b'):p.one (q,d,b)≤p.one (q',d,b'):=by
 cases d with
 |zero=>simp[Pot.one]
 |succ d=>
  rw[p.inner,p.inner]
  have:=Nat.mul_le_mul_left (p.c (d+1)) (show b-152≤b'-152 by omega)
  omega
theorem Pot.more (p:Pot) (q d:Nat) {b e:Nat} (h:e≤39):p.one (q,d+1,b+e)≤p.one (q,d+1,b)+39*p.c (d+1):=by
 rw[p.inner,p.inner]
 have h1:=Nat.mul_le_mul_left (p.c (d+1)) (show b+e-152≤(b-152)+39 by omega)
 rw[Nat.mul_add,Nat.mul_comm _ 39]at h1
 omega
/-! halves -/
def apart (l:List En) (i:Nat):Nat:=(2*nB (l.take i) -nB l)+(nB l-2*nB (l.take i))
end
section
open Go.RowKit Go.Lib
theorem aBb:(Tryz.prog.info? 377).map (fun i=>(i.zero,i.size,i.bytes))=some (some (.agg #[.string ⟨#[]⟩,.string ⟨#[]⟩,.int .i64 0]),3,40):=by kernel_rfl
end
section
open Go.RowKit Go.Lib
abbrev Ze (n:Nd):Value:=ofR (recs n)
end
section
open Go.RowKit Go.Lib
def setL (l:List Value) (o:Nat) (vs:List Value):List Value:=l.take o++vs++l.drop (o+vs.length)
theorem qM {l:List Value} {o:Nat} {vs:List Value} (h:o+vs.length≤l.length):(setL l o vs).length=l.length:=by
 simp[setL];omega
theorem ah0 (l:List Value) (o:Nat) (v:Value) (r:List Value) (h:o<l.length):setL (l.set o v) (o+1) r=setL l o (v::r):=by
 unfold setL
 have e1:(l.set o v).take (o+1)=l.take o++[v]:=by
  rw[List.take_succ_eq_append_getElem (by simpa using h)]
  simp[List.take_set_of_le]
 have e2:(l.set o v).drop (o+1+r.length)=l.drop (o+(v::r).length):=by
  rw[List.drop_set_of_lt (by omega)]
  congr 1
  simp;omega
 rw[e1,e2]
 simp
theorem yz (g:Nat) (T:TypeId) (fz:Nat×Nat): ∀(vs:List Value) (o:Nat) (w:World) (cur:Array Value),w.heap[g]? =some (.cells cur T fz)→o+vs.length≤cur.size→
  (w.setCells g o vs).heap[g]? =some (.cells (setL cur.toList o vs).toArray T fz)
 | [],o,w,cur,h,_=>by
  show w.heap[g]? =_
  rw[h]
  simp[setL]
 | v::r,o,w,cur,h,hle=>by
  have hle2:o+1+r.length≤cur.size:=by simpa[Nat.add_assoc,Nat.add_comm 1]using hle
  have h1:(w.setCell ⟨g,o,none⟩ v).heap[g]? =some (.cells (cur.setIfInBounds o v) T fz):=by
   simp[World.setCell,Array.getElem?_modify,h]
  have:=yz g T fz r (o+1) (w.setCell ⟨g,o,none⟩ v) (cur.setIfInBounds o v) h1 (by simpa using hle2)
  show((w.setCell ⟨g,o,none⟩ v).setCells g (o+1) r).heap[g]? =_
  rw[this]
  rw[Array.toList_setIfInBounds,ah0 _ _ _ _ (by simp;omega)]
end
section
open Go.RowKit Go.Lib
theorem ajR {P:Program} (w:World) {o:Oper} {a:Act} {K:Act→World→Prop} {Q:Exit→Act→World→Prop} (d s:Operand) (t t':TypeId)
  (ho:o.op= .call { callee:= .builtin .copy,args:= #[d,s],argTypes:= #[t,t'] }) (v u:Value) (hd:a.eval d=v) (hs:a.eval s=u) {v':Value} {w':World}
  (hr:(Builtin.copy_ #[t,t'] o.type #[v,u]).run P w= .ok v' w') (h:K (a.put o.dst v') w'):o.wp P a w K Q:=by
 unfold Oper.wp execOp
 simp only[ho,resolve,invoke,builtin,Sem.run_bind,Sem.run_pure,Result.andThen_ok,List.map_toArray,List.map_cons,List.map_nil,hd,hs,hr]
 exact h
theorem JR {P:Program} (w:World) {ops:Array Oper} {rest:List Oper} {o:Oper} {a:Act} {Q:Exit→Act→World→Prop} (hgd:o.guard=none) (d s:Operand) (t t':TypeId)
  (ho:o.op= .call { callee:= .builtin .copy,args:= #[d,s],argTypes:= #[t,t'] }) (v u:Value) (hd:a.eval d=v) (hs:a.eval s=u) {v':Value} {w':World}
  (hr:(Builtin.copy_ #[t,t'] o.type #[v,u]).run P w= .ok v' w') (h:wpList P ops Q rest (a.put o.dst v') w'):wpList P ops Q (o::rest) a w:=
 wpList_plain hgd fun _ hK=>ajR w d s t t' ho v u hd hs hr (hK _ _ h)
theorem Xq {P:Program} {ops:Array Oper} {o:Oper} {a:Act} {w:World} {K:Act→World→Prop} {Q:Exit→Act→World→Prop} {E:Prop}
  (hg:o.guard=none) (d x:Operand) (dT sT:TypeId) (hop:o.op=Op.call { callee:=Callee.builtin Builtin.copy,args:= #[d,x],argTypes:= #[dT,sT] })
  (v u:Value) (hd:a.eval d=v) (hx:a.eval x=u) {v':Value} {w':World} (hr:(Builtin.copy_ #[dT,sT] o.type #[v,u]).run P w= .ok v' w') (hK:K (a.put o.dst v') w'):
  if Region.wanted o (yielded ops a.tmps)=true then Oper.wp P o a w K Q else E:=by
 have hw:Region.wanted o (yielded ops a.tmps)=true:=by simp[Region.wanted,hg]
 rw[if_pos hw]
 unfold Oper.wp
 simp[execOp,hop,resolve,invoke,builtin,hd,hx,hr,Result.andThen]
 exact hK
theorem vW (w:World) (ty:TypeId) (b o dLen dCap:Nat) (a:Addr) (sLen sCap:Nat) (cs:List Value) (m:Nat) (hm:m=Nat.min sLen dLen) (hn:cs.length=m*3)
  (hsrc: ∀j v,cs[j]? =some v→w.cell? (a.add j)=some v) (hc: ∀j,j<cs.length→(w.cell? ⟨b,o+j,none⟩).isSome=true) (hf: ∀j,j<cs.length→w.frozen? ⟨b,o+j,none⟩=false) (h1: ∀v∈cs,v.oneCell'=true):
  (Builtin.copy_ #[362,362] ty #[.slice (some ⟨b,o,none⟩) dLen dCap,.slice (some a) sLen sCap]).run Tryz.prog w= .ok (goInt m) (w.setCells b o cs):=by
 obtain⟨i0,hi0,hz0,hz1,hz2⟩:=info_parts aBb
 have hl:=run_firstCells_some (P:=Tryz.prog) w 3 m a sLen sCap cs hn hsrc
 have hst:=run_storeCells_cells (P:=Tryz.prog) b o cs 0 w (by simpa using hc) (by simpa using hf) h1
 simp only[Nat.add_zero]at hst
 simp[Builtin.copy_,run_underlying Tryz.underlying362,Builtin.lenOf,sizeOf,typeInfo,hi0,hz1,←hm,hl,hst]
end
section
open Go.RowKit Go.Lib
theorem aB6 {cur A X R:List Value} {i n c:Nat} (hc:cur.length=c*3) (hA:cur.take (i*3)=A) (hX:X.length=3) (hR:R.length=(n-i)*3) (hi:i≤n) (hn:n+1≤c):
  (setL (setL cur (i*3) X) ((i+1)*3) R).take ((n+1)*3)=A++X++R:=by
 have hAl:A.length=i*3:=by rw[←hA,List.length_take];omega
 have e1:setL cur (i*3) X=A++X++cur.drop (i*3+X.length):=by unfold setL;rw[hA]
 have hAX:(A++X).length=(i+1)*3:=by rw[List.length_append];omega
 have e2:(A++X++cur.drop (i*3+X.length)).take ((i+1)*3)=A++X:=by rw[←hAX,List.take_left]
 rw[e1]
 unfold setL
 rw[e2]
 rw[List.take_append_of_le_length (by simp only[List.length_append]at hAX⊢;omega),List.take_of_length_le (by simp only[List.length_append]at hAX⊢;omega)]
theorem ajM {cur A X R:List Value} {i n c:Nat} (hc:cur.length=c*3) (hA:cur.take (i*3)=A) (hX:X.length=3) (hR:R.length=(n-i)*3) (hi:i≤n) (hn:n+1≤c):
  (setL (setL cur ((i+1)*3) R) (i*3) X).take ((n+1)*3)=A++X++R:=by
 have hAl:A.length=i*3:=by rw[←hA,List.length_take];omega
 unfold setL
 have e1:(cur.take ((i+1)*3)++R++cur.drop ((i+1)*3+R.length)).take (i*3)=A:=by
  rw[List.append_assoc,List.take_append_of_le_length (by rw[List.length_take];omega),List.take_take,Nat.min_eq_left (by omega),hA]
 have e2:(cur.take ((i+1)*3)++R++cur.drop ((i+1)*3+R.length)).drop (i*3+X.length)=R++cur.drop ((i+1)*3+R.length):=by
  have:i*3+X.length=(cur.take ((i+1)*3)).length:=by rw[List.length_take];omega
  rw[List.append_assoc,this,List.drop_left]
 rw[e1,e2,←List.append_assoc]
 rw[List.take_append_of_le_length (by simp only[List.length_append];omega),List.take_of_length_le (by simp only[List.length_append];omega)]
end
section
open Go.RowKit Go.Lib
theorem ag6 {w:World} {g o:Nat} {vs:List Value} (h: ∀j,j<vs.length→(w.cell? ⟨g,o+j,none⟩).isSome=true) (k:Nat) (hk:(w.cell? ⟨g,k,none⟩).isSome=true):((w.setCells g o vs).cell? ⟨g,k,none⟩).isSome=true:=by
 by_cases hin:o≤k∧k<o+vs.length
 ·have:=World.cell?_setCells_in g vs o w h (k-o) (by omega)
  rw[show o+(k-o)=k by omega]at this
  rw[this]
  have:k-o<vs.length:=by omega
  simp[this]
 ·rw[World.cell?_setCells_out g vs o w ⟨g,k,none⟩ (fun _ _=>by show k<o∨o+vs.length≤k;omega)]
  exact hk
theorem yY (n:Nat):(Builtin.zeroCells (Value.agg #[.string ⟨#[]⟩,.string ⟨#[]⟩,.int .i64 0]).cells n).size=n*3:=by
 simp[Builtin.zeroCells,Value.cells]
end
section
open Go.RowKit Go.Lib
theorem Zi (cur:List Value) {i n:Nat} (hi:i≤n):cur.take (n*3)=cur.take (i*3)++(cur.drop (i*3)).take ((n-i)*3):=by
 have e:n*3=i*3+(n-i)*3:=by omega
 rw[e,List.take_add]
theorem abA {w:World} {T T2:TypeId} {cur arr:Array Value} {X:List Value} {g vb c i n:Nat} (hb:Blk w g T cur) (hcs:cur.size=c*3) (hvb:Blk w vb T2 arr) (hXa:arr.toList.take 3=X) (hX:X.length=3) (hone: ∀v∈cur.toList.take (n*3),v.oneCell'=true) (hX1: ∀v∈X,v.oneCell'=true) (hne:vb≠g) (hi:i<n) (hroom:n+1≤c) (hn:n≤100000):
  Calls Tryz.prog 268 #[.slice (some ⟨g,0,none⟩) n c,.int .i64 i,.slice (some ⟨vb,0,none⟩) 1 1] w fun e w'=>e= .returned (.slice (some ⟨g,0,none⟩) (n+1) c)∧
   (∃cur':Array Value,Blk w' g T cur'∧cur'.size=c*3∧cur'.toList.take ((n+1)*3)=cur.toList.take (i*3)++X++(cur.toList.drop (i*3)).take ((n-i)*3))∧Kp [g] w w':=by
 have hXj: ∀(j:Nat) v,X[j]? =some v→arr[j]? =some v:=fun j v hj=>by
  have hjl:=(List.getElem?_eq_some_iff.1 hj).1
  rw[←Array.getElem?_toList]
  rw[←hXa,List.getElem?_take_of_lt (by omega)]at hj
  exact hj
 obtain⟨R,hRd⟩: ∃R,R=(cur.toList.drop (i*3)).take ((n-i)*3):=⟨_,rfl⟩
 have hsb:w.shape? g=some (T,cur.size):=by have:w.heap[g]? =_:=hb;simp[World.shape?,this]
 have hsa:w.shape? vb=some (T2,arr.size):=by
  have:w.heap[vb]? =some (.cells arr T2 (0,0)):=hvb
  simp[World.shape?,this]
 have hov: ∀lb cb o,(callFunc 344 #[.slice (some ⟨vb,0,none⟩) 1 1,.slice (some ⟨g,o,none⟩) lb cb]).run Tryz.prog w= .ok (.value (.bool false)) w:=fun lb cb o=>by
  rw[run_callFunc_extern Tryz.func344 (by kernel_rfl) (by kernel_rfl) (by kernel_rfl) (e:=Extern.SlicesOverlaps.overlaps #[362,362] #[4]) (by kernel_rfl),
   Lib.run_overlaps_apart w 362 4 377 Tryz.underlying362 3 (fun w=>by
    obtain⟨i0,hi0,hz0,hz1,hz2⟩:=info_parts aBb
    simp[sizeOf,typeInfo,hi0,hz1]) ⟨vb,0,none⟩ ⟨g,o,none⟩ 1 1 lb cb hne _ _ _ _ hsa hsb (by omega) (hvb.frozen 0) (hvb.frozen _)]
  rfl
 have hcl:cur.toList.length=c*3:=by simpa using hcs
 have hR:R.length=(n-i)*3:=by rw[hRd,List.length_take,List.length_drop,hcl];omega
 have hRone: ∀v∈R,v.oneCell'=true:=fun v hv=>hone v (by rw[Zi cur.toList (by omega:i≤n),←hRd];exact List.mem_append_right _ hv)
 have hsome: ∀j,j<c*3→(w.cell? ⟨g,j,none⟩).isSome=true:=fun j hj=>by rw[hb.cell,Array.getElem?_eq_getElem (by omega)];rfl
 have hfz: ∀j,w.frozen? ⟨g,j,none⟩=false:=fun j=>hb.frozen j
 have hat: ∀(j:Nat) v,R[j]? =some v→w.cell? ⟨g,i*3+j,none⟩=some v:=fun j v hj=>by
  have hjl:=(List.getElem?_eq_some_iff.1 hj).1
  rw[hb.cell,←Array.getElem?_toList]
  rw[hRd,List.getElem?_take_of_lt (by omega),List.getElem?_drop]at hj
  exact hj
 have hcp1: ∀ty dc sc,(Builtin.copy_ #[362,362] ty #[.slice (some ⟨g,(i+1)*3,none⟩) (n-i) dc,.slice (some ⟨g,i*3,none⟩) (n+1-i) sc]).run Tryz.prog w.drew= .ok (goInt (n-i:Nat)) (w.drew.setCells g ((i+1)*3) R):=fun ty dc sc=>
  vW w.drew ty g ((i+1)*3) _ dc ⟨g,i*3,none⟩ _ sc _ (n-i) (by simp only[Nat.min_def];split<;>omega) hR
   (fun j v hj=>by rw[Addr.add_lit];exact hat j v hj) (fun j hj=>hsome _ (by rw[hR]at hj;omega)) (fun j _=>hfz _) hRone
 obtain⟨W1,hW1⟩: ∃W1,W1=w.drew.setCells g ((i+1)*3) R:=⟨_,rfl⟩
 have hk1:Kp [g] w W1:=by rw[hW1];exact(Kp.refl _ w).drew.trans (yV g _ _ w.drew)
 have g1:Blk W1 g T (setL cur.toList ((i+1)*3) R).toArray:=by
  rw[hW1]
  exact yz g T (0,0) R ((i+1)*3) w.drew cur hb (by rw[hR,hcs];omega)
 have hsl:(setL cur.toList ((i+1)*3) R).length=c*3:=by rw[qM (by rw[hR];simp;omega)];simpa using hcs
 have hvb1:Blk W1 vb T2 arr:=hvb.kp hk1 (by simpa using hne)
 have hcp2: ∀(W:World),(∀x,W.cell? x=W1.cell? x)→(∀x,W.frozen? x=W1.frozen? x)→ ∀ty dc,(Builtin.copy_ #[362,362] ty #[.slice (some ⟨g,i*3,none⟩) (n+1-i) dc,.slice (some ⟨vb,0,none⟩) 1 1]).run Tryz.prog W= .ok (goInt (1:Nat)) (W.setCells g (i*3) X):=fun W hWc hWf ty dc=>
  vW W ty g (i*3) _ dc ⟨vb,0,none⟩ 1 1 _ 1 (by simp only[Nat.min_def];split<;>omega) (by rw[hX])
   (fun j v hj=>by rw[Addr.add_lit,hWc,Nat.zero_add,hvb1.cell];exact hXj j v hj) (fun j hj=>by rw[hWc,g1.cell,Array.getElem?_eq_getElem (by simp only[List.size_toArray];rw[hsl];omega)];rfl) (fun j _=>by rw[hWf];exact g1.frozen _) hX1
 have hO2: ∀(W:World),(∀b,W.heap[b]? =W1.heap[b]?)→ ∃cur':Array Value,Blk (W.setCells g (i*3) X) g T cur'∧cur'.size=c*3∧cur'.toList.take ((n+1)*3)=cur.toList.take (i*3)++X++R:=fun W hWh=>by
  have g2:=yz g T (0,0) X (i*3) W _ ((hWh g).trans g1) (by simp[hX,hsl];omega)
  refine⟨_,g2,?_,?_⟩
  ·simp only[List.size_toArray]
   rw[qM (by simp[hX,hsl];omega),hsl]
  ·show List.take ((n+1)*3) (setL (setL cur.toList _ _) _ _)=_
   exact ajM (n:=n) (c:=c) hcl rfl hX hR (by omega) hroom
 rw[←hW1]at hcp1
 have HP:=hid hcp1
 have HP2:=hid hcp2
 have HO2:=hid hO2
 have HK1:=hid hk1
 have HOV:=hid hov
 have hz2: ¬((i:Int)=(n:Int)):=by omega
 have hw1:IntKind.i64.wrap ((i:Int)+1)=(i:Int)+1:=by rw[IntKind.wrap_i64];omega
 have hw2:IntKind.i64.wrap ((n:Int)+1)=(n:Int)+1:=by rw[IntKind.wrap_i64];omega
 have hb0: ¬((c:Int)<(n:Int)+1):=by omega
 have hb1:(0:Int)≤(i:Int)+1:=by omega
 have hin:i≤n:=by omega
 have htn:((i:Int)+1).toNat=i+1:=by omega
 have htn2:((n:Int)+1).toNat=n+1:=by omega
 have hb2: ¬(c=i+1):=by omega
 have hb3:(i:Int)≤(n:Int)+1:=by omega
 have hb4: ¬(c=i):=by omega
 have hb5:(i:Int)+1≤(n:Int)+1:=by omega
 have hb6:(0:Int)≤(n:Int)+1:=by omega
 have hb7:(n:Int)+1≤(c:Int):=by omega
 have HRd:=hid hRd
 clear hXa hXj hRd hsb hsa hR hsome hfz hat hcp1 hcp2 hO2 hk1 hvb1 hW1 hov hvb hb hcs hone hX1 hX hcl hRone g1 hsl
 go_enter Tryz.func268,Tryz.ntmps268
 go_wp2_with (simp only[HOV.out])
 go_region_law (refine Xq rfl _ _ 362 362 rfl _ _ (by simp[Act.eval,Act.put]) (by simp[Act.eval,Act.put]) (HP.out 3 (c- (i+1)) (c-i)) ?_)
 go_wp2_with (with_reducible refine yd .copy rfl ?_)
 with_reducible refine ki ?_
 refine JR _ rfl _ _ 362 362 rfl _ _ rfl rfl (HP2.out _ (fun _=>rfl) (fun _=>rfl) _ _) ?_
 go_wp2
 go_ret
 refine⟨rfl,?_,HK1.out.trans (yV g _ _ _)⟩
 rw[←HRd.out]
 exact HO2.out _ (fun _=>rfl)
theorem agY {w:World} {T T2:TypeId} {cur arr:Array Value} {X:List Value} {g vb c i n:Nat} (hb:Blk w g T cur) (hcs:cur.size=c*3) (hvb:Blk w vb T2 arr) (hXa:arr.toList.take 3=X) (hX:X.length=3) (hone: ∀v∈cur.toList.take (n*3),v.oneCell'=true) (hX1: ∀v∈X,v.oneCell'=true) (hi:i<n) (hnc:n≤c) (hroom:c<n+1) (hn:n≤100000):
  Calls Tryz.prog 268 #[.slice (some ⟨g,0,none⟩) n c,.int .i64 i,.slice (some ⟨vb,0,none⟩) 1 1] w fun e w'=> ∃G cur',e= .returned (.slice (some ⟨w.heap.size,0,none⟩) (n+1) G)∧n+1≤G∧
   Blk w' w.heap.size 377 cur'∧cur'.size=G*3∧cur'.toList.take ((n+1)*3)=cur.toList.take (i*3)++X++(cur.toList.drop (i*3)).take ((n-i)*3)∧Below w.heap.size w w':=by
 have hcn:c=n:=by omega
 subst hcn
 have hXj: ∀(j:Nat) v,X[j]? =some v→arr[j]? =some v:=fun j v hj=>by
  have hjl:=(List.getElem?_eq_some_iff.1 hj).1
  rw[←Array.getElem?_toList]
  rw[←hXa,List.getElem?_take_of_lt (by omega)]at hj
  exact hj
 obtain⟨R,hRd⟩: ∃R,R=(cur.toList.drop (i*3)).take ((c-i)*3):=⟨_,rfl⟩
 obtain⟨A,hAd⟩: ∃A,A=cur.toList.take (i*3):=⟨_,rfl⟩
 have hq2:g<w.heap.size:=hb.lt
 obtain⟨i0,hi0,hz0,hz1,hz2⟩:=info_parts aBb
 have hcl:cur.toList.length=c*3:=by simpa using hcs
 have hR:R.length=(c-i)*3:=by rw[hRd,List.length_take,List.length_drop,hcl];omega
 have hA:A.length=i*3:=by rw[hAd,List.length_take,hcl];omega
 have hRone: ∀v∈R,v.oneCell'=true:=fun v hv=>hone v (by rw[Zi cur.toList (by omega:i≤c),←hRd];exact List.mem_append_right _ hv)
 have hold:(Builtin.firstCells i0.size i (.slice (some ⟨g,0,none⟩) i c)).run Tryz.prog w.drew= .ok A.toArray w.drew:=by
  rw[hz1]
  exact run_firstCells_some w.drew 3 i ⟨g,0,none⟩ i c _ hA (fun j v hj=>by
   rw[Addr.add_lit,Nat.zero_add]
   have hjl:=(List.getElem?_eq_some_iff.1 hj).1
   have:w.cell? ⟨g,j,none⟩=some v:=by
    rw[hb.cell,←Array.getElem?_toList]
    rw[hAd,List.getElem?_take_of_lt (by omega)]at hj
    exact hj
   exact this)
 obtain⟨G,hG⟩: ∃G,G=grownCap w (c+1) c 377:=⟨_,rfl⟩
 obtain⟨ROW,hROW⟩: ∃ROW:Array Value,ROW=A.toArray++Builtin.zeroCells (Value.agg #[.string ⟨#[]⟩,.string ⟨#[]⟩,.int .i64 0]).cells (c+1-i)++Builtin.zeroCells (Value.agg #[.string ⟨#[]⟩,.string ⟨#[]⟩,.int .i64 0]).cells (G- (c+1)):=⟨_,rfl⟩
 have hrz: ∀ty,(Builtin.append_ #[362,3] ty #[.slice (some ⟨g,0,none⟩) i c,.int .i64 ((c:Int)+1- (i:Int))]).run Tryz.prog w= .ok (.slice (some ⟨w.heap.size,0,none⟩) (c+1) G) (w.drew.alloc (.cells ROW 377)):=fun ty=>by
  have hh:=Lib.run_append_grow_zeros w 362 3 ty 377 i0 _ .i64 .i64 Tryz.underlying362 Tryz.underlying3 hi0 hz0 (some ⟨g,0,none⟩) i c A hold (c+1-i) (by omega) (by omega) (by omega) (by omega) (by rw[hz2];omega) (by
   rw[hz2,show i+(c+1-i)=c+1 by omega]
   exact growslice_fits (by omega) (by omega))
  rw[show i+(c+1-i)=c+1 by omega,←hG,←hROW]at hh
  rw[show(c:Int)+1- (i:Int)=((c+1-i:Nat):Int)by omega]
  exact hh
 have hGn:c+1≤G:=by rw[hG];exact grownCap_ge w _ _ _
 have hGm:G≤maxLen:=by rw[hG];exact grownCap_le_maxLen w (c+1) c 377 (by unfold maxLen;omega)
 have hRS:ROW.size=G*3:=by
  rw[hROW]
  simp only[Array.size_append,List.size_toArray,yY,hA]
  omega
 obtain⟨W1,hW1⟩: ∃W1,W1=w.drew.alloc (.cells ROW 377):=⟨_,rfl⟩
 have hs1:W1.heap.size=w.heap.size+1:=by rw[hW1];simp
 have hb1:Below w.heap.size w W1:=by rw[hW1];exact(Below.refl _ w).drew.alloc (Nat.le_refl _) _
 have hk1:Blk W1 w.heap.size 377 ROW:=by rw[hW1];exact Blk.new w.drew _ _
 rw[←hW1]at hrz
 have hN: ∀j,j<G*3→(W1.cell? ⟨w.heap.size,j,none⟩).isSome=true:=fun j hj=>by
  rw[hk1.cell,Array.getElem?_eq_getElem (by omega)];rfl
 have hNf: ∀j,W1.frozen? ⟨w.heap.size,j,none⟩=false:=fun j=>hk1.frozen j
 have hcpA: ∀(W:World),(∀x,W.cell? x=W1.cell? x)→(∀x,W.frozen? x=W1.frozen? x)→ ∀ty dc,(Builtin.copy_ #[362,362] ty #[.slice (some ⟨w.heap.size,i*3,none⟩) (c+1-i) dc,.slice (some ⟨vb,0,none⟩) 1 1]).run Tryz.prog W= .ok (goInt (1:Nat)) (W.setCells w.heap.size (i*3) X):=fun W hWc hWf ty dc=>
  vW W ty w.heap.size (i*3) _ dc ⟨vb,0,none⟩ 1 1 _ 1 (by simp only[Nat.min_def];split<;>omega) (by rw[hX])
   (fun j v hj=>by
    have:=(hvb.below hb1 hvb.lt).cell j
    rw[Addr.add_lit,hWc,Nat.zero_add,this];exact hXj j v hj) (fun j hj=>by rw[hWc];exact hN _ (by omega)) (fun j _=>by rw[hWf];exact hNf _) hX1
 have hcpB: ∀(W:World),(∀y,W.cell? y=(W1.setCells w.heap.size (i*3) X).cell? y)→(∀y,W.frozen? y=(W1.setCells w.heap.size (i*3) X).frozen? y)→ ∀ty dc sc,(Builtin.copy_ #[362,362] ty #[.slice (some ⟨w.heap.size,(i+1)*3,none⟩) (c-i) dc,.slice (some ⟨g,i*3,none⟩) (c-i) sc]).run Tryz.prog W= .ok (goInt (c-i:Nat)) (W.setCells w.heap.size ((i+1)*3) R):=fun W hWc hWf ty dc sc=>
  vW W ty w.heap.size ((i+1)*3) _ dc ⟨g,i*3,none⟩ _ sc _ (c-i) (by simp only[Nat.min_def];split<;>omega) hR
   (fun j v hj=>by
    rw[Addr.add_lit,hWc,World.cell?_setCells_out _ _ _ _ _ (fun hh _=>by have:g=w.heap.size:=hh;omega)]
    rw[hb1.cell (p:=⟨g,i*3+j,none⟩) hq2]
    have hjl:=(List.getElem?_eq_some_iff.1 hj).1
    rw[hb.cell,←Array.getElem?_toList]
    rw[hRd,List.getElem?_take_of_lt (by omega),List.getElem?_drop]at hj
    exact hj)
   (fun j hj=>by rw[hWc];exact ag6 (fun t ht=>hN _ (by omega)) _ (hN _ (by rw[hR]at hj;omega)))
   (fun j _=>by rw[hWf,World.frozen?_setCells];exact hNf _) hRone
 have hO: ∀(Wa Wb:World),(∀b,Wa.heap[b]? =W1.heap[b]?)→(∀b,Wb.heap[b]? =(Wa.setCells w.heap.size (i*3) X).heap[b]?)→ ∃cur':Array Value,Blk (Wb.setCells w.heap.size ((i+1)*3) R) w.heap.size 377 cur'∧cur'.size=G*3∧cur'.toList.take ((c+1)*3)=A++X++R:=fun Wa Wb hWa hWb=>by
  have g0:Wa.heap[w.heap.size]? =some (.cells ROW 377 (0,0)):=(hWa _).trans hk1
  have g1:=yz w.heap.size 377 (0,0) X (i*3) Wa ROW g0 (by rw[hRS];simp[hX];omega)
  have hsl:(setL ROW.toList (i*3) X).length=G*3:=by rw[qM (by simp[hX,hRS];omega)];simpa using hRS
  have g2:=yz w.heap.size 377 (0,0) R ((i+1)*3) Wb _ ((hWb _).trans g1) (by simp only[List.size_toArray];rw[hR,hsl];omega)
  refine⟨_,g2,?_,?_⟩
  ·simp only[List.size_toArray]
   rw[qM (by rw[hsl,hR];omega),hsl]
  ·show List.take ((c+1)*3) (setL (setL ROW.toList _ _) _ _)=_
   refine aB6 (n:=c) (c:=G) (by simpa using hRS) ?_ hX hR (by omega) hGn
   rw[hROW]
   simp only[Array.toList_append,List.append_assoc]
   rw[List.take_append_of_le_length (by rw[hA];exact Nat.le_refl _),List.take_of_length_le (by rw[hA];exact Nat.le_refl _)]
 have HB1:=hid hb1
 have HRZ:=hid hrz
 have HPA:=hid hcpA
 have HPB:=hid hcpB
 have HO:=hid hO
 have HW1:=hid hW1
 unfold maxLen at hGm
 have hz2: ¬((i:Int)=(c:Int)):=by omega
 have hz3:(c:Int)<(c:Int)+1:=by omega
 have hw1:IntKind.i64.wrap ((i:Int)+1)=(i:Int)+1:=by rw[IntKind.wrap_i64];omega
 have hw2:IntKind.i64.wrap ((c:Int)+1)=(c:Int)+1:=by rw[IntKind.wrap_i64];omega
 have hw3:IntKind.i64.wrap ((c:Int)+1- (i:Int))=(c:Int)+1- (i:Int):=by rw[IntKind.wrap_i64];omega
 have hb2:(0:Int)≤(i:Int)+1:=by omega
 have hin:i≤c:=by omega
 have htn:((i:Int)+1).toNat=i+1:=by omega
 have hGi: ¬(G=i):=by omega
 have hGim: ¬(G=i+1):=by omega
 have hci: ¬(c=i):=by omega
 have hb3:(i:Int)≤(c:Int):=by omega
 have hb4:(i:Int)≤(c:Int)+1:=by omega
 have hb5:(i:Int)+1≤(c:Int)+1:=by omega
 have HRd:=hid hRd
 have HAd:=hid hAd
 clear hR hA hold hG hROW hrz hRS hb1 hk1 hN hNf hcpA hcpB hO hW1 hvb hb hcs hone hX1 hX hcl hRone hRd hAd hXa hXj
 go_enter Tryz.func268,Tryz.ntmps268
 go_wp2_with (with_reducible refine yd .append rfl ?_)
 with_reducible refine ki ?_
 refine Lib.wpList_append_run _ rfl _ _ 362 3 rfl _ _ rfl rfl _ _ (HRZ.out _) ?_
 go_wp2_with (with_reducible refine yd .copy rfl ?_)
 with_reducible refine ki ?_
 refine JR _ rfl _ _ 362 362 rfl _ _ rfl rfl (HPA.out _ (fun _=>rfl) (fun _=>rfl) _ _) ?_
 go_wp2_with fail
 go_region_law (refine Xq rfl _ _ 362 362 rfl _ _ (by simp[Act.eval,Act.put]) (by simp[Act.eval,Act.put]) (HPB.out (W1.setCells w.heap.size (i*3) X).drew (fun _=>rfl) (fun _=>rfl) 3 (G- (i+1)) (c-i)) ?_)
 go_wp2
 go_ret
 obtain⟨cur',k1,k2,k3⟩:=HO.out W1 (W1.setCells w.heap.size (i*3) X).drew (fun _=>rfl) (fun _=>rfl)
 refine⟨G,cur',rfl,hGn,k1,k2,by rw[k3,HAd.out,HRd.out],?_⟩
 refine HB1.out.trans (Below.trans (b:=(W1.setCells w.heap.size (i*3) X).drew) ?_ ?_)
 ·exact((yV w.heap.size X (i*3) W1).drew).to_below (by omega) (by simp)
 ·exact(yV w.heap.size _ _ _).to_below (by
   have:=(yV w.heap.size X (i*3) W1).size
   show w.heap.size≤(W1.setCells w.heap.size (i*3) X).heap.size
   omega) (by simp)
end
end Go.Proofs.YtcdiljebkpikbaaGreat
