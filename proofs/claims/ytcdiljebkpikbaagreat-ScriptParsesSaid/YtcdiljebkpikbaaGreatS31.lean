/- Parts of the proof: Ea Sca Scb Scc Gt Gu Eb Gs Ee Ef Eq. -/
import Derived.Deep.RegionHeld
import Derived.StillTail
import Derived.Deep.Cut
import Derived.Deep.CutRange
import Derived.Deep.CutBlock
import Derived.Laws.RangeString
import Derived.LoopTactic
import Derived.Test.YtcdiljebkpikbaaGreatS10
import Derived.Test.YtcdiljebkpikbaaGreatS11
set_option linter.all false
set_option maxRecDepth 100000
set_option maxHeartbeats 64000000
namespace Go.Proofs.YtcdiljebkpikbaaGreat
section
structure In where
 op:Int
 a:Int
 b:Int
 c:Int
def inC (x:In):List Value:=[.int .i64 x.op,.int .i64 x.a,.int .i64 x.b,.int .i64 x.c]
def rgB (n:Int):Bool:=decide (0≤n)&&decide (n≤7)
def plB (n len:Int):Bool:=decide (0≤n)&&decide (n≤len)
def vM (x:In) (len:Int):Bool:=
 if x.op=0 then true
 else if x.op=1 then rgB x.a
 else if x.op=2∨x.op=11∨x.op=13∨x.op=14 then rgB x.a&&rgB x.b
 else if(3≤x.op∧x.op≤8)∨x.op=12 then rgB x.a&&(rgB x.b&&rgB x.c)
 else if x.op=9 then plB x.a len
 else if x.op=10 then rgB x.a&&plB x.b len
 else false
def xf (p:List In):Bool:=p.all (fun x=>vM x p.length)&&(decide (1≤p.length)&&decide (p.length≤48))
structure Ini where
 t:Nat
 dst:Int
 pay:Int
def aay (x:Ini):List Value:=[.float .f64 x.t,.int .i64 x.dst,.int .i64 x.pay]
def okZ (z:Int):Prop:= -9223372036854775808≤z∧z<9223372036854775808
def In.ok (y:In):Prop:=okZ y.op∧okZ y.a∧okZ y.b∧okZ y.c
def Ini.ok (y:Ini):Prop:=y.t<18446744073709551616∧okZ y.dst∧okZ y.pay
structure Mdl where
 seed:Int
 en:Nat
 dl:List Nat
 pr:List (List In)
 lp:List (Int×List Int)
 ini:List Ini
def X1 (m:Mdl):Bool:=decide (1≤m.lp.length∧m.lp.length≤6∧1≤m.pr.length∧m.pr.length≤4∧1≤m.dl.length∧m.dl.length≤8∧m.ini.length≤16)&& !jm m.en
def dlB (d:Nat):Bool:=fgt d 0
def lpB (n:Nat) (x:Int×List Int):Bool:=decide (0≤x.1∧x.1<n∧x.2.length≤8)
def aRS (n:Nat) (x:Ini):Bool:= !jm x.t&&decide (0≤x.dst∧x.dst<n)
def yM (m:Mdl):Bool:=X1 m&&(m.dl.all dlB&&(m.pr.all xf&&(m.lp.all (lpB m.pr.length)&&m.ini.all (aRS m.lp.length))))
end
section
def zv (c:UInt8):Bs→List Bs
 | []=>[[]]
 |b::l=>if b=c then []::zv c l else
  match zv c l with
  | []=>[[b]]
  |p::ps=>(b::p)::ps
theorem xM (c b:UInt8) (l:Bs):zv c (b::l)=if b=c then []::zv c l else match zv c l with
  | []=>[[b]]
  |p::ps=>(b::p)::ps:=by rw[zv]
theorem ahw {c:UInt8} {p:Bs} (h: ∀b∈p,b≠c):zv c p=[p]:=by
 induction p with
 |nil=>rfl
 |cons b l ih=>
  rw[xM,if_neg (h b (by simp)),ih fun x hx=>h x (by simp[hx])]
theorem abU {c:UInt8} {p r:Bs} (h: ∀b∈p,b≠c):zv c (p++c::r)=p::zv c r:=by
 induction p with
 |nil=>simp[zv]
 |cons b l ih=>
  show zv c (b::(l++c::r))=_
  rw[xM,if_neg (h b (by simp)),ih fun x hx=>h x (by simp[hx])]
theorem xz (c:UInt8) (l:Bs):(zv c l).length≤l.length+1:=by
 induction l with
 |nil=>simp[zv]
 | cons b l ih=>
  rw[xM]
  split
  ·simp;omega
  ·split
   ·simp
   ·next h=>rw[h]at ih;simp at ih⊢;omega
theorem jH {c:UInt8} {l p:Bs} (h:p∈zv c l):p.length≤l.length:=by
 induction l generalizing p with
 |nil=>simp[zv]at h;simp[h]
 | cons b l ih=>
  rw[xM]at h
  split at h
  ·rcases List.mem_cons.1 h with rfl|h
   ·simp
   ·have:=ih h;simp;omega
  ·split at h
   ·simp at h;simp[h]
   ·next e=>
    rcases List.mem_cons.1 h with rfl|h
    ·have:=ih (by rw[e];exact List.mem_cons_self ..);simp;omega
    ·have:=ih (by rw[e];exact List.mem_cons_of_mem _ h);simp;omega
theorem jq (c:UInt8) (l:Bs):zv c l≠[]:=by
 cases l with
 |nil=>simp[zv]
 |cons b l=>
  rw[xM]
  split
  ·simp
  ·split<;>simp
def aal (b:UInt8):Bool:=decide (48≤b.toNat)&&decide (b.toNat≤57)
def QL (l:Bs):Nat:=l.foldl (fun n b=>n*10+(b.toNat-48)) 0
def yR (w:Bs):Option Nat:=if w≠[]∧w.all aal=true∧(w.getD 0 0≠48∨w.length=1)∧QL w≤1099511627776 then some (QL w)else none
theorem aij (l:Bs) (b:UInt8):QL (l++[b])=QL l*10+(b.toNat-48):=by simp[QL]
def Zl (n:Nat):Bs:=if h:n<10 then [UInt8.ofNat (48+n)]else Zl (n / 10)++[UInt8.ofNat (48+n%10)]
termination_by n
decreasing_by omega
def Xb (x:Int):Bs:=if x<0 then 45::Zl (-x).toNat else Zl x.toNat
def aSy (n:Nat):UInt8:=UInt8.ofNat (if n<10 then 48+n else 87+n)
def hexB (l:Bs):Bs:=l.flatMap fun b=>[aSy (b.toNat / 16),aSy (b.toNat%16)]
def hexS (l:Bs):Bs:=if l=[]then [45]else hexB l
def xu (c:UInt8):Option Nat:=if 48≤c.toNat∧c.toNat≤57 then some (c.toNat-48)else if 97≤c.toNat∧c.toNat≤102 then some (c.toNat-87)else none
def qs:Bs→Option Bs
 | []=>some []
 | [_]=>none
 |a::b::r=>match xu a,xu b,qs r with
  |some x,some y,some z=>some (UInt8.ofNat (16*x+y)::z)
  |_,_,_=>none
def xr (w:Bs):Option Bs:=if w=[45]then some []else if w=[]then none else qs w
def XV (l:List Bool):Bs:=if l=[]then [45]else l.map fun b=>if b then 121 else 110
def aca (b:UInt8):Bool:=decide (b=121) || decide (b=110)
def zX (w:Bs):Option (List Bool):=if w=[45]then some []else if w.all aca=true∧1≤w.length∧w.length≤64 then some (w.map fun b=>decide (b=121))else none
def kw (k:Nat):Bs:=match k with
 |1=>[100,101,108,105,118,101,114]
 |2=>[119,111,114,107]
 |3=>[114,111,117,110,100]
 |4=>[101,118,105,99,116]
 |5=>[108,97,122,121]
 |6=>[97,114,109]
 |7=>[99,114,97,115,104]
 |8=>[115,116,97,114,116]
 |9=>[100,114,105,118,101]
 |_=>[]
def zh (w:Bs):Nat:=if w=kw 1 then 1 else if w=kw 2 then 2 else if w=kw 3 then 3 else if w=kw 4 then 4 else if w=kw 5 then 5 else if w=kw 6 then 6 else if w=kw 7 then 7 else if w=kw 8 then 8 else if w=kw 9 then 9 else 0
structure Ac where
 kind:Int
 n:Int
 keep:List Bool
 torn:Int
 bytes:Int
def xD (ws:List Bs):Option Ac:=
 let k:=zh (ws.getD 0 [])
 if k=0 then none
 else if k=3 then(if ws.length=1 then some ⟨3,0,[],0,0⟩else none)
 else if k=7 then(if ws.length=4 then
  match zX (ws.getD 1 []),yR (ws.getD 2 []),yR (ws.getD 3 [])with
  |some b,some t,some n=>some ⟨7,0,b,t,n⟩
  |_,_,_=>none
  else none)
 else if ws.length=2 then(match yR (ws.getD 1 [])with
  |some n=>some ⟨k,n,[],0,0⟩
  |none=>none)
 else none
def YH (x:Int):Bool:=decide (0≤x)&&decide (x≤1099511627776)
def kwI (k:Int):Bs:=kw k.toNat
def aos (a:Ac):List Bs:=if a.kind=3 then [kwI a.kind]else if a.kind=7 then [kwI a.kind,XV a.keep,Xb a.torn,Xb a.bytes]else [kwI a.kind,Xb a.n]
def okA (a:Ac):Bool:=decide (1≤a.kind∧a.kind≤9)&&(if a.kind=3 then true else if a.kind=7 then YH a.torn&&(YH a.bytes&&decide (a.keep.length≤64))else YH a.n)
def abI:List Bs→Bs
 | []=>[]
 | [p]=>p
 |p::q::r=>p++32::abI (q::r)
def kH (a:Ac):Bs:=if 1≤a.kind∧a.kind≤9 then abI (aos a)else []
structure Scr where
 sec:Int
 fr:Int
 m:Mdl
 acts:List Ac
def agP (x:Nat):Bs:=be 8 x
def aRU (x:In):Bs:=X6 x.op++X6 x.a++X6 x.b++X6 x.c
def abK {α:Type} (one:α→Bs) (l:List α):Bs:=X6 l.length++l.flatMap one
def aRT (x:Ini):Bs:=agP x.t++X6 x.dst++X6 x.pay
def lpBs (x:Int×List Int):Bs:=X6 x.1++abK X6 x.2
def layM (m:Mdl):Bs:=X6 m.seed++agP m.en++abK agP m.dl++abK (abK aRU) m.pr++abK lpBs m.lp++abK aRT m.ini
abbrev Rd (α:Type):=Bs→Option Nat→α×Option Nat
def rdI:Rd Int:=fun s st=>match st with
 |none=>(0,none)
 |some a=>if a+8≤s.length then((jY ((s.drop a).take 8):Int) -9223372036854775808,some (a+8))else(0,none)
def rdF:Rd Nat:=fun s st=>match st with
 |none=>(0,none)
 |some a=>if a+8≤s.length then(jY ((s.drop a).take 8),some (a+8))else(0,none)
def rdN {α:Type} (one:Rd α):Nat→Rd (List α)
 |0,_,st=>([],st)
 |n+1,s,st=>match st with
  |none=>([],none)
  |some a=>((one s (some a)).1::(rdN one n s (one s (some a)).2).1,(rdN one n s (one s (some a)).2).2)
def rdC:Rd Int:=fun s st=>match(rdI s st).2 with
 |none=>((rdI s st).1,none)
 |some a=>if 0≤(rdI s st).1∧(rdI s st).1≤48 then((rdI s st).1,some a)else((rdI s st).1,none)
def rdL {α:Type} (one:Rd α):Rd (List α):=fun s st=>rdN one (rdC s st).1.toNat s (rdC s st).2
def xR:Rd In:=fun s st=>
 let a:=rdI s st;let b:=rdI s a.2;let c:=rdI s b.2;let d:=rdI s c.2
 (⟨a.1,b.1,c.1,d.1⟩,d.2)
def acb:Rd (Int×List Int):=fun s st=>
 let a:=rdI s st;let b:=rdL rdI s a.2
 ((a.1,b.1),b.2)
def YO:Rd Ini:=fun s st=>
 let a:=rdF s st;let b:=rdI s a.2;let c:=rdI s b.2
 (⟨a.1,b.1,c.1⟩,c.2)
def rdM:Rd Mdl:=fun s st=>
 let a:=rdI s st;let b:=rdF s a.2;let c:=rdL rdF s b.2;let d:=rdL (rdL xR) s c.2;let e:=rdL acb s d.2;let f:=rdL YO s e.2
 (⟨a.1,b.1,c.1,d.1,e.1,f.1⟩,f.2)
def jE (s:Bs):Option Mdl:=if(rdM s (some 0)).2=some s.length∧yM (rdM s (some 0)).1=true then some (rdM s (some 0)).1 else none
def yg (ws:List Bs):Option Scr:=
 if ws.length=4∧ws.getD 0 []=[119,111,114,108,100]then
  match yR (ws.getD 1 []),yR (ws.getD 2 []),xr (ws.getD 3 [])with
  |some n,some f,some s=>(match jE s with
   |some m=>some ⟨n,f,m,[]⟩
   |none=>none)
  |_,_,_=>none
 else none
inductive PR where
 |full
 |line (n:Nat)
 |ok (s:Scr)
def goL (n:Nat):Nat→Option Scr→List Bs→PR
 |_,none,[]=> .line n
 |_,some s,[]=> .ok s
 | i,st,l::r=>
  if l=[]then goL n (i+1) st r
  else if []∈zv 32 l then .line i
  else match st with
   |none=>(match yg (zv 32 l)with
    |none=> .line i
    |some h=>goL n (i+1) (some h) r)
   |some s=>(match xD (zv 32 l)with
    |none=> .line i
    |some a=>goL n (i+1) (some { s with acts:=s.acts++[a] }) r)
def qW (s:Bs):PR:=if 1024<(zv 10 s).length then .full else goL (zv 10 s).length 0 none (zv 10 s)
def Kc (s:Scr):Bs:=abI [[119,111,114,108,100],Xb s.sec,Xb s.fr,hexS (layM s.m)]++[10]
def YP (a b:Nat):Bool:=if jm a || jm b then jm a&&jm b else decide (a=b)
def aa0 (a b:In):Bool:=decide (a.op=b.op)&&(decide (a.a=b.a)&&(decide (a.b=b.b)&&decide (a.c=b.c)))
def vX {α:Type} (f:α→α→Bool):List α→List α→Bool
 | [],[]=>true
 |a::l,b::r=>f a b&&vX f l r
 |_,_=>false
def ahV (a b:Int×List Int):Bool:=decide (a.1=b.1)&&vX (fun x y=>decide (x=y)) a.2 b.2
def KB (a b:Ini):Bool:=YP a.t b.t&&(decide (a.dst=b.dst)&&decide (a.pay=b.pay))
def ab1 (a b:Mdl):Bool:=decide (a.seed=b.seed)&&(YP a.en b.en&&(vX YP a.dl b.dl&&(vX (vX aa0) a.pr b.pr&&(vX ahV a.lp b.lp&&vX KB a.ini b.ini))))
def aju (a b:Ac):Bool:=decide (kH a=kH b)&&decide (okA a=okA b)
def ahW (a b:Scr):Bool:=decide (a.sec=b.sec)&&(decide (a.fr=b.fr)&&(ab1 a.m b.m&&vX aju a.acts b.acts))
end
section
theorem V8 {n:Nat} (h:n<10):Zl n=[UInt8.ofNat (48+n)]:=by rw[Zl,dif_pos h]
theorem agw {n:Nat} (h: ¬n<10):Zl n=Zl (n / 10)++[UInt8.ofNat (48+n%10)]:=by rw[Zl,dif_neg h]
theorem aam {x:Int} (h:YH x=true):Xb x=Zl x.toNat∧x.toNat≤1099511627776∧(x.toNat:Int)=x:=by
 unfold YH at h
 simp only[Bool.and_eq_true,decide_eq_true_eq]at h
 unfold Xb
 rw[if_neg (by omega)]
 exact⟨rfl,by omega,by omega⟩
theorem aBz {w:Bs} {n:Nat} (h:yR w=some n):n≤1099511627776:=by
 unfold yR at h
 split at h
 ·next e=>injection h with h;rw[←h];exact e.2.2.2
 ·cases h
theorem vQ {w:Bs} {n:Nat} (h:yR w=some n):YH n=true:=by
 have:=aBz h
 unfold YH
 simp only[Bool.and_eq_true,decide_eq_true_eq]
 omega
theorem ab8 {w:Bs} {l:List Bool} (h:zX w=some l):l.length≤64:=by
 unfold zX at h
 split at h
 ·injection h with h;rw[←h];simp
 ·split at h
  ·next e=>injection h with h;rw[←h];simpa using e.2.2
  ·cases h
theorem vO (w:Bs):zh w≤9:=by
 unfold zh
 repeat' split
 all_goals omega
theorem aox {ws:List Bs} {a:Ac} (h:xD ws=some a):okA a=true:=by
 unfold xD at h
 simp only[]at h
 have hle:=vO (ws.getD 0 [])
 generalize zh (ws.getD 0 [])=k at h hle
 split at h
 ·cases h
 ·next k0=>
  split at h
  ·split at h
   ·injection h with h;subst h;decide
   ·cases h
  ·next k3=>
   split at h
   ·split at h
    ·split at h
     ·next e1 e2 e3=>
      injection h with h;subst h
      have:=ab8 e1
      unfold okA
      simp[vQ e2,vQ e3,this]
     ·cases h
    ·cases h
   ·next k7=>
    split at h
    ·split at h
     ·next e1=>
      injection h with h;subst h
      unfold okA
      simp only[vQ e1]
      rw[if_neg (by omega),if_neg (by omega)]
      simp
      omega
     ·cases h
    ·cases h
/-! bytes of models -/
def aSD (x:Int×List Int):Prop:=okZ x.1∧ ∀y∈x.2,okZ y
structure Mdl.ok (m:Mdl):Prop where
 seed:okZ m.seed
 en:m.en<18446744073709551616
 dl: ∀x∈m.dl,x<18446744073709551616
 pr: ∀p∈m.pr,∀x∈p,x.ok
 lp: ∀x∈m.lp,aSD x
 ini: ∀x∈m.ini,x.ok
theorem abw {s:Bs} {m:Mdl} (h:jE s=some m):yM m=true:=by
 unfold jE at h
 split at h
 ·next e=>injection h with h;rw[←h];exact e.2
 ·cases h
/-! what was read has words of the right size -/
def Rok {α:Type} (one:Rd α) (ok:α→Prop):Prop:= ∀s st,ok (one s st).1
theorem Qv:Rok rdI okZ:=by
 intro s st
 unfold rdI
 split
 ·unfold okZ;omega
 ·split
  ·next a h=>
   have:=kR ((s.drop a).take 8)
   rw[show((s.drop a).take 8).length=8 by simp;omega]at this
   unfold okZ
   simp only[]
   omega
  ·unfold okZ;omega
theorem aBV:Rok rdF (· <18446744073709551616):=by
 intro s st
 unfold rdF
 split
 ·show(0:Nat)<_;omega
 ·split
  ·next a h=>
   have:=kR ((s.drop a).take 8)
   rw[show((s.drop a).take 8).length=8 by simp;omega]at this
   simpa using this
  ·show(0:Nat)<_;omega
theorem aM2 {α:Type} {one:Rd α} {ok:α→Prop} (h:Rok one ok) (n:Nat):Rok (rdN one n) fun l=> ∀x∈l,ok x:=by
 induction n with
 |zero=>intro s st x hx;simp[rdN]at hx
 | succ n ih=>
  intro s st x hx
  cases st with
  |none=>simp[rdN]at hx
  |some a=>
   have hx:x∈(one s (some a)).1::(rdN one n s (one s (some a)).2).1:=hx
   rcases List.mem_cons.1 hx with rfl|hx
   ·exact h s _
   ·exact ih s _ x hx
theorem Kx {α:Type} {one:Rd α} {ok:α→Prop} (h:Rok one ok):Rok (rdL one) fun l=> ∀x∈l,ok x:=fun s st=>aM2 h _ s _
theorem aA5 {s:Bs} {m:Mdl} (h:jE s=some m):m.ok:=by
 unfold jE at h
 split at h
 ·injection h with h
  rw[←h]
  exact⟨Qv _ _,aBV _ _,Kx aBV _ _,Kx (Kx (one:=xR) (ok:=In.ok) fun s st=>⟨Qv _ _,Qv _ _,Qv _ _,Qv _ _⟩) _ _,Kx (one:=acb) (ok:=aSD) (fun s st=>⟨Qv _ _,Kx Qv _ _⟩) _ _,Kx (one:=YO) (ok:=Ini.ok) (fun s st=>⟨aBV _ _,Qv _ _,Qv _ _⟩) _ _⟩
 ·cases h
end
section
theorem yX {α:Type} {f:α→α→Bool} {l:List α} (h: ∀x∈l,f x x=true):vX f l l=true:=by
 induction l with
 |nil=>rfl
 |cons a l ih=>simp only[vX,h a (by simp),ih fun x hx=>h x (by simp[hx]),Bool.and_self]
theorem kO (x:Nat):YP x x=true:=by
 unfold YP
 cases jm x<;>simp
theorem ab2 (m:Mdl):ab1 m m=true:=by
 unfold ab1
 simp only[decide_true,Bool.true_and,kO]
 rw[yX fun x _=>kO x,yX (fun p _=>yX fun x _=>by simp[aa0]),yX (fun x _=>by simp[ahV,yX (f:=fun x y:Int=>decide (x=y)) (l:=x.2) (fun y _=>by simp)]),yX (fun x _=>by simp[KB,kO])]
 rfl
theorem ab0 (a:Ac):aju a a=true:=by simp[aju]
theorem ab3 (s:Scr):ahW s s=true:=by
 unfold ahW
 rw[ab2,yX fun a _=>ab0 a]
 simp
theorem X8 (n i:Nat) (st:Option Scr) (l:Bs) (r:List Bs):goL n i st (l::r)=(if l=[]then goL n (i+1) st r
  else if []∈zv 32 l then .line i
  else match st with
   |none=>(match yg (zv 32 l)with
    |none=> .line i
    |some h=>goL n (i+1) (some h) r)
   |some s=>(match xD (zv 32 l)with
    |none=> .line i
    |some a=>goL n (i+1) (some { s with acts:=s.acts++[a] }) r)):=by cases st<;>(rw[goL];try rfl)
structure Scr.good (s:Scr):Prop where
 gc:yM s.m=true
 gm:s.m.ok
 gs:YH s.sec=true
 gf:YH s.fr=true
 ga:s.acts.all okA=true
theorem aby {ws:List Bs} {s:Scr} (h:yg ws=some s):s.good:=by
 unfold yg at h
 split at h
 ·split at h
  ·next e1 e2 e3=>
   split at h
   ·next e4=>
    injection h with h;subst h
    exact⟨abw e4,aA5 e4,vQ e1,vQ e2,rfl⟩
   ·cases h
  ·cases h
 ·cases h
theorem aiV {n:Nat} {l:List Bs} : ∀ {i:Nat} {st:Option Scr} {x:Scr},(∀s,st=some s→s.good)→goL n i st l= .ok x→x.good:=by
 induction l with
 |nil=>
  intro i st x hs h
  cases st with
  |none=>simp[goL]at h
  |some s=>unfold goL at h;injection h with h;subst h;exact hs _ rfl
 | cons p r ih=>
  intro i st x hs h
  rw[X8]at h
  split at h
  ·exact ih hs h
  ·split at h
   ·cases h
   ·cases st with
    |none=>
     simp only[]at h
     split at h
     ·cases h
     ·next e=>exact ih (fun s e'=>by injection e' with e';subst e';exact aby e) h
    | some s=>
     simp only[]at h
     split at h
     ·cases h
     ·next e=>
      refine ih (fun s' e'=>?_) h
      injection e' with e'
      subst e'
      have g:=hs s rfl
      exact⟨g.gc,g.gm,g.gs,g.gf,by rw[List.all_append,g.ga];simp[aox e]⟩
theorem abS {t:Bs} {x:Scr} (h:qW t= .ok x):x.good:=by
 unfold qW at h
 split at h
 ·cases h
 ·exact aiV (fun s e=>by cases e) h
end
section
open Go.RowKit
section
variable {P:Program} {ops:Array Oper} {Q:Exit→Act→World→Prop} {md:Region.Mode} {S:World→Prop} {t:Nat}
def yQ (P:Program) (md:Region.Mode) (ops:Array Oper) (Q:Exit→Act→World→Prop) (S:World→Prop) (t:Nat):Nat→Array Bool→Act→World→Prop
 |0,listed,a,w=>Region.ready md ops listed=[]∧Q .normal a w
 |fuel+1,listed,a,w=>
  (Region.ready md ops listed=[]→Q .normal a w)∧
  ∀i∈Region.ready md ops listed,wpOp P ops Q i (fun a' w'=>(i≠t→S w')∧yQ P md ops Q S t fuel (listed.setIfInBounds i true) a' w') a w
theorem Xt: ∀(fuel:Nat) (listed:Array Bool) (a:Act) (w:World),yQ P md ops Q S t fuel listed a w→wpAny P md ops Q fuel listed a w
 |0,_,_,_,h=>h
 |fuel+1,_,_,_,h=>⟨h.1,fun i hi=>wpOp_mono (fun a' w' h'=>Xt fuel _ a' w' h'.2) (h.2 i hi)⟩
def Xg (md:Region.Mode) (ops:Array Oper) (i:Nat):Nat→Nat→Bool
 |0,_=>false
 |n+1,t=>match ops[t]? with
  |none=>false
  |some o=>o.after.any fun e=>Region.binds md e&&(e.on==i || Xg md ops i n e.on)
def XZ (md:Region.Mode) (ops:Array Oper) (listed:Array Bool):Bool:=
 listed.size==ops.size&&(List.range ops.size).all fun j=> !listed.getD j false || (match ops[j]? with |none=>true|some o=>o.after.all fun e=> !Region.binds md e || listed.getD e.on false)
theorem Jg {listed:Array Bool} (h:XZ md ops listed=true):HeadInv md ops ops.size listed:=by
 unfold XZ at h
 simp only[Bool.and_eq_true,beq_iff_eq,List.all_eq_true]at h
 refine⟨h.1,fun j oj hj hl e he hb=>?_,fun t h1 h2=>absurd h1 (by omega)⟩
 have h2:=h.2 j (List.mem_range.2 (Array.getElem?_eq_some_iff.1 hj).1)
 rw[hj,hl]at h2
 simp only[Bool.not_true,Bool.false_or]at h2
 have h3:=(Array.all_eq_true_iff_forall_mem.1 h2) e he
 rw[hb]at h3
 simpa using h3
theorem Yl {i:Nat} {listed:Array Bool} (inv:HeadInv md ops ops.size listed): ∀(n t:Nat),Xg md ops i n t=true→(t∈Region.ready md ops listed∨listed.getD t false=true)→listed.getD i false=true
 |0,_,h,_=>by cases h
 | n +1,t,h,ht=>by
  unfold Xg at h
  split at h
  ·cases h
  ·next o ho=>
   obtain⟨e,he,hb⟩:=Array.any_eq_true'.1 h
   simp only[Bool.and_eq_true,Bool.or_eq_true,beq_iff_eq]at hb
   have hl:listed.getD e.on false=true:=by
    rcases ht with ht|ht
    ·obtain⟨_,o',ho',hall⟩:=mem_ready.1 ht
     rw[ho]at ho'
     injection ho' with ho'
     subst ho'
     exact hall e he hb.1
    ·exact inv.closed t o ho ht e he hb.1
   rcases hb.2 with h1|h1
   ·rw[←h1];exact hl
   ·exact Yl inv n e.on h1 (.inr hl)
theorem JQ {i:Nat} {oi:Oper} {v:Value} (hi:ops[i]? =some oi) (hsel: ∀(j:Nat) (o:Oper) cs b,ops[j]? =some o→o.op≠ .select cs b)
  (hQ: ∀c a w,Q (.panic c) (a.put oi.dst v) w→Q (.panic c) a w) (hn:Xg md ops i ops.size t=true):
  ∀(fuel:Nat) (listed:Array Bool) (a:Act) (w:World),
   (∀j oj,ops[j]? =some oj→j≠i→listed.getD j true=false→(∀e∈oj.after,Region.binds md e=true→e.on≠i)→oi.apart ops oj=true)→
   HeadInv md ops ops.size listed→i∈Region.ready md ops listed→YieldsIf P ops S oi v a→S w→
   yQ P md ops Q S t fuel (listed.setIfInBounds i true) (a.put oi.dst v) w→yQ P md ops Q S t (fuel+1) listed a w:=by
 intro fuel
 induction fuel with
 | zero=>
  intro listed a w _ _ hr hy hS H
  refine⟨fun h=>(by rw[h]at hr;cases hr),fun j hj=>?_⟩
  by_cases hji:j=i
  ·subst hji;exact hy.wpOp hi hS ⟨fun _=>hS,H⟩
  ·have:=ready_mono hj hji
   rw[H.1]at this
   cases this
 | succ fuel ih=>
  intro listed a w hfree inv hr hy hS H
  refine⟨fun h=>(by rw[h]at hr;cases hr),fun j hj=>?_⟩
  by_cases hji:j=i
  ·subst hji;exact hy.wpOp hi hS ⟨fun _=>hS,H⟩
  ·have hjt:j≠t:=fun e=>by
    subst e
    have h1:=Yl inv _ _ hn (.inl hj)
    have h0:=(mem_ready.1 hr).1
    rcases Nat.lt_or_ge i listed.size with h'|h'
    ·simp[h']at h0 h1;rw[h0]at h1;cases h1
    ·simp[Array.getElem?_eq_none h']at h1
   have h1:=H.2 j (ready_mono hj hji)
   obtain⟨hjun,oj,hoj,hall⟩:=mem_ready.1 hj
   have hnot: ∀e∈oj.after,Region.binds md e=true→e.on≠i:=fun e he hb heq=>by
    have h1:=hall e he hb
    have h0:=(mem_ready.1 hr).1
    rw[heq]at h1
    rcases Nat.lt_or_ge i listed.size with h'|h'
    ·simp[h']at h0 h1;rw[h0]at h1;cases h1
    ·simp[Array.getElem?_eq_none h']at h1
   have h2:=wpOp_putIf hoj (hfree j oj hoj hji hjun hnot) (fun cs b=>hsel i oi cs b hi) (fun cs b=>hsel j oj cs b hoj) hQ hy h1
   have hfree': ∀k ok,ops[k]? =some ok→k≠i→(listed.setIfInBounds j true).getD k true=false→
     (∀e∈ok.after,Region.binds md e=true→e.on≠i)→oi.apart ops ok=true:=fun k ok hk hki hun hno=>by
    refine hfree k ok hk hki ?_ hno
    by_cases hjk:j=k
    ·subst hjk;exact hjun
    ·rw[getD_set_ne true hjk]at hun;exact hun
   refine wpOp_mono (fun a' w' h3=>⟨h3.2.1,ih (listed.setIfInBounds j true) a' w' hfree' (inv.set hj (Array.getElem?_eq_some_iff.1 hoj).1) (ready_mono hr (Ne.symm hji)) h3.1 (h3.2.1 hjt) ?_⟩) h2
   rw[Array.setIfInBounds_comm _ _ hji]
   exact h3.2.2
theorem eTk {i:Nat} {oi:Oper} {v:Value} {fuel:Nat} {listed:Array Bool} {a:Act} {w:World} (hi:ops[i]? =some oi)
  (h3:(Region.noSelect ops&&Region.free md ops listed i&&(Region.ready md ops listed).contains i&&XZ md ops listed&&Xg md ops i ops.size t)=true)
  (hQ: ∀c a w,Q (.panic c) (a.put oi.dst v) w→Q (.panic c) a w) (hy:YieldsIf P ops S oi v a) (hS:S w)
  (h:yQ P md ops Q S t fuel (listed.setIfInBounds i true) (a.put oi.dst v) w):yQ P md ops Q S t (fuel+1) listed a w:=by
 simp only[Bool.and_eq_true]at h3
 exact JQ hi (Region.noSelect_spec h3.1.1.1.1) hQ h3.2 fuel listed a w (Region.free_spec hi h3.1.1.1.2) (Jg h3.1.2) (by simpa using h3.1.1.2) hy hS h
theorem eRn {i:Nat} {o:Oper} {fuel:Nat} {listed:Array Bool} {a:Act} {w:World} (ho:ops[i]? =some o) (hr:Region.ready md ops listed=[i]) (hit:(i==t)=false)
  (h: ∀K':Act→World→Prop,Shut (∀a w,S w→(S w→yQ P md ops Q S t fuel (listed.setIfInBounds i true) a w)→K' a w)→if Region.wanted o (yielded ops a.tmps)=true then Oper.wp P o a w K' Q else K' (a.put o.dst undef) w):yQ P md ops Q S t (fuel+1) listed a w:=by
 refine⟨fun h0=>(by rw[hr]at h0;cases h0),fun j hj=>?_⟩
 rw[hr,List.mem_singleton]at hj
 subst hj
 exact wpOp_step ho fun K' hK=>h K' (fun a w hS hW=>hK a w ⟨fun _=>hS,hW hS⟩)
theorem eR2 {i j:Nat} {o o':Oper} {fuel:Nat} {listed:Array Bool} {a:Act} {w:World} (ho:ops[i]? =some o) (ho':ops[j]? =some o') (hr:Region.ready md ops listed=[i,j]) (hit:(i==t || j==t)=false)
  (h: ∀K':Act→World→Prop,Shut (∀a w,S w→(S w→yQ P md ops Q S t fuel (listed.setIfInBounds i true) a w)→K' a w)→if Region.wanted o (yielded ops a.tmps)=true then Oper.wp P o a w K' Q else K' (a.put o.dst undef) w)
  (h': ∀K':Act→World→Prop,Shut (∀a w,S w→(S w→yQ P md ops Q S t fuel (listed.setIfInBounds j true) a w)→K' a w)→if Region.wanted o' (yielded ops a.tmps)=true then Oper.wp P o' a w K' Q else K' (a.put o'.dst undef) w):yQ P md ops Q S t (fuel+1) listed a w:=by
 refine⟨fun h0=>(by rw[hr]at h0;cases h0),fun k hk=>?_⟩
 rw[hr,List.mem_cons,List.mem_singleton]at hk
 rcases hk with rfl|rfl
 ·exact wpOp_step ho fun K' hK=>h K' (fun a w hS hW=>hK a w ⟨fun _=>hS,hW hS⟩)
 ·exact wpOp_step ho' fun K' hK=>h' K' (fun a w hS hW=>hK a w ⟨fun _=>hS,hW hS⟩)
theorem aRw {o:Oper} {fuel:Nat} {listed:Array Bool} {a:Act} {w:World} (ho:ops[t]? =some o) (hr:Region.ready md ops listed=[t]) (hz:Region.ready md ops (listed.setIfInBounds t true)=[])
  (h: ∀K':Act→World→Prop,Shut (∀a w,Q .normal a w→K' a w)→if Region.wanted o (yielded ops a.tmps)=true then Oper.wp P o a w K' Q else K' (a.put o.dst undef) w):yQ P md ops Q S t (fuel+1) listed a w:=by
 refine⟨fun h0=>(by rw[hr]at h0;cases h0),fun j hj=>?_⟩
 rw[hr,List.mem_singleton]at hj
 subst hj
 refine wpOp_step ho fun K' hK=>h K' (fun a w hW=>hK a w ⟨fun h=>absurd rfl h,?_⟩)
 cases fuel with
 |zero=>exact⟨hz,hW⟩
 |succ n=>exact⟨fun _=>hW,by rw[hz];simp⟩
theorem zB {id:Nat} {a:Act} {w:World} (S:World→Prop) (t:Nat) (hm:P.follows .mixedOrders=true) (hS:S w.drew)
  (h:S w.drew→yQ P .any ops Q S t ops.size (Array.replicate ops.size false) a w.drew):(Code.region id ops true).wp P Q a w:=
 wp_region_any hm (Xt _ _ _ _ (h hS))
end
theorem gEa {α:Type} (l:List α) (i:Nat):l.toArray[i]? =l[i]? :=by simp
theorem gEb {α:Type} (a:α) (l:List α) (i:Nat):(a::l)[i+1]? =l[i]? :=List.getElem?_cons_succ
theorem gEc {α:Type} (a:α) (l:List α):(a::l)[0]? =some a:=List.getElem?_cons_zero
theorem sEa {α:Type} (l:List α) (i:Nat) (x:α):l.toArray.setIfInBounds i x=(l.set i x).toArray:=by simp
theorem sEb {α:Type} (a b:α) (l:List α):(a::l).set 0 b=b::l:=rfl
theorem sEc {α:Type} (a b:α) (l:List α) (i:Nat):(a::l).set (i+1) b=a::l.set i b:=rfl
attribute [irreducible] yQ
end
section
open Go.RowKit
section
variable {P:Program} {md:Region.Mode} {ops:Array Oper} {Q:Exit→Act→World→Prop} {S:World→Prop} {t:Nat} {fuel:Nat} {listed:Array Bool} {a:Act} {w:World}
theorem eT (i:Nat) {oi:Oper} {v:Value} (hS:S w) (h:yQ P md ops Q S t fuel (listed.setIfInBounds i true) (a.put oi.dst v) w)
  (hi:ops[i]? =some oi:=by((simp only[gEa,gEb,gEc];try rfl)))
  (h3:(Region.noSelect ops&&Region.free md ops listed i&&(Region.ready md ops listed).contains i&&XZ md ops listed&&Xg md ops i ops.size t)=true:=by kernel_rfl)
  (hQ: ∀c a w,Q (.panic c) (a.put oi.dst v) w→Q (.panic c) a w:=by exact fun _ _ _ h=>h)
  (hy:YieldsIf P ops S oi v a:=by(refine Or.inl ⟨by rfl,?_⟩;intro wz hSw;(try dsimp only at hSw);go_simp;first |done|with_reducible rfl)):yQ P md ops Q S t (fuel+1) listed a w:=eTk hi h3 hQ hy hS h
theorem eR (i:Nat) {o:Oper}
  (h: ∀K':Act→World→Prop,Shut (∀a w,S w→(S w→yQ P md ops Q S t fuel (listed.setIfInBounds i true) a w)→K' a w)→if Region.wanted o (yielded ops a.tmps)=true then Oper.wp P o a w K' Q else K' (a.put o.dst undef) w)
  (ho:ops[i]? =some o:=by((simp only[gEa,gEb,gEc];try rfl))) (hr:Region.ready md ops listed=[i]:=by kernel_rfl) (hit:(i==t)=false:=by rfl):yQ P md ops Q S t (fuel+1) listed a w:=eRn ho hr hit h
theorem eL {o:Oper}
  (h: ∀K':Act→World→Prop,Shut (∀a w,Q .normal a w→K' a w)→if Region.wanted o (yielded ops a.tmps)=true then Oper.wp P o a w K' Q else K' (a.put o.dst undef) w)
  (ho:ops[t]? =some o:=by((simp only[gEa,gEb,gEc];try rfl))) (hr:Region.ready md ops listed=[t]:=by kernel_rfl) (hz:Region.ready md ops (listed.setIfInBounds t true)=[]:=by kernel_rfl):yQ P md ops Q S t (fuel+1) listed a w:=aRw ho hr hz h
end
end
section
open Go.RowKit Go.Lib
theorem Ye (x:In):(inC x).length=4:=rfl
theorem vL (x:Ini):(aay x).length=3:=rfl
def flC (d:Nat):List Value:=[.float .f64 d]
theorem Ya (d:Nat):(flC d).length=1:=rfl
def wdC (d:Int):List Value:=[.int .i64 d]
theorem YG (d:Int):(wdC d).length=1:=rfl
structure Prg where
 p:Option Addr
 n:Nat
 c:Nat
 l:List In
def prC (q:Prg):List Value:=[.slice q.p q.n q.c]
theorem Yu (q:Prg):(prC q).length=1:=rfl
structure LpR where
 k:Int
 p:Option Addr
 n:Nat
 c:Nat
 l:List Int
def lpC (q:LpR):List Value:=[.int .i64 q.k,.slice q.p q.n q.c]
theorem Yg (q:LpR):(lpC q).length=2:=rfl
structure MdV where
 seed:Int
 en:Nat
 dp:Option Addr
 dn:Nat
 dc:Nat
 dl:List Nat
 pp:Option Addr
 pn:Nat
 pc:Nat
 ps:List Prg
 lp:Option Addr
 ln:Nat
 lc:Nat
 ls:List LpR
 ip:Option Addr
 im:Nat
 ic:Nat
 is:List Ini
def mdC (x:MdV):List Value:=[.int .i64 x.seed,.float .f64 x.en,.slice x.dp x.dn x.dc,.slice x.pp x.pn x.pc,.slice x.lp x.ln x.lc,.slice x.ip x.im x.ic]
def MdV.m (x:MdV):Mdl:=⟨x.seed,x.en,x.dl,x.ps.map Prg.l,x.ls.map fun q=>(q.k,q.l),x.is⟩
structure qZ (W:World) (x:MdV):Prop where
 d:Vw 1 flC W (.slice x.dp x.dn x.dc) x.dl
 dn:x.dn=x.dl.length
 p:Vw 1 prC W (.slice x.pp x.pn x.pc) x.ps
 pn:x.pn=x.ps.length
 pi: ∀q∈x.ps,q.n=q.l.length∧Vw 4 inC W (.slice q.p q.n q.c) q.l
 l:Vw 2 lpC W (.slice x.lp x.ln x.lc) x.ls
 ln:x.ln=x.ls.length
 li: ∀q∈x.ls,q.n=q.l.length∧Vw 1 wdC W (.slice q.p q.n q.c) q.l
 i:Vw 3 aay W (.slice x.ip x.im x.ic) x.is
 im:x.im=x.is.length
theorem qZ.below {W W':World} {x:MdV} (h:qZ W x) (hb:Below W.heap.size W W'):qZ W' x:=
 ⟨h.d.below hb,h.dn,h.p.below hb,h.pn,fun q hq=>⟨(h.pi q hq).1,(h.pi q hq).2.below hb⟩,h.l.below hb,h.ln,fun q hq=>⟨(h.li q hq).1,(h.li q hq).2.below hb⟩,h.i.below hb,h.im⟩
end
section
open Go.RowKit
def vv (W1:World) (W:World):Prop:=Below W1.heap.size W1 W
theorem vv.out {W1 W:World} (h:vv W1 W):Below W1.heap.size W1 W:=h
theorem vv.refl (W1:World):vv W1 W1:=Below.refl _ _
theorem vv.drew (W1:World):vv W1 W1.drew:=Z0 (Below.refl _ W1) 1
theorem vv.call {P:Program} {W1:World} {f:FuncId} {vs:Array Value} {v:Value} (hc: ∀W,Calls P f vs W fun e w'=>e= .returned v∧Below W.heap.size W w'): ∀W,vv W1 W→Calls P f vs W fun e w'=>e= .returned v∧vv W1 w':=fun W hW=>by
 refine(hc W).mono ?_
 rintro e w' ⟨rfl,hb⟩
 exact⟨rfl,hW.out.trans (hb.mono hW.out.size)⟩
theorem vv.blk {W1 W:World} {g:Nat} {t:TypeId} {cs:Array Value} (h:vv W1 W) (hB:Blk W1 g t cs):Blk W g t cs:=hB.below h.out hB.lt
theorem vv.alloc {W1 W:World} (h:vv W1 W) (o:Obj):vv W1 (W.alloc o):=Below.alloc h (Below.size h) o
theorem vv.trans {W1 W2 W3:World} (h:vv W1 W2) (k:vv W2 W3):vv W1 W3:=Below.trans h (k.out.mono h.out.size)
theorem vv.of {W1 W2:World} (h:Below W1.heap.size W1 W2):vv W1 W2:=h
attribute [irreducible] vv
end
section
open Go.RowKit Go.Lib
def MdB (W:World) (g:Nat) (x:MdV):Prop:=Blk W g 29 (mdC x).toArray∧qZ W x
theorem MdB.below {W W':World} {g:Nat} {x:MdV} (h:MdB W g x) (hb:Below W.heap.size W W'):MdB W' g x:=⟨h.1.below hb h.1.lt,h.2.below hb⟩
theorem MdB.new {W:World} {x:MdV} (h:qZ W x):MdB (W.alloc (.cells (mdC x).toArray 29)) W.heap.size x:=⟨Blk.new W _ _,h.below ((Below.refl _ W).alloc (Nat.le_refl _) _)⟩
theorem MdB.c {W:World} {g:Nat} {x:MdV} (h:MdB W g x):W.cell? ⟨g,0,none⟩=some (.int .i64 x.seed)∧W.cell? ⟨g,1,none⟩=some (.float .f64 x.en)∧W.cell? ⟨g,2,none⟩=some (.slice x.dp x.dn x.dc)∧W.cell? ⟨g,3,none⟩=some (.slice x.pp x.pn x.pc)∧W.cell? ⟨g,4,none⟩=some (.slice x.lp x.ln x.lc)∧W.cell? ⟨g,5,none⟩=some (.slice x.ip x.im x.ic):=⟨h.1.cell 0,h.1.cell 1,h.1.cell 2,h.1.cell 3,h.1.cell 4,h.1.cell 5⟩
theorem qZ.prg {W:World} {x:MdV} (h:qZ W x) {j:Nat} {q:Prg} (hq:x.ps[j]? =some q): ∃b o,x.pp=some ⟨b,o,none⟩∧W.cell? ⟨b,o+j,none⟩=some (.slice q.p q.n q.c):=by
 obtain⟨b,o,c',e,_,hb,k⟩:=h.p.ex (by intro e;rw[e]at hq;simp at hq)
 injection e with e1 _ _
 refine⟨b,o,e1,?_⟩
 have:=k j q hq 0 _ rfl
 rwa[Nat.mul_one,Nat.add_zero]at this
theorem qZ.lpr {W:World} {x:MdV} (h:qZ W x) {j:Nat} {q:LpR} (hq:x.ls[j]? =some q): ∃b o,x.lp=some ⟨b,o,none⟩∧W.cell? ⟨b,o+j*2,none⟩=some (.int .i64 q.k)∧W.cell? ⟨b,o+j*2+1,none⟩=some (.slice q.p q.n q.c):=by
 obtain⟨b,o,c',e,_,hb,k⟩:=h.l.ex (by intro e;rw[e]at hq;simp at hq)
 injection e with e1 _ _
 exact⟨b,o,e1,k j q hq 0 _ rfl,k j q hq 1 _ rfl⟩
theorem qZ.dly {W:World} {x:MdV} (h:qZ W x) {j:Nat} {d:Nat} (hq:x.dl[j]? =some d): ∃b o,x.dp=some ⟨b,o,none⟩∧W.cell? ⟨b,o+j,none⟩=some (.float .f64 d):=by
 obtain⟨b,o,c',e,_,hb,k⟩:=h.d.ex (by intro e;rw[e]at hq;simp at hq)
 injection e with e1 _ _
 refine⟨b,o,e1,?_⟩
 have:=k j d hq 0 _ rfl
 rwa[Nat.mul_one,Nat.add_zero]at this
theorem qZ.ini {W:World} {x:MdV} (h:qZ W x) {j:Nat} {y:Ini} (hq:x.is[j]? =some y): ∃b o,x.ip=some ⟨b,o,none⟩∧W.cell? ⟨b,o+j*3,none⟩=some (.float .f64 y.t)∧W.cell? ⟨b,o+j*3+1,none⟩=some (.int .i64 y.dst)∧W.cell? ⟨b,o+j*3+2,none⟩=some (.int .i64 y.pay):=by
 obtain⟨b,o,c',e,_,hb,k⟩:=h.i.ex (by intro e;rw[e]at hq;simp at hq)
 injection e with e1 _ _
 exact⟨b,o,e1,k j y hq 0 _ rfl,k j y hq 1 _ rfl,k j y hq 2 _ rfl⟩
theorem zD {α:Type} (f:α→Bool) {l:List α} {j:Nat} {x:α} (h:l[j]? =some x):(l.take (j+1)).all f=((l.take j).all f&&f x):=by
 rw[List.take_add_one,h,Option.toList_some,List.all_append]
 simp
theorem yU {α:Type} {f:α→Bool} {l:List α} {j:Nat} {x:α} (h:l[j]? =some x) (hf:f x=false):l.all f=false:=by
 rw[List.all_eq_false]
 exact⟨x,List.mem_of_getElem? h,by simp[hf]⟩
theorem qG (n a b:Int) (w:World):Calls Tryz.prog 109 #[.int .i64 n,.int .i64 a,.int .i64 b] w fun r w'=>r= .returned (.bool (decide (a≤n∧n≤b)))∧w=w':=by
 by_cases h1:a≤n
 ·by_cases h2:n≤b
  ·rw[decide_eq_true (p:=a≤n∧n≤b) ⟨h1,h2⟩]
   go_enter Tryz.func109,Tryz.ntmps109
   go_wp2
   go_ret
   exact⟨rfl,rfl⟩
  ·rw[decide_eq_false (p:=a≤n∧n≤b) (fun h=>h2 h.2)]
   go_enter Tryz.func109,Tryz.ntmps109
   go_wp2
   go_ret
   exact⟨rfl,rfl⟩
 ·rw[decide_eq_false (p:=a≤n∧n≤b) (fun h=>h1 h.1)]
  go_enter Tryz.func109,Tryz.ntmps109
  go_wp2
  go_ret
  exact⟨rfl,rfl⟩
end
section
open Go.RowKit Go.Lib
def xK (op:Int):Bs:=
 if op=0 then [45,45,45]
 else if op=1 then [114,45,45]
 else if op=2∨op=11∨op=13∨op=14 then [114,114,45]
 else if(3≤op∧op≤8)∨op=12 then [114,114,114]
 else if op=9 then [112,45,45]
 else if op=10 then [114,112,45]
 else []
theorem aaO (op:Int):(op=0∨op=1∨op=2∨op=3∨op=4∨op=5∨op=6∨op=7∨op=8∨op=9∨op=10∨op=11∨op=12∨op=13∨op=14)∨(¬op=0∧ ¬op=1∧ ¬op=2∧ ¬op=3∧ ¬op=4∧ ¬op=5∧ ¬op=6∧ ¬op=7∧ ¬op=8∧ ¬op=9∧ ¬op=10∧ ¬op=11∧ ¬op=12∧ ¬op=13∧ ¬op=14):=by omega
theorem ahh (op:Int) (w:World):Calls Tryz.prog 178 #[.int .i64 op] w fun r w'=>r= .returned (.string (S (xK op)))∧w=w':=by
 rcases aaO op with h| ⟨h0,h1,h2,h3,h4,h5,h6,h7,h8,h9,h10,h11,h12,h13,h14⟩
 ·rcases h with rfl|rfl|rfl|rfl|rfl|rfl|rfl|rfl|rfl|rfl|rfl|rfl|rfl|rfl|rfl
  all_goals
   go_enter Tryz.func178,Tryz.ntmps178
   go_wp2
   go_ret
   exact⟨rfl,rfl⟩
 ·have e:xK op=[]:=by
   unfold xK
   rw[if_neg h0,if_neg h1,if_neg (by omega),if_neg (by omega),if_neg h9,if_neg h10]
  rw[e]
  go_enter Tryz.func178,Tryz.ntmps178
  go_wp2
  go_ret
  exact⟨rfl,rfl⟩
def aBt (ch:UInt8) (n len:Int):Bool:=if ch=114 then rgB n else if ch=112 then plB n len else true
def abT (x:In) (j:Nat):Int:=if j=0 then x.a else if j=1 then x.b else x.c
theorem ai6 (x:In) (len:Int):vM x len=(!(xK x.op).isEmpty&&((List.range (xK x.op).length).all fun j=>aBt ((xK x.op).getD j 0) (abT x j) len)):=by
 have hr:List.range 3=[0,1,2]:=rfl
 rcases aaO x.op with h| ⟨h0,h1,h2,h3,h4,h5,h6,h7,h8,h9,h10,h11,h12,h13,h14⟩
 ·rcases h with h|h|h|h|h|h|h|h|h|h|h|h|h|h|h
  all_goals
   unfold vM xK
   simp[h,aBt,abT,hr]
 ·have e:xK x.op=[]:=by
   unfold xK
   rw[if_neg h0,if_neg h1,if_neg (by omega),if_neg (by omega),if_neg h9,if_neg h10]
  have e2:vM x len=false:=by
   unfold vM
   rw[if_neg h0,if_neg h1,if_neg (by omega),if_neg (by omega),if_neg h9,if_neg h10]
  rw[e,e2]
  rfl
theorem Kw (n:Int) (w:World):Calls Tryz.prog 144 #[.int .i64 n] w fun r w'=>r= .returned (.bool (rgB n))∧w=w':=by
 unfold rgB
 by_cases h1:0≤n
 ·by_cases h2:n≤7
  ·rw[decide_eq_true h1,decide_eq_true h2]
   go_enter Tryz.func144,Tryz.ntmps144
   go_wp2
   go_ret
   exact⟨rfl,rfl⟩
  ·rw[decide_eq_true h1,decide_eq_false h2]
   go_enter Tryz.func144,Tryz.ntmps144
   go_wp2
   go_ret
   exact⟨rfl,rfl⟩
 ·rw[decide_eq_false h1]
  go_enter Tryz.func144,Tryz.ntmps144
  go_wp2
  go_ret
  exact⟨rfl,rfl⟩
end
section
open Go.RowKit Go.Lib
theorem ahg (op:Int):(xK op).length≤3:=by
 unfold xK
 repeat' split
 all_goals simp
theorem Kk (op:Int): ∀b∈xK op,b.toNat<128:=by
 unfold xK
 repeat' split
 all_goals simp
theorem abO (ch:UInt8) (n len:Int):(aBt ch n len=false∧((ch.toNat=114∧n<0)∨(ch.toNat=114∧ ¬n<0∧7<n)∨(ch.toNat=112∧n<0)∨(ch.toNat=112∧ ¬n<0∧len<n)))∨
  (aBt ch n len=true∧((ch.toNat=114∧ ¬n<0∧ ¬7<n)∨(ch.toNat=112∧ ¬n<0∧ ¬len<n)∨(ch.toNat≠114∧ch.toNat≠112))):=by
 unfold aBt rgB plB
 by_cases h1:ch=114
 ·subst h1
  by_cases h2:n<0
  ·left;simp;omega
  ·by_cases h3:7<n
   ·left;simp;omega
   ·right;simp;omega
 ·by_cases h2:ch=112
  ·subst h2
   by_cases h2:n<0
   ·left;simp;omega
   ·by_cases h3:len<n
    ·left;simp;omega
    ·right;simp;omega
  ·right
   have e1:ch.toNat≠114:=fun h=>h1 (UInt8.toNat_inj.1 h)
   have e2:ch.toNat≠112:=fun h=>h2 (UInt8.toNat_inj.1 h)
   simp[h1,h2,e1,e2]
theorem aBg (x:In) (len:Int) (w:World):
  Calls Tryz.prog 142 #[.agg #[.int .i64 x.op,.int .i64 x.a,.int .i64 x.b,.int .i64 x.c],.int .i64 len] w fun r w'=>r= .returned (.bool (vM x len))∧Below w.heap.size w w':=by
 obtain⟨W1,hW1⟩: ∃W1,W1=(w.alloc (.cells #[.int .i64 x.op,.int .i64 x.a,.int .i64 x.b,.int .i64 x.c] 84)).alloc (.cells #[.int .i64 x.a,.int .i64 x.b,.int .i64 x.c] 256):=⟨_,rfl⟩
 have hb1:Below w.heap.size w W1:=by rw[hW1];exact((Below.refl _ w).alloc (Nat.le_refl _) _).alloc (by simp) _
 have hP:Blk W1 (w.heap.size+1) 256 #[.int .i64 x.a,.int .i64 x.b,.int .i64 x.c]:=by rw[hW1];simpa using Blk.new (w.alloc (.cells #[.int .i64 x.op,.int .i64 x.a,.int .i64 x.b,.int .i64 x.c] 84)) 256 #[.int .i64 x.a,.int .i64 x.b,.int .i64 x.c]
 obtain⟨s,hs⟩: ∃s:ByteArray,s=S (xK x.op):=⟨_,rfl⟩
 have hsz:s.size=(xK x.op).length:=by rw[hs];rfl
 have hl3:=ahg x.op
 have HI:Hid (∀p,Below w.heap.size w (W1.iter s p)∧ ∀j,j<3→(W1.iter s p).cell? ⟨w.heap.size+1,j,none⟩=some (.int .i64 (abT x j))):=hid fun p=>by
  refine⟨hb1.alloc (hb1.size) _,fun j hj=>?_⟩
  have:=(hP.alloc (.stringIter s p)).cell j
  match j,hj with
  |0,_=>exact this
  |1,_=>exact this
  |2,_=>exact this
 have HN:=hid (fun W=>ahh x.op W)
 have hz:W1.heap.size=w.heap.size+1+1:=by rw[hW1];simp
 obtain⟨r0,hr0⟩: ∃r,r=vM x len:=⟨_,rfl⟩
 rw[←hr0]
 have HR:=hid (hr0.trans (ai6 x len))
 rw[←hs]at HN
 have HS:=hid (⟨hs,hl3⟩:_∧_)
 have HW1:=hid hW1
 have HZ1:=hid hz
 have HNX:Hid (∀(j:Nat) (h:j<s.size) (ty:TypeId),(Instr.next (.pointer (some ⟨w.heap.size+1+1,0,none⟩)) true ty).run Tryz.prog (W1.iter s j)= .ok (.tuple #[.bool true,.int .i64 j,.int .i32 ((xK x.op).getD j 0).toNat]) (W1.iter s (j+1))):=hid fun j h ty=>by
  have e:s[j]'h=(xK x.op).getD j 0:=by
   have h':j<(xK x.op).length:=by rw[←hsz];exact h
   subst hs
   rw[List.getD_eq_getElem?_getD,List.getElem?_eq_getElem h']
   rfl
  have:=run_next_ascii (P:=Tryz.prog) W1 s j ty h (by rw[e,List.getD_eq_getElem?_getD,List.getElem?_eq_getElem (by rw[←hsz];exact h)];exact Kk _ _ (List.getElem_mem _))
  rw[e,hz]at this
  exact this
 have hne:Tryz.prog.underlying 9=some .string:=by kernel_rfl
 have hrg:=run_range_string (P:=Tryz.prog) W1 9 s hne
 clear hr0 hs hW1 hb1 hP hne hz
 go_enter Tryz.func142,Tryz.ntmps142
 go_wp2_with ((with_reducible refine(HN.out _).mono ?_);rintro r w' ⟨rfl,rfl⟩)
 rw[←HW1.out]
 have HSZ:=hid hsz
 obtain⟨m,hm⟩: ∃m,m=s.size:=⟨_,rfl⟩
 have hm3:m≤3:=by omega
 have HM:=hid hm
 clear hsz hm hl3 hrg
 go_loopg [7] (m+1) (fun gg s7 wr=> ∃j,j≤m∧m+1-j≤gg∧Hid (∀i,i<j→aBt ((xK x.op).getD i 0) (abT x i) len=true)∧W1.iter s j=wr)
 case atStart=>exact⟨0,by omega,by omega,hid (fun i hi=>absurd hi (by omega)),rfl⟩
 case round=>
  obtain⟨j,hj,hgg,HJ,hwr⟩:=hrel
  subst hwr
  by_cases hjm:j<m
  ·have hnx:=HNX.out j (by rw[←HM.out];exact hjm)
   obtain⟨c,hc⟩: ∃c,c=(xK x.op).getD j 0:=⟨_,rfl⟩
   obtain⟨n,hn⟩: ∃n,n=abT x j:=⟨_,rfl⟩
   have hp:=(HI.out (j+1)).2 j (by omega)
   rw[←hc]at hnx
   rw[←hn]at hp
   have hj3:(j:Int)<3:=by omega
   have hj0:(0:Int)≤(j:Int):=by omega
   obtain⟨hmB,hcs⟩ | ⟨hmB,hcs⟩:=abO c n len
   ·have HZ:Hid (r0=false):=hid (by
     rw[HR.out,Bool.and_eq_false_iff]
     right
     rw[List.all_eq_false]
     exact⟨j,List.mem_range.2 (by rw[←HSZ.out,←HM.out];exact hjm),by rw[←hc,←hn,hmB];simp⟩)
    have HQ:=hid (HI.out (j+1)).1
    clear hmB hc hn hjm
    rcases hcs with⟨h1,h2⟩ | ⟨h1,h2,h3⟩ | ⟨h1,h2⟩ | ⟨h1,h2,h3⟩
    all_goals
     rw[h1]at hnx
     clear h1
     go_wp2
     go_ret
     rw[HZ.out]
     exact⟨rfl,HQ.out⟩
   ·have HJ2:Hid (∀i,i<j+1→aBt ((xK x.op).getD i 0) (abT x i) len=true):=hid fun i hi=>by
     by_cases e:i=j
     ·rw[e,←hc,←hn];exact hmB
     ·exact HJ.out i (by omega)
    clear hmB hc hn
    rcases hcs with⟨h1,h2,h3⟩ | ⟨h1,h2,h3⟩ | ⟨h1,h2⟩
    ·rw[h1]at hnx
     clear h1
     go_wp2
     go_roundg (m+1- (j+1))
     case measure=>omega
     case rel=>exact⟨j+1,by omega,by omega,HJ2,rfl⟩
    ·rw[h1]at hnx
     clear h1
     go_wp2
     go_roundg (m+1- (j+1))
     case measure=>omega
     case rel=>exact⟨j+1,by omega,by omega,HJ2,rfl⟩
    ·have e1:((c.toNat:Int)==114)=false:=beq_eq_false_iff_ne.2 (by omega)
     have e2:((c.toNat:Int)==112)=false:=beq_eq_false_iff_ne.2 (by omega)
     clear h1 h2
     go_wp2
     go_roundg (m+1- (j+1))
     case measure=>omega
     case rel=>exact⟨j+1,by omega,by omega,HJ2,rfl⟩
  ·have hnx: ∀ty,(Instr.next (.pointer (some ⟨w.heap.size+1+1,0,none⟩)) true ty).run Tryz.prog (W1.iter s j)= .ok (.tuple #[.bool false]) (W1.iter s j):=fun ty=>by
    have:=run_next_end (P:=Tryz.prog) W1 s j ty (by rw[←HM.out];exact hjm)
    rwa[HZ1.out]at this
   have HQ:=hid (HI.out j).1
   have HZ:Hid (r0= !(xK x.op).isEmpty):=hid (by
    rw[HR.out,(List.all_eq_true.2 fun i hi=>HJ.out i (by have:=List.mem_range.1 hi;rw[←HSZ.out,←HM.out]at this;omega)),Bool.and_true])
   have HE:Hid (s.toList=xK x.op):=hid (by rw[HS.out.1,aiv])
   go_wp2
   go_ret
   rw[HZ.out,←HE.out]
   exact⟨rfl,HQ.out⟩
end
end Go.Proofs.YtcdiljebkpikbaaGreat
