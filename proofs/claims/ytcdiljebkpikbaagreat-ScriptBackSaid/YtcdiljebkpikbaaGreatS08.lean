/- Parts of the proof: Kwl Kwm Kwn Kwo Kwp Kwq Kwr. -/
import Derived.Scope
import Derived.Orders
import Derived.Test.YtcdiljebkpikbaaGreatS07
set_option linter.all false
set_option maxRecDepth 100000
set_option maxHeartbeats 64000000
namespace Go.Proofs.YtcdiljebkpikbaaGreat
section
noncomputable section
namespace Kv
open Go.RowKit
variable {P:Program}
section
variable {ρ:Ren} {w:World} {h:HP} {r:RG} {a:Act} {S:Sm}
def JN:Ex→Exit| .normal=> .normal| .exit id=> .exit id| .ret=> .ret
def abd (P:Program) (N:Nat) (c:Code) (r:RG) (h:HP) (ex:Ex) (r':RG) (h':HP):Prop:=LR P N (c.wp P) r h (JN ex) r' h'
def aiu (P:Program) (S:Sm) (call:Go.Proofs.YtcdiljebkpikbaaGreat.Kv.Call) (N:Nat):Prop:= ∀(id:Nat) (ops:Array Oper) (draw:Bool),V9 N ops.toList=true→ ∀(r:RG) (h:HP) (k:RG→HP→R) (res:AV×HP),(agk P S ops.toList draw).f call r h k=some res→
 ∃r' h',k r' h'=some res∧abd P N (.region id ops draw) r h .normal r' h'
def ait (P:Program) (N:Nat) (c:Code):Nat→RG→HP→Ex→RG→HP→Prop
 |0,_,_,_,_,_=>False
 |n+1,r,h,ex,r',h'=>(∃r1 h1,abd P N c r h .normal r1 h1∧ait P N c n r1 h1 ex r' h')∨(ex≠ .normal∧abd P N c r h ex r' h')
theorem aaE {N:Nat} {c:Code} {Q:Exit→Act→World→Prop} {ex:Ex} {r':RG} {h':HP} : ∀(n:Nat) (ρ:Ren) (r:RG) (h:HP) (a:Act) (w:World),ait P N c n r h ex r' h'→St P ρ N r h a w→
  (∀ρ' a' w',Ext ρ h w ρ' h' w'→St P ρ' N r' h' a' w'→Q (JN ex) a' w')→ ∀(b:Frame) (k:List Item) (cs:List Frame),
  ∃e a' w',Q e a' w'∧Arrives P (lone (b.at a (.code c:: .inLoop c::k)) cs w) b k cs e a' w'
 |0,_,_,_,_,_,hl,_,_=>hl.elim
 | n+1,ρ,r,h,a,w,hl,s,hq=>fun b k cs=>by
  rcases hl with⟨r1,h1,hc,hl⟩ | ⟨hne,hc⟩
  ·obtain⟨e,a₁,w₁,⟨he,ρ1,x1,s1⟩,harr⟩:=hc ρ a w (fun e a' w'=>e= .normal∧ ∃ρ',Ext ρ h w ρ' h1 w'∧St P ρ' N r1 h1 a' w') s (fun ρ' a' w' x s'=>⟨rfl,ρ',x,s'⟩) b (.inLoop c::k) cs
   subst he
   obtain⟨e₂,a₂,w₂,hq₂,harr₂⟩:=aaE n ρ1 r1 h1 a₁ w₁ hl s1 (fun ρ2 a2 w2 x2 s2=>hq ρ2 a2 w2 (x1.trans x2) s2) b k cs
   exact⟨e₂,a₂,w₂,hq₂,.of_steps (Steps.trans harr (.one step_inLoop)) harr₂⟩
  ·obtain⟨e,a₁,w₁,⟨he,hq1⟩,harr⟩:=hc ρ a w (fun e a' w'=>e=JN ex∧Q (JN ex) a' w') s (fun ρ' a' w' x s'=>⟨rfl,hq ρ' a' w' x s'⟩) b (.inLoop c::k) cs
   subst he
   refine⟨_,a₁,w₁,hq1,.pass (x:= .inLoop c) rfl (fun _ _=> .inl ?_) harr⟩
   cases ex<;>first |exact absurd rfl hne|simp[JN]
theorem aBn {N n:Nat} {c:Code} {ex:Ex} {r':RG} {h':HP} (hl:ait P N c n r h ex r' h'):abd P N (.loop c) r h ex r' h':=fun ρ a w Q s hq b k cs=>by
 obtain⟨e,a',w',hq,harr⟩:=aaE (Q:=Q) n ρ r h a w hl s hq b k cs
 exact⟨e,a',w',hq,.of_steps (.one step_loop) harr⟩
def aSe (b:CC) (call:Go.Proofs.YtcdiljebkpikbaaGreat.Kv.Call) (k:KC):KC:=fun ex r h=>Ex.rec (b call r h k) (fun id=>k (.exit id) r h) (k .ret r h) ex
def anJ (id:Nat) (k:KC):KC:=fun ex r h=>Ex.rec (k .normal r h) (fun j=> @Bool.rec (fun _=>_) (k (.exit j) r h) (k .normal r h) (Nat.beq j id)) (k .ret r h) ex
theorem abM (b:CC) (call:Go.Proofs.YtcdiljebkpikbaaGreat.Kv.Call) (k:KC) (n:Nat) (r:RG) (h:HP):abL b call k (n+1) r h=b call r h (fun ex r h=>Ex.rec (abL b call k n r h) (fun id=>k (.exit id) r h) (k .ret r h) ex):=rfl
theorem aiI (x y:Code) (call:Go.Proofs.YtcdiljebkpikbaaGreat.Kv.Call) (k:KC):(xe P S (.seq x y)).f call r h k=(xe P S x).f call r h (aSe (xe P S y).f call k):=by
 have e:xe P S (.seq x y)=⟨fun call r h k=> @Bx.rec _ (fun _=>_) (fun f=>f) (xe P S x) call r h (fun ex r h=>Ex.rec (@Bx.rec _ (fun _=>_) (fun f=>f) (xe P S y) call r h k) (fun id=>k (.exit id) r h) (k .ret r h) ex)⟩:=rfl
 rw[e];simp only[zl];rfl
theorem agl (c:Operand) (x y:Code) (call:Go.Proofs.YtcdiljebkpikbaaGreat.Kv.Call) (k:KC):(xe P S (.cond c x y)).f call r h k=ajd ((zx c).f r) (fun t=>if t=true then(xe P S x).f call r h k else(xe P S y).f call r h k):=by
 have e:xe P S (.cond c x y)= @Bx.rec _ (fun _=>Bx CC) (fun f=>⟨fun call r h k=>ajd (f r) (fun t=> @Bool.rec (fun _=>_) (@Bx.rec _ (fun _=>_) (fun f=>f) (xe P S y) call r h k) (@Bx.rec _ (fun _=>_) (fun f=>f) (xe P S x) call r h k) t)⟩) (zx c):=rfl
 rw[e];simp only[zl,zN]
theorem abp (id:Nat) (x:Code) (call:Go.Proofs.YtcdiljebkpikbaaGreat.Kv.Call) (k:KC):(xe P S (.block id x)).f call r h k=(xe P S x).f call r h (anJ id k):=by
 have e:xe P S (.block id x)=⟨fun call r h k=> @Bx.rec _ (fun _=>_) (fun f=>f) (xe P S x) call r h (anJ id k)⟩:=rfl
 rw[e,zl]
theorem agm (x:Code) (call:Go.Proofs.YtcdiljebkpikbaaGreat.Kv.Call) (k:KC):(xe P S (.loop x)).f call r h k=abL (xe P S x).f call k big r h:=by
 have e:xe P S (.loop x)=⟨fun call r h k=>abL (@Bx.rec _ (fun _=>_) (fun f=>f) (xe P S x)) call k big r h⟩:=rfl
 rw[e,zl]
theorem V5 (id:Nat) (ops:Array Oper) (draw:Bool) (call:Go.Proofs.YtcdiljebkpikbaaGreat.Kv.Call) (k:KC):(xe P S (.region id ops draw)).f call r h k=(agk P S ops.toList draw).f call r h (fun r h=>k .normal r h):=by
 have e:xe P S (.region id ops draw)=⟨fun call r h k=> @Bx.rec _ (fun _=>_) (fun f=>f) (agk P S ops.toList draw) call r h (fun r h=>k .normal r h)⟩:=rfl
 rw[e,zl]
theorem abQ {v:AV} {φ:Bool→R} {res:AV×HP} (e:ajd v φ=some res): ∃b,v= .bl b∧φ b=some res:=by cases v<;>first |exact⟨_,rfl,e⟩ | (cases e;done)
theorem zq {x y:Bool} (h: @Bool.rec (fun _=>Bool) false y x=true):x=true∧y=true:=by
 rw[zN]at h
 split at h
 ·next q=>exact⟨q,h⟩
 ·cases h
theorem anM {call:Go.Proofs.YtcdiljebkpikbaaGreat.Kv.Call} {N:Nat} (hreg:aiu P S call N): ∀(c:Code),Z6 N c=true→ ∀(r:RG) (h:HP) (k:KC) (res:AV×HP),(xe P S c).f call r h k=some res→
  ∃ex r' h',k ex r' h'=some res∧abd P N c r h ex r' h'
 | .skip,_,r,h,k,res,hf=>⟨.normal,r,h,hf,fun ρ a w Q s hq=>wp_skip (hq ρ a w (Ext.refl s.hr) s)⟩
 | .label l,_,r,h,k,res,hf=>⟨.normal,r,h,hf,fun ρ a w Q s hq=>wp_label (hq ρ a w (Ext.refl s.hr) s)⟩
 | .exit id,_,r,h,k,res,hf=>⟨.exit id,r,h,hf,fun ρ a w Q s hq=>wp_exit (hq ρ a w (Ext.refl s.hr) s)⟩
 | .ret,_,r,h,k,res,hf=>⟨.ret,r,h,hf,fun ρ a w Q s hq=>wp_ret (hq ρ a w (Ext.refl s.hr) s)⟩
 | .goto _,_,r,h,k,res,hf=>by cases hf
 | .refuse _,_,r,h,k,res,hf=>by cases hf
 | .rangeFunc _ _ _ _,_,r,h,k,res,hf=>by cases hf
 | .region id ops draw,hd,r,h,k,res,hf=>by
  rw[V5]at hf
  obtain⟨r',h',k1,k2⟩:=hreg id ops draw hd r h _ res hf
  exact⟨.normal,r',h',k1,k2⟩
 | .scope b,hd,r,h,k,res,hf=>by
  obtain⟨ex,r',h',k1,k2⟩:=anM hreg b hd r h k res hf
  refine⟨ex,r',h',k1,fun ρ a w Q s hq=>wp_scope_straight (k2 ρ a w _ s fun ρ' a' w' x s'=>?_)⟩
  have:=hq ρ' a' w' x s'
  cases ex<;>exact this
 | .cond c x y,hd,r,h,k,res,hf=>by
  obtain⟨hx,hy⟩:=zq hd
  rw[agl]at hf
  obtain⟨t,e,hf⟩:=abQ hf
  have hev: ∀ρ (a:Act),RR ρ r a→a.eval c= .bool t:=fun ρ a rr=>by
   have hv:=zr rr c (by rw[e];intro h;cases h)
   rw[e]at hv
   exact hv
  cases t with
  |true=>
   obtain⟨ex,r',h',k1,k2⟩:=anM hreg x hx r h k res hf
   exact⟨ex,r',h',k1,fun ρ a w Q s hq=>wp_cond_true (hev ρ a s.rr) (k2 ρ a w Q s hq)⟩
  |false=>
   obtain⟨ex,r',h',k1,k2⟩:=anM hreg y hy r h k res hf
   exact⟨ex,r',h',k1,fun ρ a w Q s hq=>wp_cond_false (hev ρ a s.rr) (k2 ρ a w Q s hq)⟩
 | .seq x y,hd,r,h,k,res,hf=>by
  obtain⟨hx,hy⟩:=zq hd
  rw[aiI]at hf
  obtain⟨ex,r1,h1,k1,k2⟩:=anM hreg x hx r h _ res hf
  have stop:ex≠ .normal→k ex r1 h1=some res→ ∃ex r' h',k ex r' h'=some res∧abd P N (.seq x y) r h ex r' h':=fun hne hk=>by
   refine⟨ex,r1,h1,hk,fun ρ a w Q s hq=>wp_seq (k2 ρ a w _ s fun ρ' a' w' x' s'=>?_)⟩
   have:=hq ρ' a' w' x' s'
   cases ex<;>first |exact absurd rfl hne|exact this
  cases ex with
  |normal=>
   obtain⟨ex,r',h',k3,k4⟩:=anM hreg y hy r1 h1 k res k1
   exact⟨ex,r',h',k3,fun ρ a w Q s hq=>wp_seq (k2 ρ a w _ s fun ρ1 a1 w1 x1 s1=>k4 ρ1 a1 w1 Q s1 fun ρ2 a2 w2 x2 s2=>hq ρ2 a2 w2 (x1.trans x2) s2)⟩
  |exit id=>exact stop (fun e=>by cases e) k1
  |ret=>exact stop (fun e=>by cases e) k1
 | .block id x,hd,r,h,k,res,hf=>by
  rw[abp]at hf
  obtain⟨ex,r1,h1,k1,k2⟩:=anM hreg x hd r h _ res hf
  cases ex with
  |normal=>exact⟨.normal,r1,h1,k1,fun ρ a w Q s hq=>wp_block (k2 ρ a w _ s hq)⟩
  |ret=>exact⟨.ret,r1,h1,k1,fun ρ a w Q s hq=>wp_block (k2 ρ a w _ s hq)⟩
  | exit j=>
   have k1: @Bool.rec (fun _=>R) (k (.exit j) r1 h1) (k .normal r1 h1) (Nat.beq j id)=some res:=k1
   rw[zg]at k1
   by_cases e:j=id
   ·rw[if_pos e]at k1
    refine⟨.normal,r1,h1,k1,fun ρ a w Q s hq=>wp_block (k2 ρ a w _ s fun ρ' a' w' x' s'=>?_)⟩
    show(if j=id then Q .normal a' w' else Q (.exit j) a' w')
    rw[if_pos e];exact hq ρ' a' w' x' s'
   ·rw[if_neg e]at k1
    refine⟨.exit j,r1,h1,k1,fun ρ a w Q s hq=>wp_block (k2 ρ a w _ s fun ρ' a' w' x' s'=>?_)⟩
    show(if j=id then Q .normal a' w' else Q (.exit j) a' w')
    rw[if_neg e];exact hq ρ' a' w' x' s'
 | .loop x,hd,r,h,k,res,hf=>by
  rw[agm]at hf
  have key: ∀n r h,abL (xe P S x).f call k n r h=some res→ ∃ex r' h',k ex r' h'=some res∧ait P N x n r h ex r' h':=by
   intro n
   induction n with
   |zero=>intro r h hf;cases hf
   | succ n ih=>
    intro r h hf
    rw[abM]at hf
    obtain⟨ex,r1,h1,k1,k2⟩:=anM hreg x hd r h _ res hf
    cases ex with
    |normal=>
     obtain⟨ex,r',h',k3,k4⟩:=ih r1 h1 k1
     exact⟨ex,r',h',k3,.inl ⟨r1,h1,k2,k4⟩⟩
    |exit id=>exact⟨.exit id,r1,h1,k1,.inr ⟨(fun e=>by cases e),k2⟩⟩
    |ret=>exact⟨.ret,r1,h1,k1,.inr ⟨(fun e=>by cases e),k2⟩⟩
  obtain⟨ex,r',h',k1,k2⟩:=key _ r h hf
  exact⟨ex,r',h',k1,aBn k2⟩
end
end Kv
end
end
section
noncomputable section
namespace Kv
open Go.RowKit
variable {P:Program}
section
variable {ρ:Ren} {w:World} {h:HP} {r:RG} {a:Act} {S:Sm}
theorem aa1: ∀(l:List AV) (i:Nat) (r:RG),i+l.length≤512→ ∀k,k<512→xj (aog l i r) k=if i≤k∧k<i+l.length then l.getD (k-i) .un else xj r k
 | [],i,r,_,k,hk=>by
  rw[if_neg (by simp only[List.length_nil];omega)]
  rfl
 | x::l,i,r,h,k,hk=>by
  rw[List.length_cons]at h⊢
  have e:aog (x::l) i r=aog l (i+1) (ajz r i x):=by
   show aog l (Nat.succ i) (@Bx.rec _ (fun _=>_) (fun f=>f) (aM5 i) r x)=_
   rw[zl];rfl
  rw[e,aa1 l (i+1) _ (by omega) k hk,vK hk (by omega)]
  by_cases h1:k=i
  ·subst h1
   rw[if_neg (by omega),if_pos rfl,if_pos (by omega),Nat.sub_self];rfl
  ·by_cases h2:i+1≤k∧k<i+1+l.length
   ·rw[if_pos h2,if_pos (by omega)]
    obtain⟨d,hd⟩: ∃d,k-i=d+1:=⟨k-i-1,by omega⟩
    rw[hd,show k- (i+1)=d by omega];rfl
   ·rw[if_neg h2,if_neg h1,if_neg (by omega)]
theorem aiO {args:List AV} {args':List Value} (hv:VRs ρ args args') {n:Nat} (h1:args.length≤n) (h2:n≤512):RR ρ (aog args 0 rg0) { tmps:=args'.toArray++Array.replicate (n-args'.toArray.size) undef,defers:=[] } :=by
 intro k hk
 have hl:=hv.length
 rw[aa1 args 0 rg0 (by omega) k hk]
 simp only[Nat.zero_le,true_and,Nat.zero_add,Nat.sub_zero]
 by_cases e:k<args.length
 ·rw[if_pos e]
  obtain⟨x,y,e1,e2,e3⟩:=hv.get k e
  have e4:args.getD k .un=x:=by simp[List.getD_eq_getElem?_getD,e1]
  have e5:(args'.toArray++Array.replicate (n-args'.toArray.size) undef).getD k undef=y:=by
   have hk':k<args'.length:=by omega
   have e6:args'[k]=y:=by
    have:=List.getElem?_eq_getElem hk'
    rw[e2]at this
    injection this with this
    exact this.symm
   simp[Array.getD_eq_getD_getElem?,Array.getElem?_append,hk',e6]
  rw[e4]
  show VR ρ x ((args'.toArray++Array.replicate (n-args'.toArray.size) undef).getD k undef)
  rw[e5];exact e3
 ·rw[if_neg e,aat hk]
  refine⟨#[],?_,rfl⟩
  show(args'.toArray++Array.replicate (n-args'.toArray.size) undef).getD k undef=undef
  simp only[Array.getD_eq_getD_getElem?,Array.getElem?_append]
  split
  ·next q=>exact absurd q (by simp;omega)
  ·rw[Array.getElem?_replicate]
   split<;>rfl
def aBS (tmps:Array Value):ResultVar→Sem Value
 | .tmp t=>pure (tmps.getD t undef)
 | .cell a t=>do loadVar t (←asAddr (tmps.getD a undef))
theorem abj {s:Sem Value} {v:Value} {w':World} (h:(do pure (Next.value (←s)):Sem Next).run P w= .ok (.value v) w'):s.run P w= .ok v w':=by
 rw[Sem.run_bind]at h
 cases e:s.run P w with
 |ok x w1=>
  rw[e]at h
  injection h with h1 h2
  injection h1 with h1
  rw[h1,h2]
 |halt x w1=>rw[e]at h;cases h
theorem aoe {x:ResultVar} (rr:RR ρ r a) (hr:HR ρ h w) (hu:(aoc P x).f r h≠ .un): ∃v,(aBS a.tmps x).run P w= .ok v w∧VR ρ ((aoc P x).f r h) v:=by
 cases x with
 |tmp t=>
  have e:(aoc P (.tmp t)).f r h=(zx (.tmp t)).f r:=by simp only[aoc,zl];rfl
  rw[e]at hu⊢
  exact⟨_,rfl,zr rr (.tmp t) hu⟩
 | cell b t=>
  have e:(aoc P (.cell b t)).f r h=(zt P (Op.load t (.tmp b))).f r h:=by simp only[aoc,zt,zl];rfl
  rw[e]at hu⊢
  obtain⟨v,h1,h2⟩:=aR7 rr hr ⟨none,.load t (.tmp b),0,"",#[],none⟩ hu
  refine⟨v,?_,h2⟩
  have h1:(Instr.loadAt t (a.eval (.tmp b))).run P w= .ok v w:=abj h1
  have hp: ∃i o,(zx (.tmp b)).f r= .ptr i o:=by
   simp only[zt,zl]at hu
   generalize (zx (.tmp b)).f r=x at hu⊢
   cases x<;>first |exact⟨_,_,rfl⟩ |exact absurd rfl hu
  obtain⟨i,o,hp⟩:=hp
  have hv:=zr rr (.tmp b) (by rw[hp];intro e;cases e)
  rw[hp]at hv
  obtain⟨g,κ,_,ev⟩:=hv
  rw[ev]at h1
  show(do loadVar t (←asAddr (a.eval (.tmp b))):Sem Value).run P w=_
  rw[ev]
  exact h1
theorem aaY: ∀(l:List ResultVar) {k:List AV→R} {res:AV×HP},(ahK P l).f r h k=some res→ ∃vs,k vs=some res∧vs.length=l.length∧ ∀ρ (a:Act) w,RR ρ r a→HR ρ h w→ ∃vs',(l.mapM (aBS a.tmps)).run P w= .ok vs' w∧VRs ρ vs vs'
 | [],k,res,hf=>⟨[],hf,rfl,fun ρ a w _ _=>⟨[],rfl,rfl⟩⟩
 |x::l,k,res,hf=>by
  unfold ahK at hf
  simp only[zl]at hf
  obtain⟨hu,hf⟩:=Zm hf
  obtain⟨vs,k1,k0,k2⟩:=aaY l hf
  refine⟨_::vs,k1,by simp[k0],fun ρ a w rr hr=>?_⟩
  obtain⟨v,e1,e2⟩:=aoe rr hr hu
  obtain⟨vs',e3,e4⟩:=k2 ρ a w rr hr
  refine⟨v::vs',?_,v,vs',rfl,e2,e4⟩
  rw[List.mapM_cons,rb e1,rb e3];rfl
theorem Yy {fn:Func} {vs:List Value} (h:(fn.results.toList.mapM (aBS a.tmps)).run P w= .ok vs w):(results fn a.tmps).run P w= .ok (if h:vs.toArray.size=1 then vs.toArray[0]else .tuple vs.toArray) w:=by
 have e:(fn.results.mapM (aBS a.tmps)).run P w= .ok vs.toArray w:=by
  rw[Array.mapM_eq_mapM_toList]
  show((fn.results.toList.mapM (aBS a.tmps))>>=fun l=>pure l.toArray).run P w=_
  rw[rb h];rfl
 have e2:results fn a.tmps=(do let vs←fn.results.mapM (aBS a.tmps);pure (if h:vs.size=1 then vs[0]else .tuple vs)):=by
  unfold results
  congr 1
 rw[e2,rb e];rfl
theorem aBR {fn:Func} {k:K} {res:AV×HP} (hf:(aod P fn.results.toList).f r h k=some res): ∃v,k v h=some res∧ ∀ρ (a:Act) w,RR ρ r a→HR ρ h w→ ∃v',(results fn a.tmps).run P w= .ok v' w∧VR ρ v v':=by
 have many:fn.results.toList.length≠1→(ahK P fn.results.toList).f r h (fun vs=>k (.tup vs) h)=some res→ ∃v,k v h=some res∧ ∀ρ (a:Act) w,RR ρ r a→HR ρ h w→ ∃v',(results fn a.tmps).run P w= .ok v' w∧VR ρ v v':=fun hne hf=>by
  obtain⟨vs,k1,k0,k2⟩:=aaY _ hf
  refine⟨_,k1,fun ρ a w rr hr=>?_⟩
  obtain⟨vs',e1,e2⟩:=k2 ρ a w rr hr
  refine⟨_,Yy e1,?_⟩
  rw[dif_neg (by have:=e2.length;simp;omega)]
  exact⟨_,rfl,by simpa using e2⟩
 generalize hl:fn.results.toList=l at hf many
 rcases l with _| ⟨x,_| ⟨y,l⟩⟩
 ·refine many (by simp) ?_
  unfold aod at hf
  simp only[zl]at hf
  exact hf
 ·unfold aod at hf
  simp only[zl]at hf
  obtain⟨hu,hf⟩:=Zm hf
  refine⟨_,hf,fun ρ a w rr hr=>?_⟩
  obtain⟨v,e1,e2⟩:=aoe rr hr hu
  refine⟨v,?_,e2⟩
  have e3:([x].mapM (aBS a.tmps)).run P w= .ok [v] w:=by rw[List.mapM_cons,rb e1];rfl
  rw[←hl]at e3
  have:=Yy e3
  exact this
 ·refine many (by simp) ?_
  unfold aod at hf
  simp only[zl]at hf
  exact hf
theorem jL {f:FuncId} {fn:Func} {c:Code} (e1:P.funcs[f]? =some fn) (e2:fn.body=some c) (e3:fn.name≠ "runtime.NumGoroutine") (args:Array Value) (w:World):(callFunc f args).run P w= .ok (.enter f args) w:=by
 simp[callFunc,e1,e2,e3,Sem.run]
theorem Yd {fn:Func} {tmps:Array Value} {Rr:Ending→World→Prop} {v:Value} (h1:(results fn tmps).run P w= .ok v w) (h2:Rr (.returned v) w): ∀ds,x9 P ds→Leaves P fn tmps Rr ds .returning w
 | [],_=>⟨v,h1,h2⟩
 | d::ds,hI=>by
  obtain⟨f,p,hid,rfl⟩:=hI d List.mem_cons_self
  obtain⟨⟨fn',c,e1,e2,e3⟩,hrun⟩:=hid
  refine leaves_cons (f:=f) (args:= #[.pointer (some p)]) (fun h=>by cases h) ?_ ((hrun p w).mono fun e u' w' he=>?_)
  ·exact jL e1 e2 e3 _ w
  ·obtain⟨h5,h6,h7⟩:=he
   rw[h5,h6,h7]
   exact Yd h1 h2 ds fun d hd=>hI d (List.mem_cons_of_mem _ hd)
def ach (P:Program):Prop:= ∀(f:FuncId) (fn:Func),P.funcs[f]? =some fn→fn.body.isSome=true→fn.name≠ "runtime.NumGoroutine"
theorem ahk: ∀(l:List Func) (k:Nat),aSG l k=l[k]?
 | [],k=>rfl
 |o::l,0=>rfl
 |o::l,k+1=>ahk l k
theorem abn {f:FuncId} {call:Go.Proofs.YtcdiljebkpikbaaGreat.Kv.Call} {args:List AV} {k:K} {res:AV×HP} (hf:(agj P S f).f call args h k=some res):
  ∃fn c,P.funcs[f]? =some fn∧fn.body=some c∧fn.ntmps≤512∧Z6 fn.ntmps c=true∧args.length≤fn.ntmps∧
   (xe P S c).f call (aog args 0 rg0) h (fun ex r h=>Ex.rec ((aod P fn.results.toList).f r h k) (fun _=>none) ((aod P fn.results.toList).f r h k) ex)=some res:=by
 unfold agj at hf
 rw[ahk,Array.getElem?_toList]at hf
 cases e1:P.funcs[f]? with
 |none=>rw[e1]at hf;cases hf
 | some fn=>
  rw[e1]at hf
  simp only at hf
  cases e2:fn.body with
  |none=>rw[e2]at hf;cases hf
  | some c=>
   rw[e2]at hf
   simp only[zN]at hf
   by_cases h1:(if Nat.ble fn.ntmps 512=true then Z6 fn.ntmps c else false)=true
   ·rw[if_pos h1]at hf
    simp only[zl]at hf
    by_cases h2:aSx args fn.ntmps=true
    ·rw[if_pos h2]at hf
     by_cases h3:Nat.ble fn.ntmps 512=true
     ·rw[if_pos h3]at h1
      refine⟨fn,c,rfl,e2,(zy _ _).1 h3,h1,?_,hf⟩
      have:=(zy _ _).1 h2
      rwa[xU]at this
     ·rw[if_neg h3]at h1;cases h1
    ·rw[if_neg h2]at hf;cases hf
   ·rw[if_neg h1]at hf;cases hf
theorem f_ok (hN:ach P) {call:Go.Proofs.YtcdiljebkpikbaaGreat.Kv.Call} (hreg: ∀N,N≤512→aiu P S call N) {f:FuncId} {args:List AV} {k:K} {res:AV×HP} (hf:(agj P S f).f call args h k=some res):
  ∃v h',k v h'=some res∧qy P f args h v h':=by
 obtain⟨fn,c,e1,e2,h1,h2,h3,hf⟩:=abn hf
 obtain⟨ex,r',h',k1,k2⟩:=anM (hreg fn.ntmps h1) c h2 _ _ _ _ hf
 have fin:(ex= .normal∨ex= .ret)→(aod P fn.results.toList).f r' h' k=some res→ ∃v h',k v h'=some res∧qy P f args h v h':=fun hex hk=>by
  obtain⟨v,k3,k4⟩:=aBR hk
  refine⟨v,h',k3,fun ρ args' w K hv hr hK=>?_⟩
  unfold JY
  rw[jL e1 e2 (hN f fn e1 (by rw[e2];rfl))]
  refine calls_of_wp_defers e1 e2 (k2 ρ _ w _ ⟨aiO hv h3 h1,?_,hr,fun d hd=>by cases hd⟩ fun ρ' a' w' x s'=>?_)
  ·have:=hv.length
   simp;omega
  ·obtain⟨v',r1,r2⟩:=k4 ρ' a' w' s'.rr s'.hr
   have:=Yd (P:=P) (Rr:=fun e w''=>match e with | .returned v=>K v w''|_=>False) r1 (hK ρ' v' w' x r2) a'.defers s'.df
   rcases hex with rfl|rfl<;>exact this
 cases ex with
 |normal=>exact fin (.inl rfl) k1
 |ret=>exact fin (.inr rfl) k1
 |exit id=>cases k1
theorem agb (hN:ach P) (hreg: ∀call,vx P call→ ∀N,N≤512→aiu P S call N): ∀n,vx P (aiE P S n)
 |0=>fun f args h k res hf=>by cases hf
 |n+1=>fun f args h k res hf=>by
  have ih:=agb hN hreg n
  have hf: @Bx.rec _ (fun _=>_) (fun f=>f) (agj P S f) (aiE P S n) args h k=some res:=hf
  rw[zl]at hf
  exact f_ok hN (hreg _ ih) hf
end
end Kv
end
end
section
noncomputable section
namespace Kv
open Go.RowKit
variable {P:Program}
section
variable {ρ ρ1:Ren} {w:World} {h:HP} {r:RG} {a:Act} {S:Sm} {n:Nat}
def Ren.cut (ρ:Ren) (n:Nat):Ren:=fun i=>if i<n then ρ i else none
theorem Ren.cut_some {ρ:Ren} {n i:Nat} {p:Nat×Nat} :ρ.cut n i=some p↔i<n∧ρ i=some p:=by
 unfold Ren.cut
 by_cases h:i<n
 ·rw[if_pos h];exact⟨fun k=>⟨h,k⟩,fun k=>k.2⟩
 ·rw[if_neg h];exact⟨(fun k=>by cases k),fun k=>absurd k.1 h⟩
theorem Ren.cut_le (ρ:Ren) (n:Nat):RLe (ρ.cut n) ρ:=fun i p hi=>(Ren.cut_some.1 hi).2
mutual
theorem VR.cut (hd:Dom ρ1 n): ∀(a:AV) (v1 v:Value),VR ρ1 a v1→VR ρ a v→VR (ρ.cut n) a v
 | .fl _,_,_,_,k=>k
 | .nilp,_,_,_,k=>k
 | .nils,_,_,_,k=>k
 | .se,_,_,_,k=>k
 | .nilf,_,_,_,k=>k
 | .nili,_,_,_,k=>k
 | .ifc _ x,_,_,⟨y1,_,k1⟩,⟨y,e,k⟩=>⟨y,e,VR.cut hd x y1 y k1 k⟩
 | .fn _ a b,_,_,⟨a1,b1,_,k1,m1⟩,⟨a',b',e,k,m⟩=>⟨a',b',e,VRs.cut hd a _ _ k1 k,VRs.cut hd b _ _ m1 m⟩
 | .tup l,_,_,⟨l1,_,k1⟩,⟨l',e,k⟩=>⟨l',e,VRs.cut hd l _ _ k1 k⟩
 | .un,_,_,k,_=>k.elim
 | .sf i _ _ _,_,_,⟨b1,κ1,c1,e1,_⟩,⟨b,κ,c,e,r⟩=>⟨b,κ,c,Ren.cut_some.2 ⟨hd _ _ e1,e⟩,r⟩
 | .sl i _ _ _,_,_,⟨b1,κ1,e1,_⟩,⟨b,κ,e,r⟩=>⟨b,κ,Ren.cut_some.2 ⟨hd _ _ e1,e⟩,r⟩
 | .ba _ _,_,_,_,k=>k
 | .agg l,_,_,⟨cs1,_,k1,_⟩,⟨cs,e,k,m⟩=>⟨cs,e,VRs.cut hd l _ _ k1 k,m⟩
 | .str _ _,_,_,_,k=>k
 | .bl _,_,_,_,k=>k
 | .ptr i _,_,_,⟨b1,κ1,e1,_⟩,⟨b,κ,e,r⟩=>⟨b,κ,Ren.cut_some.2 ⟨hd _ _ e1,e⟩,r⟩
 | .int _ _,_,_,_,k=>k
theorem VRs.cut (hd:Dom ρ1 n): ∀(a:List AV) (v1 v:List Value),VRs ρ1 a v1→VRs ρ a v→VRs (ρ.cut n) a v
 | [],_,_,_,k=>k
 |a::m,_,_,⟨x1,y1,_,k1,r1⟩,⟨x,y,e,k,r⟩=>⟨x,y,e,VR.cut hd a _ x k1 k,VRs.cut hd m _ y r1 r⟩
end
def aNJ (n:Nat) (v:AV):Prop:= ∃ρ1 v1,Dom ρ1 n∧VR ρ1 v v1
theorem aNJ.cut {v:AV} {v':Value} (hl:aNJ n v) (hv:VR ρ v v'):VR (ρ.cut n) v v':=by
 obtain⟨ρ1,v1,hd,k⟩:=hl
 exact VR.cut hd v v1 v' k hv
theorem UR.cut {u:Nat} {a:AV} {c1 cs:List Value} (hd:Dom ρ1 n) (k1:UR ρ1 u a c1) (k:UR ρ u a cs):UR (ρ.cut n) u a cs:=⟨VRs.cut hd _ _ _ k1.vs k.vs,k.len,k.sc,k.by_⟩
theorem aim.cut {b:Blk} {κ:Nat} {o:Obj} (hl:aim n b) (hb:BR ρ κ b o):BR (ρ.cut n) κ b o:=by
 rcases hl with rfl| ⟨ρ1,κ1,o1,hd,k1⟩
 ·trivial
 ·cases b with
  |dead=>trivial
  | «by» l x=>exact hb
  |si l x p=>exact hb
  |row u m t=>
   obtain⟨c,ty,fr,e,h1,h2,h3,h4,h5,h6⟩:=hb
   obtain⟨c1,ty1,fr1,e1,_,_,_,_,_,g6⟩:=k1
   exact⟨c,ty,fr,e,h1,h2,h3,h4,h5,fun i hi=>UR.cut hd (g6 i hi) (h6 i hi)⟩
theorem HR.cut {g:HP} (hr:HR ρ g w) (hw:h.wf) (hl: ∀i,aim h.n (h.get i)) (he: ∀i,i<h.n→g.get i=h.get i):HR (ρ.cut h.n) h w where
 wf:=hw
 at_:=fun i b κ hi=>by
  obtain⟨h1,h2⟩:=Ren.cut_some.1 hi
  obtain⟨_,o,h3,h4⟩:=hr.at_ i b κ h2
  rw[he i h1]at h4
  exact⟨h1,o,h3,(hl i).cut h4⟩
 inj:=fun i j b κ κ' hi hj d1 d2=>by
  obtain⟨h1,h2⟩:=Ren.cut_some.1 hi
  obtain⟨h3,h4⟩:=Ren.cut_some.1 hj
  exact hr.inj i j b κ κ' h2 h4 (by rw[he i h1];exact d1) (by rw[he j h3];exact d2)
 low:=hl
def YN:List Nat→RG→RG
 | [],_=>rg0
 |k::l,r=>ajz (YN l r) k (xj r k)
theorem Yh: ∀(l:List Nat) (r:RG) (k:Nat),(∀x∈l,x<512)→k<512→xj (YN l r) k=if k∈l then xj r k else .tup []
 | [],r,k,_,hk=>by rw[if_neg (by simp)];exact aat hk
 | x::l,r,k,hl,hk=>by
  have hx:=hl x List.mem_cons_self
  show xj (ajz (YN l r) x (xj r x)) k=_
  rw[vK hk hx,Yh l r k (fun y hy=>hl y (List.mem_cons_of_mem _ hy)) hk]
  by_cases e:k=x
  ·subst e;rw[if_pos rfl,if_pos List.mem_cons_self]
  ·rw[if_neg e]
   by_cases h:k∈l
   ·rw[if_pos h,if_pos (List.mem_cons_of_mem _ h)]
   ·rw[if_neg h,if_neg (by simp[e,h])]
def Zj (l:List Nat) (t:Array Value):Array Value:=t.mapIdx fun i v=>if i∈l then v else undef
theorem Ju (l:List Nat) (t:Array Value) (k:Nat):(Zj l t).getD k undef=if k∈l then t.getD k undef else undef:=by
 unfold Zj
 simp only[Array.getD_eq_getD_getElem?,Array.getElem?_mapIdx]
 cases t[k]? with
 |none=>simp
 |some v=>simp
def Qg (l:List Nat) (a:Act):Act:= { a with tmps:=Zj l a.tmps }
theorem Kj {l:List Nat} (hl: ∀x∈l,x<512) (h: ∀k∈l,VR ρ (xj r k) (a.tmps.getD k undef)):RR ρ (YN l r) (Qg l a):=fun k hk=>by
 rw[Yh l r k hl hk]
 show VR ρ _ ((Zj l a.tmps).getD k undef)
 rw[Ju]
 by_cases e:k∈l
 ·rw[if_pos e,if_pos e];exact h k e
 ·rw[if_neg e,if_neg e];exact⟨#[],rfl,rfl⟩
def aaN (o:Op):List Nat:=aop o.operands.toList
theorem Xf {o:Op} {t:Tmp} (h:Operand.tmp t∈o.operands):t∈aaN o:=List.mem_filterMap.2 ⟨.tmp t,by simpa using h,rfl⟩
def YI (l:List Operand) (r r':RG):Prop:= ∀x∈l,(zx x).f r=(zx x).f r'
theorem ajv {o:Op} {r r':RG} (h: ∀k∈aaN o,k<512→xj r k=xj r' k):YI o.operands.toList r r':=fun x hx=>by
 cases x with
 | tmp t=>
  rcases Nat.lt_or_ge t 512 with h1|h1
  ·exact h t (Xf (by simpa using hx)) h1
  ·show xj r t=xj r' t
   rw[vJ _ h1,vJ _ h1]
 |const v=>rfl
 |global g=>rfl
 |func f=>rfl
theorem vE {r r':RG} : ∀(l:List Operand),YI l r r'→(xk l).f r=(xk l).f r'
 | [],_=>rfl
 |x::l,h=>by
  unfold xk
  simp only[zl]
  rw[h x List.mem_cons_self,vE l fun y hy=>h y (List.mem_cons_of_mem _ hy)]
theorem Yp {r r':RG} : ∀(x:Option Operand),YI x.toList r r'→(xy x).f r=(xy x).f r'
 |none,_=>rfl
 |some x,h=>by
  unfold xy
  simp only[zl]
  rw[h x (by simp)]
theorem Z8 {r r':RG} (place:Nat→Option (Nat×Nat)): ∀(l:List (Nat×Operand)) (c:List AV),YI (l.map (·.2)) r r'→(qf P place l).f r c=(qf P place l).f r' c
 | [],c,_=>rfl
 | (i,x)::l,c,h=>by
  have h1:=h x (by simp)
  have h2: ∀c,(qf P place l).f r c=(qf P place l).f r' c:=fun c=>Z8 place l c fun y hy=>h y (by simp only[List.map_cons];exact List.mem_cons_of_mem _ hy)
  unfold qf
  cases place i with
  |none=>rfl
  |some p=>
   obtain⟨o,m⟩:=p
   simp only[zl]
   rw[h1]
   simp only[h2]
theorem Xs {r r':RG} (c:Nat): ∀(l:List (Nat×Operand)) (b:Blk),YI (l.map (·.2)) r r'→(qv c l).f r b=(qv c l).f r' b
 | [],b,_=>rfl
 | (i,x)::l,b,h=>by
  have h1:=h x (by simp)
  have h2: ∀c',(qv c l).f r c'=(qv c l).f r' c':=fun c'=>Xs c l c' fun y hy=>h y (by simp only[List.map_cons];exact List.mem_cons_of_mem _ hy)
  unfold qv
  simp only[zl]
  rw[h1]
  simp only[h2]
theorem abk {r r':RG} (t:TypeId) (l:List (Nat×Operand)) (h:YI (l.map (·.2)) r r'):(vG P t l).f r=(vG P t l).f r':=by
 unfold vG
 cases zw P t<;>first |rfl|skip
 case ba n=>cases l<;>rfl
 case ag m z=>
  simp only
  cases aoC P t with
  |none=>
   simp only[zN]
   split
   ·simp only[zl];rw[Z8 _ l z h]
   ·rfl
  |some ne=>
   obtain⟨k,e⟩:=ne
   simp only[zN]
   split
   ·rfl
   ·simp only[zl];rw[Z8 _ l z h]
end
end Kv
end
end
section
noncomputable section
namespace Kv
open Go.RowKit
variable {P:Program}
section
variable {ρ ρ1:Ren} {w:World} {a:Act} {S:Sm} {n:Nat} {r r':RG}
theorem aob (o:Op) (h:YI o.operands.toList r r') (g:HP):(zt P o).f r g=(zt P o).f r' g:=by
 cases o<;>first |rfl|skip
 case move x=>have hx:=h x (by simp[Op.operands]);simp only[zt,zl];rw[hx]
 case assign x=>have hx:=h x (by simp[Op.operands]);simp only[zt,zl];rw[hx]
 case pick c a b=>have hc:=h c (by simp[Op.operands]);have ha:=h a (by simp[Op.operands]);have hb:=h b (by simp[Op.operands]);simp only[zt,zl];rw[hc,ha,hb]
 case build t ps=>simp only[zt,zl];rw[abk t ps.toList (fun x hx=>h x (by simpa[Op.operands]using hx))]
 case load t x=>have hx:=h x (by simp[Op.operands]);simp only[zt,zl];rw[hx]
 case nilCheck x=>have hx:=h x (by simp[Op.operands]);simp only[zt,zl];rw[hx]
 case binOp op t x y z=>have hx:=h x (by simp[Op.operands]);have hy:=h y (by simp[Op.operands]);simp only[zt,zl];rw[hx,hy]
 case unOp op t x=>have hx:=h x (by simp[Op.operands]);simp only[zt,zl];rw[hx]
 case convert s t x=>have hx:=h x (by simp[Op.operands]);simp only[zt,zl];rw[hx]
 case makeFunc f x y=>
  have hx:(xk x.toList).f r=(xk x.toList).f r':=vE _ fun z hz=>h z (by simp[Op.operands];exact .inl (by simpa using hz))
  have hy:(xk y.toList).f r=(xk y.toList).f r':=vE _ fun z hz=>h z (by simp[Op.operands];exact .inr (by simpa using hz))
  simp only[zt,zl,zN]
  repeat' split
  all_goals first |rfl|simp only[hx,hy]
 case slice t x lo hi mx=>
  have hx:=h x (by simp[Op.operands])
  have h1:(xy lo).f r=(xy lo).f r':=Yp _ fun z hz=>h z (by simp[Op.operands];exact .inr (.inl (by simpa using hz)))
  have h2:(xy hi).f r=(xy hi).f r':=Yp _ fun z hz=>h z (by simp[Op.operands];exact .inr (.inr (.inl (by simpa using hz))))
  have h3:(xy mx).f r=(xy mx).f r':=Yp _ fun z hz=>h z (by simp[Op.operands];exact .inr (.inr (.inr (by simpa using hz))))
  simp only[zt,zl,zN]
  repeat' split
  all_goals first |rfl|simp only[hx,h1,h2,h3]
 case fieldAddr s x f=>
  have hx:=h x (by simp[Op.operands])
  simp only[zt]
  split
  ·simp only[zN]
   split
   ·rfl
   ·simp only[zl];rw[hx]
  ·rfl
 case field s x f=>
  have hx:=h x (by simp[Op.operands])
  simp only[zt]
  split
  ·simp only[zl];rw[hx]
  ·rfl
 case indexAddr t x y=>
  have hx:=h x (by simp[Op.operands]);have hy:=h y (by simp[Op.operands])
  simp only[zt,zl]
  split
  ·simp only[zN]
   split
   ·rfl
   ·simp only[hx,hy]
  ·simp only[zN]
   split
   ·rfl
   ·simp only[hx,hy]
  ·rfl
 case index t x y=>
  have hx:=h x (by simp[Op.operands]);have hy:=h y (by simp[Op.operands])
  simp only[zt,zl]
  split
  ·simp only[zN]
   split
   ·rfl
   ·simp only[hx,hy]
  ·simp only[hx,hy]
  ·rfl
 case extract x i=>have hx:=h x (by simp[Op.operands]);simp only[zt,zl];rw[hx]
 case call c=>
  obtain⟨callee,⟨args⟩,⟨ats⟩⟩:=c
  simp only[zt]
  split
  ·rename_i x t tl
   simp only[zl];rw[h x (by simp[Op.operands,Call.operands])]
  ·rename_i x t tl
   simp only[zl];rw[h x (by simp[Op.operands,Call.operands])]
  ·rename_i x y
   simp only[zl];rw[h x (by simp[Op.operands,Call.operands]),h y (by simp[Op.operands,Call.operands])]
  ·rename_i x y
   simp only[zl];rw[h x (by simp[Op.operands,Call.operands]),h y (by simp[Op.operands,Call.operands])]
  ·rfl
theorem aCE (o:Op) (h:YI o.operands.toList r r') (g:HP) (k:K):(qD P o).f r g k=(qD P o).f r' g k:=by
 cases o<;>first |rfl|skip
 case box t x=>have hx:=h x (by simp[Op.operands]);simp only[qD,zl];rw[hx]
 case buildSlice t l ps=>
  simp only[qD]
  split
  ·simp only[zN]
   split
   ·simp only[zl];rw[Xs _ ps.toList _ (fun x hx=>h x (by simpa[Op.operands]using hx))]
   ·rfl
  ·rfl
 case makeSlice t x y=>
  have hx:=h x (by simp[Op.operands]);have hy:=h y (by simp[Op.operands])
  simp only[qD]
  split
  ·simp only[zl];rw[hx,hy]
  ·rfl
 case range t x=>
  have hx:=h x (by simp[Op.operands])
  simp only[qD,zN]
  split
  ·simp only[zl];rw[hx]
  ·rfl
 case convert s t x=>
  have hx:=h x (by simp[Op.operands])
  simp only[qD,zN]
  repeat' split
  all_goals first |rfl| (simp only[zl];rw[hx])
theorem aMh (call:Go.Proofs.YtcdiljebkpikbaaGreat.Kv.Call) (o:Op) (h:YI o.operands.toList r r') (g:HP) (k:K):(qq P S o).f call r g k=(qq P S o).f call r' g k:=by
 cases o<;>first |rfl|skip
 case store t x y=>
  have hx:=h x (by simp[Op.operands]);have hy:=h y (by simp[Op.operands])
  simp only[qq,zN]
  split
  ·rfl
  ·simp only[zl];rw[hx,hy]
 case next it b=>
  have hx:=h it (by simp[Op.operands])
  simp only[qq,zN]
  split
  ·simp only[zl];rw[hx]
  ·rfl
 case defer c=>
  obtain⟨callee,⟨args⟩,⟨ats⟩⟩:=c
  simp only[qq]
  split
  ·rename_i f
   simp only[zl];rw[h f (by simp[Op.operands,Call.operands])]
  ·rfl
 case call c=>
  obtain⟨callee,⟨args⟩,⟨ats⟩⟩:=c
  cases callee with
  |invoke x m=>rfl
  | value f=>
   have hargs:(xk args).f r=(xk args).f r':=vE _ fun z hz=>h z (by simp[Op.operands,Call.operands];exact .inr hz)
   have hf:=h f (by simp[Op.operands,Call.operands])
   cases f<;>simp only[qq,zN]
   case func g=>
    repeat' split
    all_goals first |rfl| (simp only[zl,hargs];done) |skip
    all_goals(cases S.S g<;>simp only[zl,hargs])
   all_goals
    repeat' split
    all_goals first |rfl|simp only[zl,hargs,hf]
  | builtin b=>
   simp only[qq]
   split
   ·rename_i s x t t' tl
    simp only[zl];rw[h s (by simp[Op.operands,Call.operands]),h x (by simp[Op.operands,Call.operands])]
   ·rename_i x y t tl
    simp only[zl];rw[h x (by simp[Op.operands,Call.operands]),h y (by simp[Op.operands,Call.operands])]
   ·rename_i x t tl
    simp only[zl];rw[h x (by simp[Op.operands,Call.operands])]
   ·rfl
end
end Kv
end
end
section
noncomputable section
namespace Kv
open Go.RowKit
variable {P:Program}
section
variable {S:Sm} {r:RG}
theorem aaV (o:Op) (hl:Qf o=false) (h g:HP):(zt P o).f r h=(zt P o).f r g:=by
 cases o<;>first |rfl| (cases hl;done) |skip
 case makeFunc f x y=>
  simp only[zt,zl]
  generalize (@Bool.rec (fun _=>Bool) false (xQ y.toList) (xQ x.toList))=c
  cases c<;>rfl
 case fieldAddr s x f=>
  simp only[zt]
  split
  ·simp only[zN]
   split
   ·rfl
   ·simp only[zl]
  ·rfl
 case field s x f=>
  simp only[zt]
  split
  ·simp only[zl]
  ·rfl
 case indexAddr t x y=>
  simp only[zt,zl]
  repeat' split
  all_goals first |rfl| (simp only[zN];split<;>rfl)
 case index t x y=>
  simp only[zt,zl]
  repeat' split
  all_goals first |rfl| (simp only[zN];split<;>rfl)
 case call c=>
  obtain⟨callee,⟨args⟩,⟨ats⟩⟩:=c
  simp only[zt]
  split<;>first |rfl|simp only[zl]
def HLe (h g:HP):Prop:= ∀i,i<h.n→g.get i=h.get i
theorem ai2 (ty:Ty) (o:Nat):(ldC ty).f .dead o= .un:=by cases ty<;>rfl
theorem HLe.live {h g:HP} (hl:HLe h g) {i:Nat} (hd:h.get i≠ .dead):g.get i=h.get i:=by
 refine hl i (Nat.lt_of_not_le fun k=>hd (HP.get_dead k))
theorem aA9 {h g:HP} (hl:HLe h g) {n c i o:Nat} {u8:Bool} (hb:zQ.go h n c u8 i o≠ .bad):zQ.go g n c u8 i o=zQ.go h n c u8 i o:=by
 have hd:h.get i≠ .dead:=fun e=>hb (by unfold zQ.go;rw[e])
 unfold zQ.go
 rw[hl.live hd]
theorem ajD {h g:HP} (hl:HLe h g) {v:AV} {n c:Nat} {u8:Bool} (hb:zQ h v n c u8≠ .bad):zQ g v n c u8=zQ h v n c u8:=by
 cases v<;>first |rfl|exact aA9 hl hb
theorem aCr (v:AV) (φ:Nat→AV):vk v φ=match ag9 v with |some l=>(match v with | .str _ _=> .un|_=>φ l) |none=> .un:=by cases v<;>rfl
theorem ajG {h g:HP} (hl:HLe h g) {v:AV} (hu:jQ v h≠ .un):jQ v g=jQ v h:=by
 unfold jQ at hu⊢
 have key: ∀l,(@Bool.rec (fun _=>AV) (match zQ h v l 1 true with | .b m y=> .str m y|_=> .un) (.str 0 0) (Nat.beq l 0))≠ .un→
   (@Bool.rec (fun _=>AV) (match zQ g v l 1 true with | .b m y=> .str m y|_=> .un) (.str 0 0) (Nat.beq l 0))=(@Bool.rec (fun _=>AV) (match zQ h v l 1 true with | .b m y=> .str m y|_=> .un) (.str 0 0) (Nat.beq l 0)):=fun l hu=>by
  rw[zN]at hu⊢
  rw[zN]
  split
  ·rfl
  ·next q=>
   rw[if_neg q]at hu
   rw[ajD hl (fun e=>by rw[e]at hu;exact hu rfl)]
 cases v<;>first |rfl|exact key _ hu
theorem ago {h g:HP} (hl:HLe h g) {s t:TypeId} {v:AV} (hu:(Z5 P s t).f v h≠ .un):(Z5 P s t).f v g=(Z5 P s t).f v h:=by
 unfold Z5 at hu⊢
 split at hu<;>first |rfl|skip
 simp only[zN]at hu⊢
 split at hu
 ·next q=>rw[if_pos q];exact ajG hl hu
 ·exact absurd rfl hu
theorem Yo {v:Option AV} {z:Nat} {φ ψ:Nat→AV} (h: ∀n,φ n≠ .un→ψ n=φ n) (hu:q7 v z φ≠ .un):q7 v z ψ=q7 v z φ:=by
 cases v with
 |none=>exact h z hu
 | some v=>
  change yj v φ≠ .un at hu
  change yj v ψ=yj v φ
  cases v<;>first |rfl|skip
  case int k x=>
   unfold yj xo at hu⊢
   have e: ∀c:Bool,∀φ:Nat→AV,@Bool.rec (fun _=>AV) (φ x) .un c=if c=true then .un else φ x:=fun c φ=>zN _ _ _
   simp only[e]at hu⊢
   generalize (@Bool.rec (fun _=>Bool) false ((hfN k).ble x) (y9 k))=c at hu⊢
   cases c with
   |true=>rfl
   |false=>exact h _ hu
theorem KD {h g:HP} (hl:HLe h g) {u:Nat} {v:AV} {lo hi mx:Option AV} (hu:qX u h v lo hi mx≠ .un):qX u g v lo hi mx=qX u h v lo hi mx:=by
 cases v<;>first |rfl|skip
 case sf i o l w=>
  by_cases hd:h.get i= .dead
  ·unfold qX at hu⊢
   simp only[zg]at hu⊢
   by_cases hw:w=u
   ·rw [if_pos hw]at hu
    rw[if_pos hw,if_pos hw]
    refine Yo (fun a ha=>Yo (fun b hb=>?_) ha) hu
    rw[hd]at hb⊢
    have h0: ∀o,JU .dead o u=0:=fun _=>rfl
    rw[h0]at hb⊢
    unfold JK at hb⊢
    simp only[zf]at hb⊢
    by_cases h1:a≤b
    ·rw [if_pos h1]at hb
     rw[if_pos h1,if_pos h1]
     by_cases h2:b≤0
     ·rw[if_pos h2]at hb
      rw[if_pos h2,if_pos (Nat.le_trans h2 (Nat.zero_le _))]
      have ea:a=0:=by omega
      cases mx with
      |none=>simp only[zg,ea,if_true]
      | some m=>
       simp only at hb⊢
       have:=Yo (v:=some m) (z:=0) (φ:=fun m=>qu u i o 0 a b m) (ψ:=fun m=>qu u i o (JU (g.get i) o u) a b m) (fun n hn=>by
        unfold qu at hn⊢
        simp only[zf]at hn⊢
        by_cases h3:n≤0
        ·rw[if_pos h3,if_pos (Nat.le_trans h3 (Nat.zero_le _))]
        ·rw[if_neg h3]at hn;exact absurd rfl hn) hb
       exact this
     ·rw[if_neg h2]at hb;exact absurd rfl hb
    ·rw[if_neg h1]at hb;exact absurd rfl hb
   ·rw[if_neg hw]at hu;exact absurd rfl hu
  ·unfold qX
   simp only[hl.live hd]
theorem KE {h g:HP} (hl:HLe h g) {t:TypeId} {v:AV} {lo hi mx:Option AV} (hu:(Zg P t).f lo hi mx h v≠ .un):(Zg P t).f lo hi mx g v=(Zg P t).f lo hi mx h v:=by
 unfold Zg at hu⊢
 split at hu
 ·rfl
 ·simp only[zN]at hu⊢
  split<;>rfl
 ·simp only[zN]at hu⊢
  split
  ·rfl
  ·next q=>rw[if_neg q]at hu;exact KD hl hu
 ·rfl
theorem aoa (o:Op) {h g:HP} (hl:HLe h g) (hu:(zt P o).f r h≠ .un):(zt P o).f r g=(zt P o).f r h:=by
 by_cases hk:Qf o=false
 ·exact aaV o hk g h
 ·cases o<;>first |exact absurd rfl hk|skip
  case load t x=>
   simp only[zt,zl]at hu⊢
   generalize (zx x).f r=v at hu⊢
   cases v<;>first |rfl|skip
   case ptr i p=>
    have hd:h.get i≠ .dead:=fun e=>hu (by
     show(ldC (zw P t)).f (h.get i) p= .un
     rw[e,ai2])
    show(ldC (zw P t)).f (g.get i) p=(ldC (zw P t)).f (h.get i) p
    rw[hl.live hd]
  case convert s t x=>
   simp only[zt,zl]at hu⊢
   exact ago hl hu
  case slice t x lo hi mx=>
   simp only[zt]at hu⊢
   generalize (@Bool.rec (fun _=>Bool) false (not (qR mx)) (qR hi))=c at hu⊢
   cases c with
   |true=>rfl
   |false=>
    simp only[zl]at hu⊢
    exact KE hl hu
end
end Kv
end
end
section
noncomputable section
namespace Kv
open Go.RowKit
variable {P:Program}
theorem ab7 (x i:Nat):tb x i=x.testBit i:=by
 unfold tb Nat.testBit
 have h1:Nat.land (Nat.shiftRight x i) 1=(x>>>i)%2:=Nat.and_one_is_mod _
 have h2:1&&& x>>>i=(x>>>i)%2:=by rw[Nat.and_comm];exact Nat.and_one_is_mod _
 rw[h1,h2]
 rcases Nat.mod_two_eq_zero_or_one (x>>>i)with h|h<;>rw[h]<;>rfl
theorem Jc (e:Edge):qo e=Region.binds .any e:=by
 obtain⟨on,g⟩:=e
 cases g<;>rfl
def mkM (prev:List Nat) (l:List Edge) (s:Nat):Nat:=l.foldl (fun s e=> @Bool.rec (fun _=>Nat) s (Nat.lor s (Nat.lor (Nat.pow 2 e.on) (prev.getD e.on 0))) (qo e)) s
theorem ahd (prev:List Nat) (t:Nat): ∀(l:List Edge) (s:Nat),(mkM prev l s).testBit t=true↔s.testBit t=true∨ ∃e∈l,qo e=true∧(e.on=t∨(prev.getD e.on 0).testBit t=true)
 | [],s=>by simp[mkM]
 | e ::l,s=>by
  show(mkM prev l (@Bool.rec (fun _=>Nat) s (Nat.lor s (Nat.lor (Nat.pow 2 e.on) (prev.getD e.on 0))) (qo e))).testBit t=true↔_
  rw[ahd prev t l,zN]
  have hor:(Nat.lor s (Nat.lor (Nat.pow 2 e.on) (prev.getD e.on 0))).testBit t=(s.testBit t || (decide (e.on=t) || (prev.getD e.on 0).testBit t)):=by
   show(s ||| ((2^e.on) ||| (prev.getD e.on 0))).testBit t=_
   rw[Nat.testBit_or,Nat.testBit_or,Nat.testBit_two_pow]
  by_cases hb:qo e=true
  ·rw[if_pos hb,hor]
   simp only[Bool.or_eq_true,decide_eq_true_eq]
   constructor
   ·rintro((h|h|h) | ⟨e',h1,h2⟩)
    ·exact .inl h
    ·exact .inr ⟨e,List.mem_cons_self,hb,.inl h⟩
    ·exact .inr ⟨e,List.mem_cons_self,hb,.inr h⟩
    ·exact .inr ⟨e',List.mem_cons_of_mem _ h1,h2⟩
   ·rintro(h| ⟨e',h1,h2,h3⟩)
    ·exact .inl (.inl h)
    ·rcases List.mem_cons.1 h1 with rfl|h1
     ·exact .inl (.inr h3)
     ·exact .inr ⟨e',h1,h2,h3⟩
  ·rw[if_neg hb]
   constructor
   ·rintro(h| ⟨e',h1,h2⟩)
    ·exact .inl h
    ·exact .inr ⟨e',List.mem_cons_of_mem _ h1,h2⟩
   ·rintro(h| ⟨e',h1,h2,h3⟩)
    ·exact .inl h
    ·rcases List.mem_cons.1 h1 with rfl|h1
     ·exact absurd h2 hb
     ·exact .inr ⟨e',h1,h2,h3⟩
theorem kI (o:Oper) (l:List Oper) (a:List Nat):xw (o::l) a=xw l (mkM a.reverse o.after.toList 0::a):=rfl
theorem yW: ∀(l:List Oper) (a:List Nat),(xw l a).take a.length=a.reverse∧(xw l a).length=a.length+l.length
 | [],a=>⟨by show a.reverse.take a.length=_;rw[List.take_of_length_le (by simp)],by show a.reverse.length=_;simp⟩
 | o::l,a=>by
  rw[kI]
  obtain⟨h1,h2⟩:=yW l (mkM a.reverse o.after.toList 0::a)
  constructor
  ·have:=congrArg (List.take a.length) h1
   rw[List.take_take,List.length_cons,Nat.min_eq_left (Nat.le_succ _)]at this
   rw[this,List.reverse_cons,List.take_append_of_le_length (by simp),List.take_of_length_le (by simp)]
  ·rw[h2];simp;omega
theorem Jv: ∀(l:List Oper) (a:List Nat) (j:Nat) (o:Oper),l[j]? =some o→(xw l a)[a.length+j]? =some (mkM ((xw l a).take (a.length+j)) o.after.toList 0)
 | [],a,j,o,h=>by cases h
 |p::l,a,0,o,h=>by
  injection h with h
  subst h
  obtain⟨h1,h2⟩:=yW l (mkM a.reverse p.after.toList 0::a)
  obtain⟨h3,h4⟩:=yW (p::l) a
  rw[Nat.add_zero,h3]
  rw[kI]
  have:=congrArg (fun l=>l[a.length]?) h1
  simp only[List.length_cons]at this
  rw[List.getElem?_take_of_lt (by omega)]at this
  rw[this,List.reverse_cons,List.getElem?_append_right (by simp)]
  simp
 |p::l,a,j+1,o,h=>by
  rw[kI]
  have:=Jv l (mkM a.reverse p.after.toList 0::a) j o h
  rw[List.length_cons,Nat.add_assoc,Nat.add_comm 1 j]at this
  exact this
def waits (ops:List Oper) (j t:Nat):Bool:=tb ((xw ops []).getD j 0) t
def ajV (ops:List Oper):Prop:= ∀j o,ops[j]? =some o→ ∀e∈o.after.toList,qo e=true→e.on<j
theorem jy {ops:List Oper} (hb:ajV ops) {j:Nat} {o:Oper} (ho:ops[j]? =some o) (t:Nat):waits ops j t=true↔ ∃e∈o.after.toList,qo e=true∧(e.on=t∨waits ops e.on t=true):=by
 have h:=Jv ops [] j o ho
 rw[List.length_nil,Nat.zero_add]at h
 unfold waits
 rw[ab7,List.getD_eq_getElem?_getD,h,Option.getD_some,ahd]
 simp only[Nat.zero_testBit,Bool.false_eq_true,false_or]
 constructor
 ·rintro⟨e,h1,h2,h3⟩
  refine⟨e,h1,h2,h3.imp id fun h3=>?_⟩
  rw[ab7,List.getD_eq_getElem?_getD]
  rw[List.getD_eq_getElem?_getD,List.getElem?_take_of_lt (hb j o ho e h1 h2)]at h3
  exact h3
 ·rintro⟨e,h1,h2,h3⟩
  refine⟨e,h1,h2,h3.imp id fun h3=>?_⟩
  rw[ab7,List.getD_eq_getElem?_getD]at h3
  rw[List.getD_eq_getElem?_getD,List.getElem?_take_of_lt (hb j o ho e h1 h2)]
  exact h3
theorem kg {ops:List Oper} (hb:ajV ops): ∀(j t:Nat),waits ops j t=true→t<j:=by
 intro j
 induction j using Nat.strongRecOn with
 | _ j ih=>
  intro t h
  cases ho:ops[j]? with
  |none=>
   unfold waits at h
   have:(xw ops []).length=ops.length:=by rw[(yW ops []).2];simp
   rw[ab7,List.getD_eq_getElem?_getD,List.getElem?_eq_none (by rw[this];exact List.getElem?_eq_none_iff.1 ho)]at h
   simp at h
  |some o=>
   obtain⟨e,h1,h2,h3⟩:=(jy hb ho t).1 h
   have h4:=hb j o ho e h1 h2
   rcases h3 with rfl|h3
   ·exact h4
   ·exact Nat.lt_trans (ih e.on h4 t h3) h4
def ym (ops:List Oper) (L:Nat→Bool):Prop:= ∀j o,ops[j]? =some o→L j=true→ ∀e∈o.after.toList,qo e=true→L e.on=true
theorem ym.waits {ops:List Oper} {L:Nat→Bool} (hb:ajV ops) (hc:ym ops L): ∀(j t:Nat),L j=true→waits ops j t=true→L t=true:=by
 intro j
 induction j using Nat.strongRecOn with
 | _ j ih=>
  intro t hj h
  cases ho:ops[j]? with
  | none=>exact absurd (kg hb j t h) (by
    unfold Kv.waits at h
    have:(xw ops []).length=ops.length:=by rw[(yW ops []).2];simp
    rw[ab7,List.getD_eq_getElem?_getD,List.getElem?_eq_none (by rw[this];exact List.getElem?_eq_none_iff.1 ho)]at h
    simp at h)
  |some o=>
   obtain⟨e,h1,h2,h3⟩:=(jy hb ho t).1 h
   have h4:=hc j o ho hj e h1 h2
   rcases h3 with rfl|h3
   ·exact h4
   ·exact ih e.on (hb j o ho e h1 h2) t h4 h3
def Next (ops:List Oper) (L:Nat→Bool) (j:Nat):Prop:=L j=false∧ ∃o,ops[j]? =some o∧ ∀e∈o.after.toList,qo e=true→L e.on=true
theorem Next.waits {ops:List Oper} {L:Nat→Bool} (hb:ajV ops) (hc:ym ops L) {j t:Nat} (hj:Next ops L j) (h:waits ops j t=true):L t=true:=by
 obtain⟨_,o,ho,hn⟩:=hj
 obtain⟨e,h1,h2,h3⟩:=(jy hb ho t).1 h
 have h4:=hn e h1 h2
 rcases h3 with rfl|h3
 ·exact h4
 ·exact hc.waits hb e.on t h4 h3
end Kv
end
end
section
noncomputable section
namespace Kv
open Go.RowKit
variable {P:Program}
section
variable {S:Sm} {r:RG} {h:HP}
def nsO (o:Oper):List Nat:=(aaN o.op).filter (fun k=>decide (k<512))
theorem Ym (o:Oper): ∀x∈nsO o,x<512:=fun x hx=>by simpa using(List.mem_filter.1 hx).2
theorem vY (o:Oper) (r:RG):YI o.op.operands.toList r (YN (nsO o) r):=ajv fun k hk h5=>by
 rw[Yh _ r k (Ym o) h5,if_pos (show k∈nsO o from List.mem_filter.2 ⟨hk,by simpa using h5⟩)]
inductive vz (P:Program) (ops:List Oper) (o:Oper) (r:RG) (h:HP):AV→HP→Prop
 |no:yl ops o.guard r=false→vz P ops o r h (.tup []) h
 |q:yl ops o.guard r=true→isE o.op=false→isA P o.op=false→(zt P o.op).f r h≠ .un→vz P ops o r h ((zt P o.op).f r h) h
 |a (b:Blk) (v:AV):yl ops o.guard r=true→isE o.op=false→isA P o.op=true→b≠ .dead→AR P o (YN (nsO o) r) h.n b v→vz P ops o r h v (h.push b)
 |e (v:AV) (h':HP):yl ops o.guard r=true→isE o.op=true→ER P (x9 P) o (YN (nsO o) r) h v h'→vz P ops o r h v h'
def LkR (P:Program) (o:Oper) (a b:Nat) (r:RG) (v:AV) (h h':HP) (lk:List Lk):Prop:=isE o.op=false→a≠b→
 (isA P o.op=false→Qf o.op=true→(⟨lkQ (zt P o.op).f r v,a,b⟩:Lk)∈lk)∧(isA P o.op=true→(⟨lkA h.n h',a,b⟩:Lk)∈lk)
theorem aMe (ops:List Oper) (o:Oper) (a b:Nat) (l:List (Oper×Nat×Nat)) (call:Go.Proofs.YtcdiljebkpikbaaGreat.Kv.Call) (vs:List HP) (lk:List Lk) (k:RG→HP→R):
  ∃ F:AV→HP→List Lk,(∀v h',(∀x∈lk,x∈F v h')∧LkR P o a b r v h h' (F v h'))∧
   (kC P S ops ((o,a,b)::l)).f call r h vs lk k=if yl ops o.guard r=true then(YK P S o).f call r h (fun v h'=>(kC P S ops l).f call (Ze o.dst r v) h' (if isE o.op=true then h::vs else vs) (F v h') k)
    else(kC P S ops l).f call (Ze o.dst r (.tup [])) h (if isE o.op=true then h::vs else vs) lk k:=by
 obtain⟨F,hF,e⟩: ∃F:AV→HP→List Lk,(∀v h',(∀x∈lk,x∈F v h')∧LkR P o a b r v h h' (F v h'))∧
   (Y9 P S o a b (kC P S ops l).f).f call r h vs lk k=(YK P S o).f call r h (fun v h'=>(kC P S ops l).f call (Ze o.dst r v) h' (if isE o.op=true then h::vs else vs) (F v h') k):=by
  unfold Y9
  simp only[zl,Qp]
  rw[aor]
  by_cases h1:isE o.op=true
  ·refine⟨fun _ _=>lk,fun v h'=>⟨fun _ hx=>hx,(fun q=>by rw[h1]at q;cases q)⟩,?_⟩
   rw[if_pos h1]
   simp only[h1,if_true]
  ·simp only[h1,if_false]
   by_cases h2:isA P o.op=true
   ·simp only[h2,if_true,zg]
    by_cases hab:a=b
    ·refine⟨fun _ _=>lk,fun v h'=>⟨fun _ hx=>hx,fun _ q=>absurd hab q⟩,?_⟩
     simp only[hab,if_true]
     simp
    ·refine⟨fun _ h'=>⟨lkA h.n h',a,b⟩::lk,fun v h'=>⟨fun _ hx=>List.mem_cons_of_mem _ hx,fun _ _=>⟨(fun q=>by rw[h2]at q;cases q),fun _=>List.mem_cons_self⟩⟩,?_⟩
     simp only[hab,if_false]
     simp
   ·simp only[h2,if_false]
    by_cases hl:Qf o.op=true∧a≠b
    ·refine⟨fun v _=>⟨lkQ (zt P o.op).f r v,a,b⟩::lk,fun v h'=>⟨fun _ hx=>List.mem_cons_of_mem _ hx,fun _ _=>⟨fun _ _=>List.mem_cons_self,fun q=>absurd q h2⟩⟩,?_⟩
     have e1:not (Nat.beq a b)=true:=by
      cases q:Nat.beq a b with
      |true=>exact absurd ((zu _ _).1 q) hl.2
      |false=>rfl
     simp only[zN,hl.1,e1,if_true]
     simp
    ·refine⟨fun v _=>lk,fun v h'=>⟨fun _ hx=>hx,fun _ q=>⟨fun _ q2=>absurd ⟨q2,q⟩ hl,fun q=>absurd q h2⟩⟩,?_⟩
     have e1:(if Qf o.op=true then not (Nat.beq a b)else false)=false:=by
      by_cases q:Qf o.op=true
      ·rw[if_pos q]
       have:a=b:=Classical.byContradiction fun z=>hl ⟨q,z⟩
       rw[(zu _ _).2 this];rfl
      ·rw[if_neg q]
     simp only[zN,e1]
     simp
 refine⟨F,hF,?_⟩
 have e2:kC P S ops ((o,a,b)::l)= @Bx.rec _ (fun _=>Bx DC) (fun g=>(match o.guard with
  |none=>Y9 P S o a b g
  |some _=> @Bx.rec _ (fun _=>Bx DC) (fun f=> @Bx.rec _ (fun _=>Bx DC) (fun w=> @Bx.rec _ (fun _=>Bx DC) (fun s=>⟨fun call r h vs lk k=> @Bool.rec (fun _=>_) (g call (s r (.tup [])) h (@Bool.rec (fun _=>_) vs (h::vs) (isE o.op)) lk k) (f call r h vs lk k) (w r)⟩) (aCt o.dst)) (YQ ops o.guard)) (Y9 P S o a b g))) (kC P S ops l):=rfl
 rw[e2]
 simp only[zl]
 unfold yl
 cases hg:o.guard with
 |none=>
  rw[show(YQ ops none).f r=true from rfl,if_pos rfl]
  exact e
 |some g=>
  simp only[zl,Qp,zN]
  split
  ·exact e
  ·rfl
theorem aML {call:Go.Proofs.YtcdiljebkpikbaaGreat.Kv.Call} (hS:acj P S) (hc:vx P call) (ops:List Oper) (o:Oper) {k:K} {res:AV×HP} (hw:yl ops o.guard r=true) (hf:(YK P S o).f call r h k=some res):
  ∃v h',k v h'=some res∧vz P ops o r h v h':=by
 rw[aai]at hf
 by_cases h1:isE o.op=true
 ·rw[if_pos h1,aMh call o.op (vY o r)]at hf
  obtain⟨v,h',k1,k2⟩:=aSv hS hc o hf
  exact⟨v,h',k1,.e v h' hw h1 k2⟩
 ·have h1':isE o.op=false:=by simpa using h1
  rw[if_neg h1]at hf
  by_cases h2:isA P o.op=true
  ·rw[if_pos h2]at hf
   have hf:(qD P o.op).f r h k=some res:=hf
   rw[aCE o.op (vY o r)]at hf
   obtain⟨b,v,k0,k1,k2⟩:=aSl o hf
   exact⟨v,_,k1,.a b v hw h1' h2 k0 k2⟩
  ·rw[if_neg h2]at hf
   have hf:frc ((zt P o.op).f r h) (fun v=>k v h)=some res:=hf
   obtain⟨hu,k1⟩:=Zm hf
   exact⟨_,_,k1,.q hw h1' (by simpa using h2) hu⟩
def vsL:List (Oper×Nat×Nat)→(Nat→HP)→List HP
 | [],_=>[]
 |x::l,H=>(if isE x.1.op=true then [H 0]else [])++vsL l (fun t=>H (t+1))
structure TrR (P:Program) (ops:List Oper) (pl:List (Oper×Nat×Nat)) (Rr:Nat→RG) (H:Nat→HP) (V:Nat→AV) (lk:List Lk):Prop where
 step: ∀t o a b,pl[t]? =some (o,a,b)→vz P ops o (Rr t) (H t) (V t) (H (t+1))∧Rr (t+1)=Ze o.dst (Rr t) (V t)∧(yl ops o.guard (Rr t)=true→LkR P o a b (Rr t) (V t) (H t) (H (t+1)) lk)
theorem aSs {call:Go.Proofs.YtcdiljebkpikbaaGreat.Kv.Call} (hS:acj P S) (hc:vx P call) (ops:List Oper): ∀(l:List (Oper×Nat×Nat)) (r:RG) (h:HP) (vs:List HP) (lk:List Lk) {k:RG→HP→R} {res:AV×HP},(kC P S ops l).f call r h vs lk k=some res→
  ∃Rr H V lkf,Rr 0=r∧H 0=h∧TrR P ops l Rr H V lkf∧(∀x∈lk,x∈lkf)∧YM (vs.reverse++vsL l H++[H l.length]) lkf=true∧k (Rr l.length) (H l.length)=some res
 | [],r,h,vs,lk,k,res,hf=>by
  have e:(kC P S ops []).f call r h vs lk k= @Bool.rec (fun _=>_) none (k r h) (YM (h::vs).reverse lk):=rfl
  rw[e,zN]at hf
  by_cases hl:YM (h::vs).reverse lk=true
  ·rw[if_pos hl]at hf
   refine⟨fun _=>r,fun _=>h,fun _=> .un,lk,rfl,rfl,⟨fun t o a b q=>by simp at q⟩,fun _ hx=>hx,?_,hf⟩
   rw[List.reverse_cons]at hl
   simpa[vsL]using hl
  ·rw[if_neg hl]at hf;cases hf
 | (o,a,b)::l,r,h,vs,lk,k,res,hf=>by
  obtain⟨F,hF,e⟩:=aMe (P:=P) (S:=S) (r:=r) (h:=h) ops o a b l call vs lk k
  rw[e]at hf
  have fin: ∀v h' lk',vz P ops o r h v h'→(∀x∈lk,x∈lk')→(yl ops o.guard r=true→LkR P o a b r v h h' lk')→(kC P S ops l).f call (Ze o.dst r v) h' (if isE o.op=true then h::vs else vs) lk' k=some res→
    ∃Rr H V lkf,Rr 0=r∧H 0=h∧TrR P ops ((o,a,b)::l) Rr H V lkf∧(∀x∈lk,x∈lkf)∧YM (vs.reverse++vsL ((o,a,b)::l) H++[H ((o,a,b)::l).length]) lkf=true∧k (Rr ((o,a,b)::l).length) (H ((o,a,b)::l).length)=some res:=fun v h' lk' hs hsub hL hf=>by
   obtain⟨Rr,H,V,lkf,e1,e2,e3,e4,e5,e6⟩:=aSs hS hc ops l _ _ _ _ hf
   refine⟨fun t=>Nat.casesOn t r Rr,fun t=>Nat.casesOn t h H,fun t=>Nat.casesOn t v V,lkf,rfl,rfl,⟨fun t o' a' b' ht=>?_⟩,fun x hx=>e4 x (hsub x hx),?_,e6⟩
   ·cases t with
    | zero=>
     injection ht with ht
     injection ht with q1 q2
     injection q2 with q2 q3
     subst q1;subst q2;subst q3
     refine⟨?_,e1,fun hw q1 q2=>?_⟩
     ·show vz P ops o r h v (H 0)
      rw[e2];exact hs
     ·have:=hL hw q1 q2
      show(isA P o.op=false→Qf o.op=true→(⟨lkQ (zt P o.op).f r v,a,b⟩:Lk)∈lkf)∧(isA P o.op=true→(⟨lkA h.n (H 0),a,b⟩:Lk)∈lkf)
      rw[e2]
      exact⟨fun z1 z2=>e4 _ (this.1 z1 z2),fun z1=>e4 _ (this.2 z1)⟩
    |succ t=>exact e3.step t o' a' b' ht
   ·have:vs.reverse++vsL ((o,a,b)::l) (fun t=>Nat.casesOn t h H)++[H l.length]=(if isE o.op=true then h::vs else vs).reverse++vsL l H++[H l.length]:=by
     show vs.reverse++((if isE o.op=true then [h]else [])++vsL l H)++[H l.length]=_
     by_cases q:isE o.op=true
     ·rw[if_pos q,if_pos q];simp
     ·rw[if_neg q,if_neg q];simp
    show YM (vs.reverse++vsL ((o,a,b)::l) (fun t=>Nat.casesOn t h H)++[H l.length]) lkf=true
    rw[this];exact e5
  by_cases hw:yl ops o.guard r=true
  ·rw[if_pos hw]at hf
   obtain⟨v,h',k1,k2⟩:=aML hS hc ops o hw hf
   exact fin v h' (F v h') k2 (hF v h').1 (fun _=>(hF v h').2) k1
  ·rw[if_neg hw]at hf
   exact fin _ _ lk (.no (by simpa using hw)) (fun _ hx=>hx) (fun q=>absurd q hw) hf
end
end Kv
end
end
end Go.Proofs.YtcdiljebkpikbaaGreat
