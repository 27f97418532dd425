/- Parts of the proof: Kws Kwt Kwu Kwv Kww. -/
import Derived.Test.YtcdiljebkpikbaaGreatS08
set_option linter.all false
set_option maxRecDepth 100000
set_option maxHeartbeats 64000000
namespace Go.Proofs.YtcdiljebkpikbaaGreat
section
noncomputable section
namespace Kv
open Go.RowKit
variable {P:Program}
theorem KF {ops:List Oper} (hb:ajV ops): ∀(c b a:Nat),waits ops c b=true→waits ops b a=true→waits ops c a=true:=by
 intro c
 induction c using Nat.strongRecOn with
 | _ c ih=>
  intro b a h1 h2
  cases ho:ops[c]? with
  |none=>
   unfold waits at h1
   have:(xw ops []).length=ops.length:=by rw[(yW ops []).2];simp
   rw[ab7,List.getD_eq_getElem?_getD,List.getElem?_eq_none (by rw[this];exact List.getElem?_eq_none_iff.1 ho)]at h1
   simp at h1
  |some o=>
   obtain⟨e,k1,k2,k3⟩:=(jy hb ho b).1 h1
   refine(jy hb ho a).2 ⟨e,k1,k2,.inr ?_⟩
   rcases k3 with rfl|k3
   ·exact h2
   ·exact ih e.on (hb c o ho e k1 k2) b a k3 h2
def xP (ops:List Oper):List Nat:=(ops.zipIdx.filter (fun (o,_)=>isE o.op)).map (·.2)
structure kT (ops:List Oper):Prop where
 back:ajV ops
 names: ∀(j:Nat) (o:Oper) (i:Nat) (p:Oper) (d:Tmp),ops[j]? =some o→ops[i]? =some p→p.dst=some d→d∈jp ops o→i≠j→if i≤j then waits ops j i=true else waits ops i j=true
 chain: ∀(i j a b:Nat),(xP ops)[i]? =some a→(xP ops)[j]? =some b→i<j→waits ops b a=true
def yT (ops:List Oper) (j:Nat):Nat×Nat:=(((xP ops).filter (waits ops j)).length,((xP ops).filter (fun e=> !(waits ops e j))).length)
theorem Z3: ∀(es ms:List Nat),kB es ms=true→ ∀i a b,es[i]? =some a→es[i+1]? =some b→tb (ms.getD b 0) a=true
 | [],ms,h,i,a,b,h1,_=>by simp at h1
 | [x],ms,h,i,a,b,h1,h2=>by simp at h2
 | x::y::l,ms,h,i,a,b,h1,h2=>by
  have h:(tb (ms.getD y 0) x&&kB (y::l) ms)=true:=h
  rw[Bool.and_eq_true]at h
  cases i with
  |zero=>
   injection h1 with h1;injection h2 with h2
   subst h1;subst h2;exact h.1
  |succ i=>exact Z3 (y::l) ms h.2 i a b h1 h2
theorem aBI {ops:List Oper} {ss:List (Nat×Nat)} (hp:aNz ops=some ss):kT ops∧ss.length=ops.length∧ ∀j,j<ops.length→ss[j]? =some (yT ops j):=by
 have e:aNz ops=bif Qi ops (xw ops [])&&kB (xP ops) (xw ops [])then some (ajB (xw ops []) (xP ops))else none:=rfl
 rw[e]at hp
 have hlen:(xw ops []).length=ops.length:=by rw[(yW ops []).2];simp
 cases hc:Qi ops (xw ops [])&&kB (xP ops) (xw ops [])with
 |false=>rw[hc]at hp;cases hp
 | true=>
  rw[hc]at hp
  injection hp with hp
  rw[Bool.and_eq_true]at hc
  obtain⟨hn,hch⟩:=hc
  have hn: ∀j o,ops[j]? =some o→(o.after.toList.all (fun e=>not (qo e) || Nat.ble (Nat.succ e.on) j)&&ops.zipIdx.all fun (p,i)=>match p.dst with
   |some d=>Nat.beq i j || !(jp ops o).any (Nat.beq d ·) || @Bool.rec (fun _=>Bool) (tb ((xw ops []).getD i 0) j) (tb ((xw ops []).getD j 0) i) (Nat.ble i j)
   |none=>true)=true:=fun j o ho=>by
   unfold Qi at hn
   rw[List.all_eq_true]at hn
   have hjl:j<ops.length:=(List.getElem?_eq_some_iff.1 ho).1
   have hmem:((o,j),(xw ops []).getD j 0)∈ops.zipIdx.zip (xw ops []):=by
    rw[List.mem_iff_getElem?]
    refine⟨j,?_⟩
    rw[List.getElem?_zip_eq_some]
    refine⟨by rw[List.getElem?_zipIdx,ho];simp,?_⟩
    rw[List.getD_eq_getElem?_getD,List.getElem?_eq_getElem (by omega)];rfl
   exact hn _ hmem
  have hback:ajV ops:=fun j o ho e he hb=>by
   have:=hn j o ho
   rw[Bool.and_eq_true]at this
   have:=List.all_eq_true.1 this.1 e he
   rw[hb]at this
   exact(zy _ _).1 (by simpa[not]using this)
  refine⟨⟨hback,fun j o i p d ho hpi hd hm hne=>?_,fun i j a b ha hb hij=>?_⟩,?_,fun j hj=>?_⟩
  ·have:=hn j o ho
   rw[Bool.and_eq_true]at this
   have hz:(p,i)∈ops.zipIdx:=by
    rw[List.mem_iff_getElem?]
    exact⟨i,by rw[List.getElem?_zipIdx,hpi];simp⟩
   have:=List.all_eq_true.1 this.2 (p,i) hz
   simp only[hd]at this
   have h1:Nat.beq i j=false:=by
    cases q:Nat.beq i j with
    |true=>exact absurd ((zu _ _).1 q) hne
    |false=>rfl
   have h2:(jp ops o).any (Nat.beq d ·)=true:=List.any_eq_true.2 ⟨d,hm,(zu _ _).2 rfl⟩
   rw[h1,h2]at this
   simp only[Bool.false_or,Bool.not_true]at this
   rw[zf]at this
   split
   ·next q=>rw[if_pos q]at this;exact this
   ·next q=>rw[if_neg q]at this;exact this
  ·have key: ∀d i a b,(xP ops)[i]? =some a→(xP ops)[i+d+1]? =some b→waits ops b a=true:=by
    intro d
    induction d with
    |zero=>intro i a b ha hb;exact Z3 _ _ hch i a b ha hb
    |succ d ih=>
     intro i a b ha hb
     have hlt:i+d+1<(xP ops).length:=by have:=(List.getElem?_eq_some_iff.1 hb).1;omega
     have hm:=List.getElem?_eq_getElem hlt
     exact KF hback b _ a (Z3 _ _ hch (i+d+1) _ b hm (by rw[←hb];congr 1)) (ih i a _ ha hm)
   exact key (j-i-1) i a b ha (by rw[←hb];congr 1;omega)
  ·rw[←hp];unfold ajB;simp[hlen]
  ·rw[←hp]
   unfold ajB
   have:(xw ops [])[j]? =some ((xw ops []).getD j 0):=by rw[List.getD_eq_getElem?_getD,List.getElem?_eq_getElem (by omega)];rfl
   rw[List.getElem?_map,List.getElem?_zipIdx,this]
   simp only[Option.map_some]
   congr 1
   unfold yT waits
   simp
theorem Z9 {α:Type} (p:α→Bool): ∀(l:List α),(∀(i j:Nat) (a b:α),l[i]? =some a→l[j]? =some b→i<j→p b=true→p a=true)→l.filter p=l.take (l.filter p).length
 | [],_=>rfl
 | x::l,h=>by
  have ih:=Z9 p l fun i j a b h1 h2 h3=>h (i+1) (j+1) a b h1 h2 (by omega)
  by_cases hx:p x=true
  ·rw[List.filter_cons_of_pos hx,List.length_cons,List.take_succ_cons,←ih]
  ·have:l.filter p=[]:=List.filter_eq_nil_iff.2 fun y hy hpy=>by
    obtain⟨i,hi⟩:=List.mem_iff_getElem?.1 hy
    exact hx (h 0 (i+1) x y rfl hi (by omega) hpy)
   rw[List.filter_cons_of_neg hx,this];rfl
theorem yn {α:Type} {p q:α→Bool} : ∀(l:List α),(∀x∈l,p x=true→q x=true)→(l.filter p).length≤(l.filter q).length
 | [],_=>Nat.le_refl _
 | x::l,h=>by
  have ih:=yn l fun y hy=>h y (List.mem_cons_of_mem _ hy)
  by_cases hp:p x=true
  ·rw[List.filter_cons_of_pos hp,List.filter_cons_of_pos (h x List.mem_cons_self hp)]
   exact Nat.succ_le_succ ih
  ·rw[List.filter_cons_of_neg hp]
   by_cases hq:q x=true
   ·rw[List.filter_cons_of_pos hq];exact Nat.le_succ_of_le ih
   ·rw[List.filter_cons_of_neg hq];exact ih
theorem xt {α:Type} {p q:α→Bool} : ∀(l:List α),(∀x∈l,p x=true→q x=true)→(l.filter p).length=(l.filter q).length→ ∀x∈l,q x=true→p x=true
 | [],_,_=>fun x hx=>by cases hx
 | x::l,h,e=>by
  have hm:=yn l fun y hy=>h y (List.mem_cons_of_mem _ hy)
  have hl: ∀y∈l,p y=true→q y=true:=fun y hy=>h y (List.mem_cons_of_mem _ hy)
  intro y hy hqy
  by_cases hp:p x=true
  ·rw[List.filter_cons_of_pos hp,List.filter_cons_of_pos (h x List.mem_cons_self hp),List.length_cons,List.length_cons]at e
   rcases List.mem_cons.1 hy with rfl|hy
   ·exact hp
   ·exact xt l hl (by omega) y hy hqy
  ·rw[List.filter_cons_of_neg hp]at e
   by_cases hq:q x=true
   ·rw[List.filter_cons_of_pos hq,List.length_cons]at e;omega
   ·rw[List.filter_cons_of_neg hq]at e
    rcases List.mem_cons.1 hy with rfl|hy
    ·exact absurd hqy hq
    ·exact xt l hl e y hy hqy
theorem jB {ops:List Oper} {e:Nat} :e∈xP ops↔ ∃o,ops[e]? =some o∧isE o.op=true:=by
 unfold xP
 rw[List.mem_map]
 constructor
 ·rintro⟨⟨o,i⟩,h1,rfl⟩
  obtain⟨h2,h3⟩:=List.mem_filter.1 h1
  obtain⟨k,hk⟩:=List.mem_iff_getElem?.1 h2
  rw[List.getElem?_zipIdx]at hk
  cases hq:ops[k]? with
  |none=>rw[hq]at hk;cases hk
  |some p=>
   rw[hq]at hk
   simp only[Option.map_some,Option.some.injEq,Prod.mk.injEq]at hk
   obtain⟨rfl,rfl⟩:=hk
   exact⟨p,by simpa using hq,h3⟩
 ·rintro⟨o,h1,h2⟩
  refine⟨(o,e),List.mem_filter.2 ⟨?_,h2⟩,rfl⟩
  rw[List.mem_iff_getElem?]
  exact⟨e,by rw[List.getElem?_zipIdx,h1];simp⟩
theorem Xu (p:Oper×Nat→Bool): ∀(l:List Oper) (n:Nat),((l.zipIdx n).filter p).map (·.2)=((l.zipIdx n).filter p).map (·.2)∧List.Pairwise (· < ·) (((l.zipIdx n).filter p).map (·.2))∧ ∀e∈((l.zipIdx n).filter p).map (·.2),n≤e
 | [],n=>⟨rfl,.nil,fun e he=>by simp at he⟩
 | o::l,n=>by
  obtain⟨_,h1,h2⟩:=Xu p l (n+1)
  refine⟨rfl,?_,fun e he=>?_⟩
  ·rw[List.zipIdx_cons]
   by_cases hp:p (o,n)=true
   ·rw[List.filter_cons_of_pos hp,List.map_cons]
    exact .cons (fun e he=>by have:=h2 e he;show n<e;omega) h1
   ·rw[List.filter_cons_of_neg hp];exact h1
  ·rw[List.zipIdx_cons]at he
   by_cases hp:p (o,n)=true
   ·rw[List.filter_cons_of_pos hp,List.map_cons]at he
    rcases List.mem_cons.1 he with rfl|he
    ·exact Nat.le_refl _
    ·have:=h2 e he;omega
   ·rw[List.filter_cons_of_neg hp]at he
    have:=h2 e he;omega
theorem aiP {ops:List Oper} {i j a b:Nat} (ha:(xP ops)[i]? =some a) (hb:(xP ops)[j]? =some b):i<j↔a<b:=by
 have hs:List.Pairwise (· < ·) (xP ops):=(Xu (fun (o,_)=>isE o.op) ops 0).2.1
 have key: ∀i j a b,(xP ops)[i]? =some a→(xP ops)[j]? =some b→i<j→a<b:=fun i j a b ha hb hij=>by
  obtain⟨h1,h2⟩:=List.getElem?_eq_some_iff.1 ha
  obtain⟨h3,h4⟩:=List.getElem?_eq_some_iff.1 hb
  rw[←h2,←h4]
  exact List.pairwise_iff_getElem.1 hs i j h1 h3 hij
 constructor
 ·exact key i j a b ha hb
 ·intro h
  rcases Nat.lt_trichotomy i j with q|q|q
  ·exact q
  ·subst q;rw[ha]at hb;injection hb with hb;omega
  ·have:=key j i b a hb ha q;omega
theorem aoq: ∀(l:List (Oper×Nat×Nat)) (H:Nat→HP) (n:Nat),vsL l (fun t=>H (n+t))=((((l.map (·.1)).zipIdx n).filter (fun (o,_)=>isE o.op)).map (·.2)).map H
 | [],H,n=>rfl
 |x::l,H,n=>by
  have ih:=aoq l H (n+1)
  have e:(fun t=>H (n+(t+1)))=fun t=>H (n+1+t):=funext fun t=>by rw[Nat.add_assoc,Nat.add_comm 1]
  unfold vsL
  rw[e,ih,List.map_cons,List.zipIdx_cons]
  by_cases q:isE x.1.op=true
  ·rw[if_pos q,List.filter_cons_of_pos (by exact q)];rfl
  ·rw[if_neg q,List.filter_cons_of_neg (by exact q)];rfl
theorem Qe {x:Lk} : ∀(vs:List HP) (n:Nat),aiq vs n x=true→ ∀m h,vs[m]? =some h→x.a≤n+m→n+m≤x.b→x.t h=true
 | [],n,_,m,h,hm,_,_=>by simp at hm
 | g::vs,n,hk,m,h,hm,h1,h2=>by
  have hk: @Bool.rec (fun _=>Bool) (aiq vs (n+1) x) (@Bool.rec (fun _=>Bool) false (aiq vs (n+1) x) (x.t g)) (@Bool.rec (fun _=>Bool) false (Nat.ble n x.b) (Nat.ble x.a n))=true:=hk
  have tail:aiq vs (n+1) x=true:=by
   generalize (@Bool.rec (fun _=>Bool) false (Nat.ble n x.b) (Nat.ble x.a n))=c at hk
   cases c with
   |false=>exact hk
   |true=>
    have hk: @Bool.rec (fun _=>Bool) false (aiq vs (n+1) x) (x.t g)=true:=hk
    cases q:x.t g with
    |true=>rw[q]at hk;exact hk
    |false=>rw[q]at hk;cases hk
  cases m with
  |zero=>
   injection hm with hm
   subst hm
   rw[(zy _ _).2 (show x.a≤n from h1),(zy _ _).2 (show n≤x.b from h2)]at hk
   have hk: @Bool.rec (fun _=>Bool) false (aiq vs (n+1) x) (x.t g)=true:=hk
   cases q:x.t g with
   |true=>rfl
   |false=>rw[q]at hk;cases hk
  |succ m=>exact Qe vs (n+1) tail m h hm (by omega) (by omega)
theorem Yf {vs:List HP} {x:Lk} : ∀(l:List Lk),YM vs l=true→x∈l→aiq vs 0 x=true
 | [],_,hx=>by cases hx
 | y::l,h,hx=>by
  unfold YM at h
  rw[zN]at h
  split at h
  ·next q=>
   rcases List.mem_cons.1 hx with rfl|hx
   ·exact q
   ·exact Yf l h hx
  ·cases h
end Kv
end
end
section
noncomputable section
namespace Kv
open Go.RowKit
variable {P:Program}
theorem Xc {f:AV→AV→Bool} (hf: ∀a b,f a b=true→a=b): ∀(l m:List AV),eqL f l m=true→l=m
 | [],[],_=>rfl
 | [],b::m,h=>by cases h
 |a::l,[],h=>by cases h
 |a::l,b::m,h=>by
  have h:(f a b&&eqL f l m)=true:=h
  rw[Bool.and_eq_true]at h
  rw[hf a b h.1,Xc hf l m h.2]
theorem Jj: ∀(n:Nat) (a b:AV),eqA n a b=true→a=b
 |0,_,_,h=>by cases h
 | n+1,a,b,h=>by
  have ih:=Jj n
  unfold eqA at h
  split at h
  all_goals try simp only[Bool.and_eq_true,zu]at h
  case h_1 x y=>cases x<;>cases y<;>first |rfl| (cases h;done)
  case h_2=>obtain⟨rfl,rfl⟩:=h;rfl
  case h_3=>rw[h]
  case h_4=>obtain⟨rfl,rfl⟩:=h;rfl
  case h_5=>obtain⟨rfl,rfl⟩:=h;rfl
  case h_6=>rfl
  case h_7=>obtain⟨⟨⟨rfl,rfl⟩,rfl⟩,rfl⟩:=h;rfl
  case h_8=>obtain⟨⟨⟨rfl,rfl⟩,rfl⟩,rfl⟩:=h;rfl
  case h_9=>rfl
  case h_10=>rfl
  case h_11=>rfl
  case h_12=>rfl
  case h_13=>obtain⟨rfl,rfl⟩:=h;rfl
  case h_14=>rw[Xc ih _ _ h]
  case h_15=>rw[Xc ih _ _ h]
  case h_16=>
   obtain⟨⟨rfl,h1⟩,h2⟩:=h
   rw[Xc ih _ _ h1,Xc ih _ _ h2]
  case h_17=>cases h
theorem agC: ∀(s t:RT AV),eqT s t=true→s=t
 | .l a,.l b,h=>by rw[Jj 4 a b h]
 | .l a,.n _ _ _,h=>by cases h
 | .n _ _ _,.l _,h=>by cases h
 | .n m x y,.n k z u,h=>by
  have h: @Bool.rec (fun _=>Bool) false (@Bool.rec (fun _=>Bool) false (eqT y u) (eqT x z)) (Nat.beq m k)=true:=h
  obtain⟨h1,h2⟩:=zq h
  obtain⟨h3,h4⟩:=zq h2
  rw[(zu _ _).1 h1,agC x z h3,agC y u h4]
theorem anR (a b:Blk) (h:eqB a b=true):a=b:=by
 cases a<;>cases b<;>first | (cases h;done) |skip
 case row.row u n s v m t=>
  have h: @Bool.rec (fun _=>Bool) false (@Bool.rec (fun _=>Bool) false (eqT s t) (Nat.beq n m)) (Nat.beq u v)=true:=h
  obtain⟨h1,h2⟩:=zq h
  obtain⟨h3,h4⟩:=zq h2
  rw[(zu _ _).1 h1,(zu _ _).1 h3,agC s t h4]
 case by.by l x m y=>
  have h: @Bool.rec (fun _=>Bool) false (Nat.beq x y) (Nat.beq l m)=true:=h
  obtain⟨h1,h2⟩:=zq h
  rw[(zu _ _).1 h1,(zu _ _).1 h2]
 case si.si l x p m y q=>
  have h: @Bool.rec (fun _=>Bool) false (@Bool.rec (fun _=>Bool) false (Nat.beq p q) (Nat.beq x y)) (Nat.beq l m)=true:=h
  obtain⟨h1,h2⟩:=zq h
  obtain⟨h3,h4⟩:=zq h2
  rw[(zu _ _).1 h1,(zu _ _).1 h3,(zu _ _).1 h4]
def xW (h:HP) (l:List Blk):HP:=l.foldl HP.push h
theorem jJ: ∀(l:List Blk) (h:HP),(xW h l).n=h.n+l.length
 | [],h=>rfl
 |b::l,h=>by
  show(xW (h.push b) l).n=_
  rw[jJ l,HP.push_n,List.length_cons];omega
theorem vT: ∀(l:List Blk) (h:HP),h.wf→(xW h l).wf
 | [],h,hw=>hw
 |b::l,h,hw=>vT l _ (HP.push_wf b hw)
theorem jI: ∀(l:List Blk) (h:HP),h.wf→ ∀i,i<h.n→(xW h l).get i=h.get i
 | [],h,_,i,_=>rfl
 |b::l,h,hw,i,hi=>by
  show(xW (h.push b) l).get i=_
  rw[jI l _ (HP.push_wf b hw) i (by rw[HP.push_n];omega),HP.get_push b hw,if_neg (by omega)]
theorem qJ: ∀(l:List Blk) (h:HP),h.wf→ ∀i,(xW h l).get (h.n+i)=(l[i]?).getD .dead
 | [],h,hw,i=>HP.get_dead (Nat.le_add_right _ _)
 |b::l,h,hw,0=>by
  show(xW (h.push b) l).get h.n=_
  rw[jI l _ (HP.push_wf b hw) _ (by rw[HP.push_n];omega),HP.get_push b hw,if_pos rfl];rfl
 |b::l,h,hw,i+1=>by
  show(xW (h.push b) l).get (h.n+(i+1))=_
  have:=qJ l (h.push b) (HP.push_wf b hw) i
  rw[HP.push_n,Nat.add_right_comm]at this
  exact this
def adB (ops:List Oper) (H:Nat→HP) (t:Nat):List Blk:=match ops[t]? with
 |some o=>if isE o.op=true then List.replicate ((H (t+1)).n- (H t).n) .dead else if(H (t+1)).n=(H t).n then []else [(H (t+1)).get (H t).n]
 |none=>[]
def tlB (ops:List Oper) (H:Nat→HP):Nat→Nat→List Blk
 |0,_=>[]
 |k+1,t=>adB ops H t++tlB ops H k (t+1)
def GG (ops:List Oper) (H:Nat→HP) (t:Nat):HP:=xW (H t) (tlB ops H (ops.length-t) t)
section
variable {ops:List Oper} {H:Nat→HP} {Rr:Nat→RG} {V:Nat→AV}
structure HS (P:Program) (ops:List Oper) (Rr:Nat→RG) (H:Nat→HP) (V:Nat→AV):Prop where
 wf: ∀t,t≤ops.length→(H t).wf
 low: ∀t,t≤ops.length→ ∀i,aim (H t).n ((H t).get i)
 mono: ∀t,t<ops.length→(H t).n≤(H (t+1)).n
 reg: ∀t,t≤ops.length→ ∀k,k<512→aNJ (H t).n (xj (Rr t) k)
 step: ∀t o,ops[t]? =some o→vz P ops o (Rr t) (H t) (V t) (H (t+1))∧Rr (t+1)=Ze o.dst (Rr t) (V t)
theorem HS.le (hs:HS P ops Rr H V): ∀(d t:Nat),t+d≤ops.length→(H t).n≤(H (t+d)).n
 |0,_,_=>Nat.le_refl _
 |d+1,t,h=>Nat.le_trans (hs.mono t (by omega)) (by have:=hs.le d (t+1) (by omega);rwa[Nat.add_right_comm]at this)
theorem HS.le' (hs:HS P ops Rr H V) {s t:Nat} (h:s≤t) (ht:t≤ops.length):(H s).n≤(H t).n:=by
 have:=hs.le (t-s) s (by omega)
 rwa[show s+(t-s)=t by omega]at this
theorem acf:GG ops H ops.length=H ops.length:=by unfold GG;rw[Nat.sub_self];rfl
theorem q9 {t:Nat} (ht:t<ops.length):GG ops H t=xW (xW (H t) (adB ops H t)) (tlB ops H (ops.length- (t+1)) (t+1)):=by
 unfold GG
 obtain⟨k,hk⟩: ∃k,ops.length-t=k+1:=⟨ops.length-t-1,by omega⟩
 rw[hk,show ops.length- (t+1)=k by omega]
 show(adB ops H t++tlB ops H k (t+1)).foldl HP.push (H t)=_
 rw[List.foldl_append];rfl
theorem KI (hs:HS P ops Rr H V) {t:Nat} {o:Oper} (ho:ops[t]? =some o) (he:isE o.op=false):GG ops H t=GG ops H (t+1):=by
 have ht:=(List.getElem?_eq_some_iff.1 ho).1
 rw[q9 ht]
 have hsr:=(hs.step t o ho).1
 have hwf:=hs.wf t (by omega)
 have e:adB ops H t=if(H (t+1)).n=(H t).n then []else [(H (t+1)).get (H t).n]:=by
  unfold adB
  rw[ho]
  simp only[he,Bool.false_eq_true,if_false]
 have:xW (H t) (adB ops H t)=H (t+1):=by
  rw[e]
  generalize V t=v at hsr
  generalize hq:H (t+1)=h' at hsr⊢
  cases hsr with
  |no _=>rw[if_pos rfl];rfl
  |q _ _ _ _=>rw[if_pos rfl];rfl
  |a b v _ _ _ _ _=>
   rw[if_neg (by rw[HP.push_n];omega),HP.get_push b hwf,if_pos rfl];rfl
  |e v h' _ q _=>rw[he]at q;cases q
 rw[this];rfl
theorem acl (hs:HS P ops Rr H V) {t:Nat} (ht:t<ops.length):(H t).n+(adB ops H t).length=(H (t+1)).n:=by
 have hm:=hs.mono t ht
 obtain⟨o,ho⟩: ∃o,ops[t]? =some o:=⟨_,List.getElem?_eq_getElem ht⟩
 unfold adB
 rw[ho]
 simp only
 split
 ·simp;omega
 ·next he=>
  split
  ·next q=>rw[q];rfl
  ·next q=>
   have hsr:=(hs.step t o ho).1
   generalize V t=v at hsr
   generalize hq:H (t+1)=h' at hsr q⊢
   cases hsr with
   |no _=>exact absurd rfl q
   |q _ _ _ _=>exact absurd rfl q
   |a b v _ _ _ _ _=>rw[HP.push_n];rfl
   |e v h' _ z _=>exact absurd z he
theorem aCv (hs:HS P ops Rr H V): ∀(k t:Nat),t+k=ops.length→(GG ops H t).n=(H ops.length).n
 |0,t,h=>by rw[show t=ops.length from h,acf]
 |k+1,t,h=>by
  have ih:=aCv hs k (t+1) (by omega)
  have ht:t<ops.length:=by omega
  rw[q9 ht,jJ,jJ,acl hs ht,←jJ]
  exact ih
theorem aCw (hs:HS P ops Rr H V) {t:Nat} (h:t≤ops.length):(GG ops H t).wf:=vT _ _ (hs.wf t h)
theorem vy (hs:HS P ops Rr H V) {t:Nat} (h:t≤ops.length) {i:Nat} (hi:i<(H t).n):(GG ops H t).get i=(H t).get i:=jI _ _ (hs.wf t h) i hi
theorem Xv (hs:HS P ops Rr H V) {t:Nat} (ht:t<ops.length) {i:Nat} (hi:(H (t+1)).n≤i):(GG ops H t).get i=(GG ops H (t+1)).get i:=by
 have hl:=acl hs ht
 rw[q9 ht]
 have hw:=hs.wf t (by omega)
 have e1:=qJ (tlB ops H (ops.length- (t+1)) (t+1)) (xW (H t) (adB ops H t)) (vT _ _ hw) (i- (H (t+1)).n)
 have e2:=qJ (tlB ops H (ops.length- (t+1)) (t+1)) (H (t+1)) (hs.wf (t+1) (by omega)) (i- (H (t+1)).n)
 rw[jJ,hl,show(H (t+1)).n+(i- (H (t+1)).n)=i by omega]at e1
 rw[show(H (t+1)).n+(i- (H (t+1)).n)=i by omega]at e2
 rw[e1]
 exact e2.symm
theorem QM (hs:HS P ops Rr H V): ∀(d t:Nat) {i:Nat},t+d≤ops.length→(H (t+d)).n≤i→(GG ops H t).get i=(GG ops H (t+d)).get i
 |0,_,_,_,_=>rfl
 |d+1,t,i,h,hi=>by
  have h1:=hs.le d (t+1) (by omega)
  rw[show t+1+d=t+(d+1)by omega]at h1
  rw[Xv hs (by omega) (Nat.le_trans h1 hi)]
  have:=QM hs d (t+1) (i:=i) (by omega) (by rw[show t+1+d=t+(d+1)by omega];exact hi)
  rw[show t+1+d=t+(d+1)by omega]at this
  exact this
theorem YR (hs:HS P ops Rr H V): ∀(d t:Nat),t+d≤ops.length→(∀e o,t≤e→e<t+d→ops[e]? =some o→isE o.op=false)→GG ops H t=GG ops H (t+d)
 |0,_,_,_=>rfl
 |d+1,t,h,hq=>by
  obtain⟨o,ho⟩: ∃o,ops[t]? =some o:=⟨_,List.getElem?_eq_getElem (by omega)⟩
  rw[KI hs ho (hq t o (Nat.le_refl _) (by omega) ho)]
  have:=YR hs d (t+1) (by omega) fun e o h1 h2 h3=>hq e o (by omega) (by omega) h3
  rw[show t+1+d=t+(d+1)by omega]at this
  exact this
theorem JV (hs:HS P ops Rr H V): ∀(k t:Nat),t+k=ops.length→ ∀i,aim (H ops.length).n ((GG ops H t).get i)
 |0,t,h,i=>by rw[show t=ops.length from h,acf];exact hs.low _ (Nat.le_refl _) i
 | k + 1,t,h,i=>by
  have ih:=JV hs k (t+1) (by omega) i
  have ht:t<ops.length:=by omega
  have hn:=hs.le' (s:=t+1) (t:=ops.length) (by omega) (Nat.le_refl _)
  rcases Nat.lt_or_ge i (H t).n with h1|h1
  ·rw[vy hs (by omega) h1]
   exact(hs.low t (by omega) i).mono (Nat.le_trans (hs.mono t ht) hn)
  ·rcases Nat.lt_or_ge i (H (t+1)).n with h2|h2
   ·have hl:=acl hs ht
    have hw:=hs.wf t (by omega)
    have e1:(GG ops H t).get i=(xW (H t) (adB ops H t)).get i:=by
     rw[q9 ht,jI _ _ (vT _ _ hw) i (by rw[jJ];omega)]
    have e2:=qJ (adB ops H t) (H t) hw (i- (H t).n)
    rw[show(H t).n+(i- (H t).n)=i by omega]at e2
    rw[e1,e2]
    obtain⟨o,ho⟩: ∃o,ops[t]? =some o:=⟨_,List.getElem?_eq_getElem ht⟩
    have hcase: ∀x,x∈adB ops H t→aim (H ops.length).n x:=fun x hx=>by
     unfold adB at hx
     rw[ho]at hx
     simp only at hx
     split at hx
     ·rw[(List.mem_replicate.1 hx).2];exact .inl rfl
     ·split at hx
      ·cases hx
      ·rw[List.mem_singleton.1 hx]
       exact(hs.low (t+1) (by omega) _).mono hn
    cases hx:(adB ops H t)[i- (H t).n]? with
    |none=>exact .inl rfl
    |some x=>exact hcase x (List.mem_of_getElem? hx)
   ·rw[Xv hs ht h2];exact ih
def Zk (ops:List Oper) (Rr:Nat→RG) (V:Nat→AV) (L:Nat→Bool):Nat→RG
 |0=>Rr 0
 |t+1=>if L t=true then Ze ((ops[t]?).bind (·.dst)) (Zk ops Rr V L t) (V t)else Zk ops Rr V L t
theorem xX {dst:Option Tmp} {r:RG} {v:AV} {k:Nat} (hd: ∀d,dst=some d→d<512) (hk:k<512):xj (Ze dst r v) k=if dst=some k then v else xj r k:=by
 cases dst with
 |none=>rw[if_neg (by simp)];rfl
 |some d=>
  show xj (ajz r d v) k=_
  rw[vK hk (hd d rfl)]
  by_cases e:k=d
  ·subst e;rw[if_pos rfl,if_pos rfl]
  ·rw[if_neg e,if_neg (fun h=>e (by injection h with h;exact h.symm))]
theorem abV {dst:Option Tmp} {r r':RG} {v:AV} {k:Nat} (hd: ∀d,dst=some d→d<512) (hk:k<512) (h:xj r k=xj r' k):xj (Ze dst r v) k=xj (Ze dst r' v) k:=by
 rw[xX hd hk,xX hd hk,h]
end
end Kv
end
end
section
noncomputable section
namespace Kv
open Go.RowKit
variable {P:Program}
section
variable {ρ:Ren} {w:World} {h:HP} {r:RG} {a:Act}
theorem aji (l:List Nat) (a:Act) (dst:Option Tmp) (v1 v':Value) (d1 ds:List Deferred) (e:({ Qg l a with defers:=d1 } :Act).put dst v1=({ Qg l a with defers:=ds } :Act).put dst v'):({ a with defers:=d1 } :Act).put dst v1=({ a with defers:=ds } :Act).put dst v':=by
 have hd:d1=ds:=by
  have:=congrArg Act.defers e
  rwa[yF,yF]at this
 subst hd
 cases dst with
 |none=>rfl
 | some d=>
  have ht:(Zj l a.tmps).setIfInBounds d v1=(Zj l a.tmps).setIfInBounds d v':=congrArg Act.tmps e
  have hz:(Zj l a.tmps).size=a.tmps.size:=by simp[Zj]
  show({ tmps:=a.tmps.setIfInBounds d v1,defers:=d1 } :Act)= { tmps:=a.tmps.setIfInBounds d v',defers:=d1 }
  rcases Nat.lt_or_ge d a.tmps.size with h|h
  ·have hlt:d<(Zj l a.tmps).size:=by rw[hz];exact h
   have this:((Zj l a.tmps).setIfInBounds d v1)[d]? =((Zj l a.tmps).setIfInBounds d v')[d]? :=by rw[ht]
   rw[Array.getElem?_setIfInBounds_self_of_lt hlt,Array.getElem?_setIfInBounds_self_of_lt hlt]at this
   injection this with this
   rw[this]
  ·rw[Array.setIfInBounds_eq_of_size_le h,Array.setIfInBounds_eq_of_size_le h]
theorem Yi {o:Oper} (hs:a.tmps.size≤512): ∀x∈o.op.operands,(Qg (nsO o) a).eval x=a.eval x:=fun x hx=>by
 cases x with
 | tmp t=>
  have e1: ∀b:Act,b.eval (.tmp t)=b.tmps.getD t undef:=fun b=>rfl
  rw[e1,e1]
  show(Zj (nsO o) a.tmps).getD t undef=_
  rw[Ju]
  rcases Nat.lt_or_ge t 512 with h|h
  ·rw[if_pos (show t∈nsO o from List.mem_filter.2 ⟨Xf hx,by simpa using h⟩)]
  ·split
   ·rfl
   ·rw[Array.getD_eq_getD_getElem?,Array.getElem?_eq_none (by omega)];rfl
 |const v=>rfl
 |global g=>rfl
 |func f=>rfl
theorem erM {o:Oper} {v:AV} {h':HP} (hsel: ∀cs b,o.op≠ .select cs b) (E:ER P (x9 P) o (YN (nsO o) r) h v h') (hs:a.tmps.size≤512) (hv: ∀k∈nsO o,VR ρ (xj r k) (a.tmps.getD k undef)) (hr:HR ρ h w) (hI:x9 P a.defers)
  {next:Act→World→Prop} {Q:Exit→Act→World→Prop} (hn: ∀ρ' v' w' ds,Ext ρ h w ρ' h' w'→VR ρ' v v'→x9 P ds→next (({ a with defers:=ds } :Act).put o.dst v') w'):o.wp P a w next Q:=by
 have h1:=E ρ (Qg (nsO o) a) w (fun a1 w1=> ∃ρ' v' ds,Ext ρ h w ρ' h' w1∧VR ρ' v v'∧x9 P ds∧a1=({ Qg (nsO o) a with defers:=ds } :Act).put o.dst v') (fun _ _ _=>False) (Kj (Ym o) hv) hr hI
  (fun ρ' v' w' ds x hv hI=>⟨ρ',v',ds,x,hv,hI,rfl⟩)
 have conv: ∀v1 d1 w1,(∃ρ' v' ds,Ext ρ h w ρ' h' w1∧VR ρ' v v'∧x9 P ds∧({ Qg (nsO o) a with defers:=d1 } :Act).put o.dst v1=({ Qg (nsO o) a with defers:=ds } :Act).put o.dst v')→next (({ a with defers:=d1 } :Act).put o.dst v1) w1:=fun v1 d1 w1 hx=>by
  obtain⟨ρ',v',ds,x,k1,k2,e⟩:=hx
  rw[aji _ a o.dst v1 v' d1 ds e]
  exact hn ρ' v' w1 ds x k1 k2
 unfold Oper.wp at h1⊢
 rw[execOp_congr o hsel (Yi hs)]at h1
 generalize (execOp a.eval o).run P w=x at h1⊢
 cases x with
 |halt y w'=>cases y<;>exact h1.elim
 | ok n w'=>
  cases n<;>first |exact h1.elim|skip
  case value v1=>exact conv v1 a.defers w' h1
  case skip=>exact conv undef a.defers w' h1
  case defer d=>exact conv undef (d::a.defers) w' h1
  case enter f args=>
   refine Calls.mono h1 fun e w'' he=>?_
   cases e with
   |returned v1=>exact conv v1 a.defers w'' he
   |panicked c=>exact he.elim
   |outgrown=>obtain⟨_,_,q⟩:=he;exact q.elim
  case row f args=>exact Rows.mono h1 fun v1 w'' he=>conv v1 a.defers w'' he
theorem aSh {o:Oper} {next:Act→World→Prop} (h1:o.wp P a w next (fun _ _ _=>False)): ∃a' w',next a' w':=by
 unfold Oper.wp at h1
 generalize (execOp a.eval o).run P w=x at h1
 cases x with
 |halt y w'=>cases y<;>exact h1.elim
 | ok n w'=>
  cases n<;>first |exact h1.elim|skip
  case value v1=>exact⟨_,_,h1⟩
  case skip=>exact⟨_,_,h1⟩
  case defer d=>exact⟨_,_,h1⟩
  case enter f args=>
   obtain⟨e,w'',_,he,_⟩:=h1 []
   cases e with
   |returned v1=>exact⟨_,_,he⟩
   |panicked c=>exact he.elim
   |outgrown=>obtain⟨_,_,q⟩:=he;exact q.elim
  case row f args=>
   obtain⟨v1,w'',he,_⟩:=h1 default []
   exact⟨_,_,he⟩
theorem xB {o:Oper} (h:isE o.op=true∨isA P o.op=true∨ ∃r h,(zt P o.op).f r h≠ .un): ∀cs b,o.op≠ .select cs b:=fun cs b e=>by
 rcases h with h|h| ⟨r,g,h⟩
 ·rw[e]at h;cases h
 ·rw[e]at h;cases h
 ·rw[e]at h;exact h rfl
theorem vz.er {ops:List Oper} {o:Oper} {v:AV} {h':HP} (s:vz P ops o r h v h') (hw:yl ops o.guard r=true):ER P (x9 P) o (YN (nsO o) r) h v h'∧ ∀cs b,o.op≠ .select cs b:=by
 cases s with
 |no q=>rw[hw]at q;cases q
 |q _ _ _ hu=>
  refine⟨?_,xB (.inr (.inr ⟨r,h,hu⟩))⟩
  have e:=aob (P:=P) o.op (vY o r) h
  rw[e]at hu⊢
  exact .of_q hu
 |a b v _ _ k _ A=>exact⟨.of_a A,xB (.inr (.inl k))⟩
 |e v h' _ k E=>exact⟨E,xB (P:=P) (.inl k)⟩
theorem aNG {ops:List Oper} {N:Nat} (s:St P ρ N r h a w) (hd: ∀o∈ops,∀d,o.dst=some d→d<N∧d<512) (o:Oper):yl ops o.guard r=Region.wanted o (yielded ops.toArray a.tmps):=
 Zw s.rr (fun o ho d e=>⟨by rw[s.sz];exact(hd o ho d e).1,(hd o ho d e).2⟩) o
theorem ka {ops:List Oper} {Rr:Nat→RG} {H:Nat→HP} {V:Nat→AV} {N:Nat} (hN:N≤512) (hd: ∀o∈ops,∀d,o.dst=some d→d<N∧d<512)
  (hs: ∀t o,ops[t]? =some o→vz P ops o (Rr t) (H t) (V t) (H (t+1))∧Rr (t+1)=Ze o.dst (Rr t) (V t)) (s0:St P ρ N (Rr 0) (H 0) a w): ∀t,t≤ops.length→(∃ρ a w,St P ρ N (Rr t) (H t) a w)∧(0<t→(H (t-1)).n≤(H t).n)
 |0,_=>⟨⟨ρ,a,w,s0⟩,fun h=>absurd h (by omega)⟩
 | t +1,ht=>by
  obtain⟨⟨ρ1,a1,w1,s1⟩,_⟩:=ka hN hd hs s0 t (by omega)
  obtain⟨o,ho⟩: ∃o,ops[t]? =some o:=⟨_,List.getElem?_eq_getElem (by omega)⟩
  obtain⟨k1,k2⟩:=hs t o ho
  have hdo:=hd o (List.mem_of_getElem? ho)
  rw[k2]
  by_cases hw:yl ops o.guard (Rr t)=true
  ·obtain⟨E,hsel⟩:=k1.er hw
   have hwp:o.wp P a1 w1 (fun a' w'=> ∃ρ',Ext ρ1 (H t) w1 ρ' (H (t+1)) w'∧St P ρ' N (Ze o.dst (Rr t) (V t)) (H (t+1)) a' w') (fun _ _ _=>False):=
    erM hsel E (by rw[s1.sz];exact hN) (fun k hk=>s1.rr k (Ym o k hk)) s1.hr s1.df fun ρ' v' w' ds x hv hI=>
     ⟨ρ',x,RR.put (a:=({ a1 with defers:=ds } :Act)) (fun k hk=>(s1.rr k hk).mono x.le) hv (fun d e=>⟨by show d<a1.tmps.size;rw[s1.sz];exact(hdo d e).1,(hdo d e).2⟩),by rw[jK];exact s1.sz,x.hr,by rw[yF];exact hI⟩
   obtain⟨a2,w2,ρ2,x2,s2⟩:=aSh hwp
   exact⟨⟨ρ2,a2,w2,s2⟩,fun _=>x2.n⟩
  ·generalize hv:V t=v at k1⊢
   generalize hq:H (t+1)=h' at k1⊢
   cases k1 with
   |no q=>exact⟨⟨ρ1,_,w1,s1.skip hdo⟩,fun _=>by rw[Nat.add_sub_cancel];omega⟩
   |q q _ _ _=>exact absurd q hw
   |a _ _ q _ _ _ _=>exact absurd q hw
   |e _ _ q _ _=>exact absurd q hw
theorem aRL {ops:List Oper} {Rr:Nat→RG} {H:Nat→HP} {V:Nat→AV} {N:Nat} (hN:N≤512) (hd: ∀o∈ops,∀d,o.dst=some d→d<N∧d<512)
  (hs: ∀t o,ops[t]? =some o→vz P ops o (Rr t) (H t) (V t) (H (t+1))∧Rr (t+1)=Ze o.dst (Rr t) (V t)) (s0:St P ρ N (Rr 0) (H 0) a w):HS P ops Rr H V where
 wf:=fun t ht=>by obtain⟨⟨_,_,_,s⟩,_⟩:=ka hN hd hs s0 t ht;exact s.hr.wf
 low:=fun t ht=>by obtain⟨⟨_,_,_,s⟩,_⟩:=ka hN hd hs s0 t ht;exact s.hr.low
 mono:=fun t ht=>by obtain⟨_,k⟩:=ka hN hd hs s0 (t+1) ht;exact k (by omega)
 reg:=fun t ht k hk=>by obtain⟨⟨ρ,a,w,s⟩,_⟩:=ka hN hd hs s0 t ht;exact⟨ρ,_,s.hr.dom,s.rr k hk⟩
 step:=hs
end
end Kv
end
end
section
noncomputable section
namespace Kv
open Go.RowKit
variable {P:Program}
section
variable {ops:List Oper} {Rr:Nat→RG} {H:Nat→HP} {V:Nat→AV} {N:Nat} {L:Nat→Bool}
def mOf (ops:List Oper) (L:Nat→Bool):Nat:=((xP ops).filter L).length
def qOf (ops:List Oper) (L:Nat→Bool):Nat:=((xP ops)[mOf ops L]?).getD ops.length
theorem Z7 {e:Nat} (h:e∈xP ops):e<ops.length:=by
 obtain⟨o,ho,_⟩:=jB.1 h
 exact(List.getElem?_eq_some_iff.1 ho).1
theorem aBL:qOf ops L≤ops.length:=by
 unfold qOf
 cases h:(xP ops)[mOf ops L]? with
 |none=>exact Nat.le_refl _
 |some e=>exact Nat.le_of_lt (Z7 (List.mem_of_getElem? h))
theorem aRx (pk:kT ops) (hc:ym ops L) {i e:Nat} (he:(xP ops)[i]? =some e):L e=true↔i<mOf ops L:=by
 have hf:=Z9 L (xP ops) fun i j a b h1 h2 h3 hb=>hc.waits pk.back b a hb (pk.chain i j a b h1 h2 h3)
 constructor
 ·intro hl
  have:e∈(xP ops).filter L:=List.mem_filter.2 ⟨List.mem_of_getElem? he,hl⟩
  rw[hf]at this
  obtain⟨j,hj⟩:=List.mem_iff_getElem?.1 this
  rw[List.getElem?_take]at hj
  split at hj
  ·next hjm=>
   have:i=j:=by
    rcases Nat.lt_trichotomy i j with q|q|q
    ·have:=(aiP he hj).1 q;omega
    ·exact q
    ·have:=(aiP hj he).1 q;omega
   rw[this];exact hjm
  ·cases hj
 ·intro hi
  have:e∈(xP ops).take (mOf ops L):=List.mem_iff_getElem?.2 ⟨i,by rw[List.getElem?_take,if_pos hi];exact he⟩
  unfold mOf at this
  rw[←hf]at this
  exact(List.mem_filter.1 this).2
theorem abu (pk:kT ops) (hc:ym ops L) {e:Nat} (he:e∈xP ops):L e=true↔e<qOf ops L:=by
 obtain⟨i,hi⟩:=List.mem_iff_getElem?.1 he
 rw[aRx pk hc hi]
 unfold qOf
 cases h:(xP ops)[mOf ops L]? with
 |none=>
  have h1:=List.getElem?_eq_none_iff.1 h
  have h2:=(List.getElem?_eq_some_iff.1 hi).1
  exact⟨fun _=>Z7 he,fun _=>by omega⟩
 |some q=>exact aiP hi h
def more (L:Nat→Bool) (i:Nat):Nat→Bool:=fun t=>if t=i then true else L t
theorem jo (L:Nat→Bool) (i:Nat):more L i i=true:=if_pos rfl
theorem Yj {i t:Nat} (h:L t=true):more L i t=true:=by unfold more;split<;>first |rfl|exact h
theorem Yk {i t:Nat} (h:t≠i):more L i t=L t:=if_neg h
theorem Z4 {i:Nat} (hc:ym ops L) (hn:Next ops L i):ym ops (more L i):=fun j o ho hj e he hb=>by
 by_cases hji:j=i
 ·subst hji
  obtain⟨_,o',ho',hall⟩:=hn
  rw[ho]at ho';injection ho' with ho';subst ho'
  exact Yj (hall e he hb)
 ·rw[Yk hji]at hj
  exact Yj (hc j o ho hj e he hb)
theorem jr {i:Nat} (hi:i∉xP ops):qOf ops (more L i)=qOf ops L:=by
 have:mOf ops (more L i)=mOf ops L:=by
  unfold mOf
  congr 1
  exact List.filter_congr fun e he=>Yk fun h=>hi (h▸he)
 unfold qOf
 rw[this]
theorem ajk (pk:kT ops) (hc:ym ops L) {i:Nat} (hn:Next ops L i) (hi:i∈xP ops):qOf ops L=i:=by
 have h1: ¬i<qOf ops L:=fun h=>by
  have:=(abu pk hc hi).2 h
  rw[hn.1]at this;cases this
 rcases Nat.lt_or_ge (qOf ops L) i with h2|h2
 ·have hq:qOf ops L∈xP ops:=by
   unfold qOf at h2⊢
   cases h:(xP ops)[mOf ops L]? with
   |none=>rw[h]at h2;have:=Z7 hi;simp at h2;omega
   |some q=>exact List.mem_of_getElem? h
  obtain⟨a,ha⟩:=List.mem_iff_getElem?.1 hq
  obtain⟨b,hb⟩:=List.mem_iff_getElem?.1 hi
  have hw:=pk.chain a b _ _ ha hb ((aiP ha hb).2 h2)
  have:=(abu pk hc hq).1 (hn.waits pk.back hc hw)
  omega
 ·omega
theorem ahj {i:Nat} {o:Oper} (ho:ops[i]? =some o) (h:isE o.op=false):i∉xP ops:=fun hm=>by
 obtain⟨o',ho',he⟩:=jB.1 hm
 rw[ho]at ho';injection ho' with ho';subst ho'
 rw[h]at he;cases he
theorem JW (hs:HS P ops Rr H V) {s t:Nat} (hl:s≤ops.length) (ht:t≤ops.length) (h: ∀e∈xP ops,e<s↔e<t):GG ops H s=GG ops H t:=by
 have key: ∀s t,s≤t→t≤ops.length→(∀e∈xP ops,e<s↔e<t)→GG ops H s=GG ops H t:=fun s t hst ht h=>by
  have:=YR hs (t-s) s (by omega) fun e o h1 h2 h3=>by
   cases q:isE o.op with
   |false=>rfl
   |true=>have:=(h e (jB.2 ⟨o,h3,q⟩)).2 (by omega);omega
  rwa[show s+(t-s)=t by omega]at this
 rcases Nat.le_total s t with q|q
 ·exact key s t q ht h
 ·exact(key t s q hl fun e he=>(h e he).symm).symm
theorem acg (hs:HS P ops Rr H V) (pk:kT ops) (hc:ym ops L) {i:Nat} (hn:Next ops L i) (hi:i∈xP ops):GG ops H (qOf ops (more L i))=GG ops H (i+1):=by
 have hq:=ajk pk hc hn hi
 refine JW hs aBL (Z7 hi) fun e he=>?_
 rw[←abu pk (Z4 hc hn) he]
 by_cases hei:e=i
 ·subst hei;exact⟨fun _=>by omega,fun _=>jo _ _⟩
 ·rw[Yk hei,abu pk hc he,hq];omega
theorem ahf {o:Oper} {k:Nat} (h:k∈aaN o.op):k∈jp ops o:=List.mem_append_left _ (List.mem_append_right _ h)
theorem ahe {o:Oper} {k:Nat} (h:o.dst=some k):k∈jp ops o:=List.mem_append_left _ (List.mem_append_left _ (by rw[h];exact List.mem_cons_self))
theorem yC (t:Nat):Zk ops Rr V L (t+1)=if L t=true then Ze ((ops[t]?).bind (·.dst)) (Zk ops Rr V L t) (V t)else Zk ops Rr V L t:=rfl
theorem aSu (hd: ∀o∈ops,∀d,o.dst=some d→d<N∧d<512) {t d:Nat} (h:(ops[t]?).bind (·.dst)=some d):d<512:=by
 obtain⟨p,hp,h⟩:=Option.bind_eq_some_iff.1 h
 exact(hd p (List.mem_of_getElem? hp) d h).2
theorem JE (hs:HS P ops Rr H V) (pk:kT ops) (hd: ∀o∈ops,∀d,o.dst=some d→d<N∧d<512) (hc:ym ops L) {i:Nat} {o:Oper} (hn:Next ops L i) (ho:ops[i]? =some o) {k:Nat} (hk:k∈jp ops o) (h5:k<512):
  xj (Zk ops Rr V L ops.length) k=xj (Rr i) k:=by
 have hil:=(List.getElem?_eq_some_iff.1 ho).1
 have low: ∀t,t≤i→xj (Zk ops Rr V L t) k=xj (Rr t) k:=by
  intro t
  induction t with
  |zero=>intro _;rfl
  | succ t ih=>
   intro ht
   have ih:=ih (by omega)
   obtain⟨p,hp⟩: ∃p,ops[t]? =some p:=⟨_,List.getElem?_eq_getElem (by omega)⟩
   rw[(hs.step t p hp).2,yC,hp]
   simp only[Option.bind_some]
   have hdp: ∀d,p.dst=some d→d<512:=fun d h=>(hd p (List.mem_of_getElem? hp) d h).2
   by_cases hl:L t=true
   ·rw[if_pos hl];exact abV hdp h5 ih
   ·rw[if_neg hl,xX hdp h5,if_neg fun h=>?_,ih]
    have:=pk.names i o t p k ho hp h hk (by omega)
    rw[if_pos (by omega)]at this
    exact hl (hn.waits pk.back hc this)
 have high: ∀d,i+d≤ops.length→xj (Zk ops Rr V L (i+d)) k=xj (Rr i) k:=by
  intro d
  induction d with
  |zero=>intro _;exact low i (Nat.le_refl _)
  | succ d ih=>
   intro ht
   have ih:=ih (by omega)
   obtain⟨p,hp⟩: ∃p,ops[i+d]? =some p:=⟨_,List.getElem?_eq_getElem (by omega)⟩
   show xj (Zk ops Rr V L (i+d+1)) k=_
   rw[yC,hp]
   simp only[Option.bind_some]
   by_cases hl:L (i+d)=true
   ·have hne:i+d≠i:=fun h=>by rw[h,hn.1]at hl;cases hl
    rw[if_pos hl,xX (fun d h=>(hd p (List.mem_of_getElem? hp) d h).2) h5,if_neg fun h=>?_,ih]
    have:=pk.names i o (i+d) p k ho hp h hk hne
    rw[if_neg (by omega)]at this
    have:=hc.waits pk.back _ _ hl this
    rw[hn.1]at this;cases this
   ·rw[if_neg hl];exact ih
 have:=high (ops.length-i) (by omega)
 rwa[show i+(ops.length-i)=ops.length by omega]at this
theorem ajq (hs:HS P ops Rr H V) (pk:kT ops) (hd: ∀o∈ops,∀d,o.dst=some d→d<N∧d<512) (hc:ym ops L) {i:Nat} {o:Oper} (hn:Next ops L i) (ho:ops[i]? =some o) {k:Nat} (h5:k<512):
  xj (Zk ops Rr V (more L i) ops.length) k=xj (Ze o.dst (Zk ops Rr V L ops.length) (V i)) k:=by
 have hil:=(List.getElem?_eq_some_iff.1 ho).1
 have hdo: ∀d,o.dst=some d→d<512:=fun d h=>(hd o (List.mem_of_getElem? ho) d h).2
 have low: ∀t,t≤i→Zk ops Rr V (more L i) t=Zk ops Rr V L t:=by
  intro t
  induction t with
  |zero=>intro _;rfl
  |succ t ih=>
   intro ht
   rw[yC,yC,Yk (by omega),ih (by omega)]
 have high: ∀d,i+1+d≤ops.length→xj (Zk ops Rr V (more L i) (i+1+d)) k=xj (Ze o.dst (Zk ops Rr V L (i+1+d)) (V i)) k:=by
  intro d
  induction d with
  |zero=>
   intro _
   show xj (Zk ops Rr V (more L i) (i+1)) k=xj (Ze o.dst (Zk ops Rr V L (i+1)) (V i)) k
   rw[yC,yC,jo,if_pos rfl,hn.1,low i (Nat.le_refl _),ho];rfl
  | succ d ih=>
   intro ht
   have ih:=ih (by omega)
   obtain⟨p,hp⟩: ∃p,ops[i+1+d]? =some p:=⟨_,List.getElem?_eq_getElem (by omega)⟩
   have hdp: ∀d,p.dst=some d→d<512:=fun d h=>(hd p (List.mem_of_getElem? hp) d h).2
   show xj (Zk ops Rr V (more L i) (i+1+d+1)) k=xj (Ze o.dst (Zk ops Rr V L (i+1+d+1)) (V i)) k
   rw[yC,yC,Yk (by omega),hp]
   simp only[Option.bind_some]
   by_cases hl:L (i+1+d)=true
   ·rw[if_pos hl,if_pos hl,xX hdp h5,xX hdo h5,xX hdp h5,ih,xX hdo h5]
    by_cases e1:p.dst=some k
    ·by_cases e2:o.dst=some k
     ·have:=pk.names i o (i+1+d) p k ho hp e1 (ahe e2) (by omega)
      rw[if_neg (by omega)]at this
      have:=hc.waits pk.back _ _ hl this
      rw[hn.1]at this;cases this
     ·rw[if_pos e1,if_neg e2,if_pos e1]
    ·rw[if_neg e1,if_neg e1]
   ·rw[if_neg hl,if_neg hl];exact ih
 have:=high (ops.length- (i+1)) (by omega)
 rwa[show i+1+(ops.length- (i+1))=ops.length by omega]at this
theorem ahJ (hs:HS P ops Rr H V) (hl: ∀t,t<ops.length→L t=true): ∀t,t≤ops.length→Zk ops Rr V L t=Rr t
 |0,_=>rfl
 |t+1,ht=>by
  obtain⟨p,hp⟩: ∃p,ops[t]? =some p:=⟨_,List.getElem?_eq_getElem (by omega)⟩
  rw[yC,if_pos (hl t (by omega)),ahJ hs hl t (by omega),(hs.step t p hp).2,hp];rfl
theorem KG {r r':RG} {o:Oper} (h: ∀k∈jp ops o,k<512→xj r k=xj r' k):yl ops o.guard r=yl ops o.guard r':=by
 unfold yl YQ
 cases hg:o.guard with
 |none=>rfl
 | some jb=>
  obtain⟨j,b⟩:=jb
  simp only
  cases hj:aMK ops j with
  |none=>rfl
  | some p=>
   simp only
   cases hp:p.dst with
   |none=>rfl
   | some t=>
    simp only[zl]
    have e:(agS t).f r=(agS t).f r':=by
     rcases Nat.lt_or_ge t 512 with h1|h1
     ·refine h t (List.mem_append_right _ ?_) h1
      rw[hg]
      simp only[hj,hp]
      exact List.mem_cons_self
     ·show xj r t=xj r' t
      rw[vJ _ h1,vJ _ h1]
    rw[e]
end
end Kv
end
end
section
noncomputable section
namespace Kv
open Go.RowKit
variable {P : Program}
section
variable {ops : List Oper} {Rr : Nat → RG} {H : Nat → HP} {V : Nat → AV} {N : Nat} {L : Nat → Bool} {lkf : List Lk}
structure Inv (P : Program) (ops : List Oper) (Rr : Nat → RG) (H : Nat → HP) (V : Nat → AV) (N : Nat) (ρ0 : Ren) (w0 : World) (L : Nat → Bool) (ρ : Ren) (a : Act) (w : World) : Prop where
  hr : HR ρ (GG ops H (qOf ops L)) w
  own : ∀ i p, ρ i = some p → i < (H 0).n ∨ ∃ t, t < ops.length ∧ L t = true ∧ (H t).n ≤ i ∧ i < (H (t + 1)).n
  regs : RR ρ (Zk ops Rr V L ops.length) a
  sz : a.tmps.size = N
  df : x9 P a.defers
  le : RLe ρ0 ρ
  lo : ∀ i p, i < (H 0).n → ρ i = some p → ρ0 i = some p
  size : w0.heap.size ≤ w.heap.size
  frame : ∀ b, b < w0.heap.size → (∀ i κ, ρ0 i = some (b, κ) → (H 0).get i = .dead) → w.heap[b]? = w0.heap[b]?
  old : ∀ i b κ, ρ i = some (b, κ) → (GG ops H (qOf ops L)).get i ≠ .dead → b < w0.heap.size → ∃ j κ', ρ0 j = some (b, κ') ∧ (H 0).get j ≠ .dead
  os : w.os = w0.os
  out : w.output = w0.output
  tape : w.tape = w0.tape
structure Reg (P : Program) (ops : List Oper) (Rr : Nat → RG) (H : Nat → HP) (V : Nat → AV) (N : Nat) (lkf : List Lk) : Prop where
  hs : HS P ops Rr H V
  pk : kT ops
  hN : N ≤ 512
  hd : ∀ o ∈ ops, ∀ d, o.dst = some d → d < N ∧ d < 512
  lk : ∀ t o, ops[t]? = some o → yl ops o.guard (Rr t) = true → LkR P o (yT ops t).1 (yT ops t).2 (Rr t) (V t) (H t) (H (t + 1)) lkf
  ok : YM ((xP ops).map H ++ [H ops.length]) lkf = true
variable {ρ0 ρ : Ren} {w0 w : World} {a : Act}
theorem aa9 (rg : Reg P ops Rr H V N lkf) : ((xP ops).map H ++ [H ops.length])[mOf ops L]? = some (H (qOf ops L)) := by
  have hm : mOf ops L ≤ (xP ops).length := List.length_filter_le _ _
  unfold qOf
  cases h : (xP ops)[mOf ops L]? with
  | none =>
    have h1 := List.getElem?_eq_none_iff.1 h
    rw [List.getElem?_append_right (by rw [List.length_map]; omega), List.length_map, show mOf ops L - (xP ops).length = 0 by omega]; rfl
  | some e =>
    have h1 := (List.getElem?_eq_some_iff.1 h).1
    rw [List.getElem?_append_left (by rw [List.length_map]; exact h1), List.getElem?_map, h]; rfl
theorem ah7 (rg : Reg P ops Rr H V N lkf) (hc : ym ops L) {i : Nat} (hn : Next ops L i) : (yT ops i).1 ≤ mOf ops L ∧ mOf ops L ≤ (yT ops i).2 := by
  constructor
  · exact yn _ fun e he h => hn.waits rg.pk.back hc h
  · refine yn _ fun e he h => ?_
    cases q : waits ops e i with
    | false => rfl
    | true =>
      have := hc.waits rg.pk.back _ _ h q
      rw [hn.1] at this; cases this
theorem Xp (rg : Reg P ops Rr H V N lkf) (hc : ym ops L) {i : Nat} (hn : Next ops L i) (h : (yT ops i).1 = (yT ops i).2) : GG ops H (qOf ops L) = GG ops H i := by
  obtain ⟨o, ho, _⟩ := hn.2
  have hil := (List.getElem?_eq_some_iff.1 ho).1
  have hall := xt (xP ops) (p := waits ops i) (q := fun e => !(waits ops e i)) (fun e he hw => by
    cases q : waits ops e i with
    | false => rfl
    | true =>
      have h1 := kg rg.pk.back _ _ hw
      have h2 := kg rg.pk.back _ _ q
      omega) h
  refine JW rg.hs aBL (by omega) fun e he => ?_
  rw [← abu rg.pk hc he]
  constructor
  · intro hl
    refine kg rg.pk.back i e (hall e he ?_)
    cases q : waits ops e i with
    | false => rfl
    | true =>
      have := hc.waits rg.pk.back _ _ hl q
      rw [hn.1] at this; cases this
  · intro hl
    refine hn.waits rg.pk.back hc (hall e he ?_)
    cases q : waits ops e i with
    | false => rfl
    | true => have := kg rg.pk.back _ _ q; omega
theorem anV (rg : Reg P ops Rr H V N lkf) {t : Nat} (ht : t ≤ ops.length) : HLe (H t) (GG ops H t) := fun i hi => vy rg.hs ht hi
theorem ahD (rg : Reg P ops Rr H V N lkf) (hc : ym ops L) {i : Nat} {o : Oper} (hn : Next ops L i) (ho : ops[i]? = some o) (hw : yl ops o.guard (Rr i) = true) (h1 : isE o.op = false) (h2 : isA P o.op = false) (hv : V i = (zt P o.op).f (Rr i) (H i)) (hu : (zt P o.op).f (Rr i) (H i) ≠ .un) :
    (zt P o.op).f (Rr i) (GG ops H (qOf ops L)) = V i := by
  have hil := (List.getElem?_eq_some_iff.1 ho).1
  by_cases hk : Qf o.op = true
  · by_cases hab : (yT ops i).1 = (yT ops i).2
    · rw [Xp rg hc hn hab, aoa o.op (anV rg (by omega)) hu, hv]
    · have hm := (rg.lk i o ho hw h1 hab).1 h2 hk
      obtain ⟨s1, s2⟩ := ah7 rg hc hn
      have := Qe _ 0 (Yf _ rg.ok hm) (mOf ops L) _ (aa9 rg) (by show (yT ops i).1 ≤ 0 + _; omega) (by show 0 + _ ≤ (yT ops i).2; omega)
      have this : (zt P o.op).f (Rr i) (H (qOf ops L)) = V i := Jj 4 _ _ this
      rw [aoa o.op (anV rg aBL) (by rw [this, hv]; exact hu), this]
  · rw [aaV o.op (by simpa using hk) _ (H i), hv]
theorem acm (rg : Reg P ops Rr H V N lkf) (hc : ym ops L) {i : Nat} {o : Oper} (hn : Next ops L i) (ho : ops[i]? = some o) (hw : yl ops o.guard (Rr i) = true) (h1 : isE o.op = false) (h2 : isA P o.op = true) {b : Blk} (hb : H (i + 1) = (H i).push b) :
    (GG ops H (qOf ops L)).get (H i).n = b ∧ (H i).n < (GG ops H (qOf ops L)).n := by
  have hil := (List.getElem?_eq_some_iff.1 ho).1
  have hwf := rg.hs.wf i (by omega)
  have hq : (H (i + 1)).get (H i).n = b := by rw [hb, HP.get_push b hwf, if_pos rfl]
  have hnn : (H (i + 1)).n = (H i).n + 1 := by rw [hb, HP.push_n]
  have hGi : (GG ops H i).get (H i).n = b := by
    rw [KI rg.hs ho h1, vy rg.hs (by omega) (by omega), hq]
  constructor
  · rcases Nat.lt_or_ge i (qOf ops L) with hiq | hiq
    · by_cases hab : (yT ops i).1 = (yT ops i).2
      · rw [Xp rg hc hn hab]; exact hGi
      · have hm := (rg.lk i o ho hw h1 hab).2 h2
        obtain ⟨s1, s2⟩ := ah7 rg hc hn
        have := Qe _ 0 (Yf _ rg.ok hm) (mOf ops L) _ (aa9 rg) (by show (yT ops i).1 ≤ 0 + _; omega) (by show 0 + _ ≤ (yT ops i).2; omega)
        have hlt : (H i).n < (H (qOf ops L)).n := by
          have := rg.hs.le' (s := i + 1) (t := qOf ops L) (by omega) aBL
          omega
        have this : lkA (H i).n (H (i + 1)) (H (qOf ops L)) = true := this
        unfold lkA at this
        rw [zf, if_pos (by exact hlt)] at this
        rw [vy rg.hs aBL hlt, anR _ _ this, hq]
    · have := QM rg.hs (i - qOf ops L) (qOf ops L) (i := (H i).n) (by omega) (by rw [show qOf ops L + (i - qOf ops L) = i by omega]; exact Nat.le_refl _)
      rw [show qOf ops L + (i - qOf ops L) = i by omega] at this
      rw [this]; exact hGi
  · rw [aCv rg.hs (ops.length - qOf ops L) (qOf ops L) (by have := aBL (ops := ops) (L := L); omega)]
    have := rg.hs.le' (s := i + 1) (t := ops.length) (by omega) (Nat.le_refl _)
    omega
theorem aR6 (rg : Reg P ops Rr H V N lkf) {i t j : Nat} (hi : i < ops.length) (ht : t < ops.length) (h1 : (H i).n ≤ j) (h2 : j < (H (i + 1)).n) (h3 : (H t).n ≤ j) (h4 : j < (H (t + 1)).n) : t = i := by
  rcases Nat.lt_trichotomy t i with q | q | q
  · have := rg.hs.le' (s := t + 1) (t := i) (by omega) (by omega); omega
  · exact q
  · have := rg.hs.le' (s := i + 1) (t := t) (by omega) (by omega); omega
theorem Inv.fresh (rg : Reg P ops Rr H V N lkf) (I : Inv P ops Rr H V N ρ0 w0 L ρ a w) {i : Nat} (hi : i < ops.length) (hn : L i = false) {j : Nat} (h1 : (H i).n ≤ j) (h2 : j < (H (i + 1)).n) : ρ j = none := by
  cases h : ρ j with
  | none => rfl
  | some p =>
    rcases I.own j p h with q | ⟨t, ht, hl, h3, h4⟩
    · have := rg.hs.le' (s := 0) (t := i) (by omega) (by omega); omega
    · have := aR6 rg hi ht h1 h2 h3 h4
      subst this
      rw [hn] at hl; cases hl
theorem Zn {i : Nat} (I : Inv P ops Rr H V N ρ0 w0 L ρ a w) : ∀ j p, ρ j = some p → j < (H 0).n ∨ ∃ t, t < ops.length ∧ more L i t = true ∧ (H t).n ≤ j ∧ j < (H (t + 1)).n := fun j p h => by
  rcases I.own j p h with q | ⟨t, ht, hl, h3, h4⟩
  · exact .inl q
  · exact .inr ⟨t, ht, Yj hl, h3, h4⟩
theorem RR.congr {r r' : RG} (h : ∀ k, k < 512 → xj r' k = xj r k) (rr : RR ρ r a) : RR ρ r' a := fun k hk => by rw [h k hk]; exact rr k hk
theorem Qq (rg : Reg P ops Rr H V N lkf) (hc : ym ops L) {i : Nat} {o : Oper} (hn : Next ops L i) (ho : ops[i]? = some o) (hz : a.tmps.size = N) (rr : RR ρ (Zk ops Rr V L ops.length) a) {v' : Value} (hv : VR ρ (V i) v') (ds : List Deferred) :
    RR ρ (Zk ops Rr V (more L i) ops.length) (({ a with defers := ds } : Act).put o.dst v') :=
  RR.congr (fun k hk => ajq rg.hs rg.pk rg.hd hc hn ho hk) (RR.put (a := ({ a with defers := ds } : Act)) rr hv fun d e => ⟨by show d < a.tmps.size; rw [hz]; exact (rg.hd o (List.mem_of_getElem? ho) d e).1, (rg.hd o (List.mem_of_getElem? ho) d e).2⟩)
theorem aMP (rg : Reg P ops Rr H V N lkf) (hc : ym ops L) {i : Nat} {o : Oper} (hn : Next ops L i) (ho : ops[i]? = some o) (rr : RR ρ (Zk ops Rr V L ops.length) a) : ∀ k ∈ nsO o, VR ρ (xj (Rr i) k) (a.tmps.getD k undef) := fun k hk => by
  have h5 := Ym o k hk
  have := rr k h5
  rwa [JE rg.hs rg.pk rg.hd hc hn ho (ahf (List.mem_filter.1 hk).1) h5] at this
theorem Js (rg : Reg P ops Rr H V N lkf) (hc : ym ops L) {i : Nat} {o : Oper} (hn : Next ops L i) (ho : ops[i]? = some o) (I : Inv P ops Rr H V N ρ0 w0 L ρ a w) (hg : GG ops H (qOf ops (more L i)) = GG ops H (qOf ops L)) {v' : Value} (hv : VR ρ (V i) v') :
    Inv P ops Rr H V N ρ0 w0 (more L i) ρ (a.put o.dst v') w where
  hr := by rw [hg]; exact I.hr
  own := Zn I
  regs := Qq rg hc hn ho I.sz I.regs hv a.defers
  sz := by rw [jK]; exact I.sz
  df := by rw [yF]; exact I.df
  le := I.le
  lo := I.lo
  size := I.size
  frame := I.frame
  old := by rw [hg]; exact I.old
  os := I.os
  out := I.out
  tape := I.tape
theorem agZ (rg : Reg P ops Rr H V N lkf) (hc : ym ops L) {i : Nat} {o : Oper} (hn : Next ops L i) (ho : ops[i]? = some o) (hw : yl ops o.guard (Rr i) = true) (h1 : isE o.op = false) (h2 : isA P o.op = true) {b : Blk} (hb : H (i + 1) = (H i).push b)
    (I : Inv P ops Rr H V N ρ0 w0 L ρ a w) {ob : Obj} {κ : Nat} {w' : World} (e1 : w'.heap = w.heap.push ob) (e2 : w'.os = w.os) (e3 : w'.output = w.output) (e4 : w'.tape = w.tape) (hB : BR ρ κ b ob) {v' : Value} (hv : VR (ρ.put (H i).n w.heap.size κ) (V i) v') :
    Inv P ops Rr H V N ρ0 w0 (more L i) (ρ.put (H i).n w.heap.size κ) (a.put o.dst v') w' := by
  have hil := (List.getElem?_eq_some_iff.1 ho).1
  have hnn : (H (i + 1)).n = (H i).n + 1 := by rw [hb, HP.push_n]
  have hfr := I.fresh rg hil hn.1 (Nat.le_refl _) (by omega : (H i).n < (H (i + 1)).n)
  have hle : RLe ρ (ρ.put (H i).n w.heap.size κ) := Ren.put_le hfr
  obtain ⟨hget, hlt⟩ := acm rg hc hn ho hw h1 h2 hb
  have hg : GG ops H (qOf ops (more L i)) = GG ops H (qOf ops L) := by rw [jr (ahj ho h1)]
  have hput : ∀ j p, ρ.put (H i).n w.heap.size κ j = some p → (j = (H i).n ∧ p = (w.heap.size, κ)) ∨ (j ≠ (H i).n ∧ ρ j = some p) := fun j p hj => by
    unfold Ren.put at hj
    by_cases q : j = (H i).n
    · rw [if_pos q] at hj; injection hj with hj; exact .inl ⟨q, hj.symm⟩
    · rw [if_neg q] at hj; exact .inr ⟨q, hj⟩
  have hold : ∀ k, k < w.heap.size → w'.heap[k]? = w.heap[k]? := fun k hk => by rw [e1, Array.getElem?_push, if_neg (by omega)]
  exact
    { hr := by
        rw [hg]
        refine ⟨I.hr.wf, fun j g κ' hj => ?_, fun j1 j2 g κ1 κ2 g1 g2 d1 d2 => ?_, I.hr.low⟩
        · rcases hput j _ hj with ⟨q, p⟩ | ⟨q, p⟩
          · injection p with p1 p2
            subst q; subst p1; subst p2
            exact ⟨hlt, ob, by rw [e1, Array.getElem?_push, if_pos rfl], by rw [hget]; exact hB.mono hle⟩
          · obtain ⟨m1, o', m2, m3⟩ := I.hr.at_ j g κ' p
            exact ⟨m1, o', by rw [hold g (I.hr.lt p)]; exact m2, m3.mono hle⟩
        · rcases hput j1 _ g1 with ⟨q1, p1⟩ | ⟨q1, p1⟩
          · rcases hput j2 _ g2 with ⟨q2, p2⟩ | ⟨q2, p2⟩
            · omega
            · injection p1 with p1 _
              have := I.hr.lt p2; omega
          · rcases hput j2 _ g2 with ⟨q2, p2⟩ | ⟨q2, p2⟩
            · injection p2 with p2 _
              have := I.hr.lt p1; omega
            · exact I.hr.inj j1 j2 g κ1 κ2 p1 p2 d1 d2
      own := fun j p hj => by
        rcases hput j p hj with ⟨q, _⟩ | ⟨_, q⟩
        · exact .inr ⟨i, hil, jo _ _, by omega, by omega⟩
        · exact Zn I j p q
      regs := Qq rg hc hn ho I.sz (I.regs.mono hle) hv a.defers
      sz := by rw [jK]; exact I.sz
      df := by rw [yF]; exact I.df
      le := I.le.trans hle
      lo := fun j p hj hp => by
        rcases hput j p hp with ⟨q, _⟩ | ⟨_, q⟩
        · have := rg.hs.le' (s := 0) (t := i) (by omega) (by omega); omega
        · exact I.lo j p hj q
      size := by rw [e1, Array.size_push]; have := I.size; omega
      frame := fun g hg hd => by rw [hold g (Nat.lt_of_lt_of_le hg I.size)]; exact I.frame g hg hd
      old := by
        rw [hg]
        intro j g κ' hj hd hlt'
        rcases hput j _ hj with ⟨_, p⟩ | ⟨_, p⟩
        · injection p with p1 _
          have := I.size; omega
        · exact I.old j g κ' p hd hlt'
      os := e2.trans I.os
      out := e3.trans I.out
      tape := e4.trans I.tape }
theorem aBh (rg : Reg P ops Rr H V N lkf) (hc : ym ops L) {i : Nat} {o : Oper} (hn : Next ops L i) (ho : ops[i]? = some o) (h1 : isE o.op = true) (I : Inv P ops Rr H V N ρ0 w0 L ρ a w) {ρ1 : Ren} {w' : World} (x : Ext (ρ.cut (H i).n) (H i) w ρ1 (H (i + 1)) w') {v' : Value} (hv : VR ρ1 (V i) v') {ds : List Deferred} (hds : x9 P ds) :
    ∃ ρ2, Inv P ops Rr H V N ρ0 w0 (more L i) ρ2 (({ a with defers := ds } : Act).put o.dst v') w' := by
  have hil := (List.getElem?_eq_some_iff.1 ho).1
  have hes : i ∈ xP ops := jB.2 ⟨o, ho, h1⟩
  have hq := ajk rg.pk hc hn hes
  have hg := acg rg.hs rg.pk hc hn hes
  have h0i : (H 0).n ≤ (H i).n := rg.hs.le' (s := 0) (t := i) (by omega) (by omega)
  have hmono := rg.hs.mono i hil
  have Ihr := I.hr
  rw [hq] at Ihr
  have Iold := I.old
  rw [hq] at Iold
  let ρ2 : Ren := fun j => match ρ1 j with | some p => some p | none => ρ j
  have r2 : ∀ j p, ρ2 j = some p ↔ ρ1 j = some p ∨ (ρ1 j = none ∧ ρ j = some p) := fun j p => by
    show (match ρ1 j with | some p => some p | none => ρ j) = some p ↔ _
    cases h : ρ1 j with
    | some q => simp
    | none => simp
  have above : ∀ j p, ρ1 j = none → ρ j = some p → (H (i + 1)).n ≤ j := fun j p e1 e2 => by
    rcases Nat.lt_or_ge j (H i).n with h | h
    · have := x.le j p (Ren.cut_some.2 ⟨h, e2⟩)
      rw [e1] at this; cases this
    · rcases Nat.lt_or_ge j (H (i + 1)).n with h' | h'
      · rw [I.fresh rg hil hn.1 h h'] at e2; cases e2
      · exact h'
  have le1 : RLe ρ1 ρ2 := fun j p h => (r2 j p).2 (.inl h)
  have le2 : RLe ρ ρ2 := fun j p h => by
    cases e : ρ1 j with
    | none => exact (r2 j p).2 (.inr ⟨e, h⟩)
    | some p' =>
      have hj := x.hr.dom j p' e
      rcases Nat.lt_or_ge j (H i).n with hl | hl
      · exact (r2 j p).2 (.inl (x.le j p (Ren.cut_some.2 ⟨hl, h⟩)))
      · rw [I.fresh rg hil hn.1 hl hj] at h; cases h
  have keep : ∀ b, b < w.heap.size → (∀ j κ, j < (H i).n → ρ j = some (b, κ) → (GG ops H i).get j = .dead) → w'.heap[b]? = w.heap[b]? := fun b hb hd => x.frame b hb fun j κ hj => by
    obtain ⟨k1, k2⟩ := Ren.cut_some.1 hj
    rw [← vy rg.hs (by omega : i ≤ ops.length) k1]
    exact hd j κ k1 k2
  have ownG : ∀ j b κ, ρ1 j = some (b, κ) → (H (i + 1)).get j ≠ .dead → b < w.heap.size → ∃ j' κ', j' < (H i).n ∧ ρ j' = some (b, κ') ∧ (GG ops H i).get j' ≠ .dead := fun j b κ hj hd hb => by
    obtain ⟨j', κ', k1, k2⟩ := x.own j b κ hj hd hb
    obtain ⟨k3, k4⟩ := Ren.cut_some.1 k1
    exact ⟨j', κ', k3, k4, by rw [vy rg.hs (by omega : i ≤ ops.length) k3]; exact k2⟩
  have lowG : ∀ j p, ρ1 j = some p → (GG ops H (i + 1)).get j = (H (i + 1)).get j := fun j p hj => vy rg.hs (by omega) (x.hr.dom j p hj)
  have highG : ∀ j p, ρ1 j = none → ρ j = some p → (GG ops H (i + 1)).get j = (GG ops H i).get j := fun j p e1 e2 => (Xv rg.hs hil (above j p e1 e2)).symm
  have hnG : (GG ops H (i + 1)).n = (H ops.length).n := aCv rg.hs (ops.length - (i + 1)) (i + 1) (by omega)
  refine ⟨ρ2, { hr := ?_, own := fun j p hj => ?_, regs := Qq rg hc hn ho I.sz (I.regs.mono le2) (hv.mono le1) ds, sz := by rw [jK]; exact I.sz, df := by rw [yF]; exact hds, le := I.le.trans le2, lo := fun j p hj hp => ?_, size := Nat.le_trans I.size x.size, frame := fun b hb hd => ?_, old := ?_, os := x.os.trans I.os, out := x.out.trans I.out, tape := x.tape.trans I.tape }⟩
  · rw [hg]
    refine ⟨aCw rg.hs (by omega), fun j b κ hj => ?_, fun j1 j2 b κ1 κ2 g1 g2 d1 d2 => ?_, fun j => ?_⟩
    · rcases (r2 j _).1 hj with k | ⟨k1, k2⟩
      · obtain ⟨m1, o', m2, m3⟩ := x.hr.at_ j b κ k
        refine ⟨?_, o', m2, ?_⟩
        · rw [hnG]; exact Nat.lt_of_lt_of_le m1 (rg.hs.le' (by omega) (Nat.le_refl _))
        · rw [lowG j _ k]; exact m3.mono le1
      · obtain ⟨m1, o', m2, m3⟩ := Ihr.at_ j b κ k2
        have hlt := Ihr.lt k2
        have hnE : (GG ops H i).n = (H ops.length).n := aCv rg.hs (ops.length - i) i (by omega)
        refine ⟨by rw [hnG, ← hnE]; exact m1, ?_⟩
        rw [highG j _ k1 k2]
        by_cases hdead : (GG ops H i).get j = .dead
        · rw [hdead]
          exact ⟨_, Array.getElem?_eq_getElem (Nat.lt_of_lt_of_le hlt x.size), trivial⟩
        · refine ⟨o', ?_, m3.mono le2⟩
          rw [keep b hlt fun j' κ' q1 q2 => Classical.byContradiction fun hl => ?_, m2]
          have := Ihr.inj j' j b κ' κ q2 k2 hl hdead
          have := above j _ k1 k2
          omega
    · rcases (r2 j1 _).1 g1 with k | ⟨k1, k2⟩
      · rw [lowG j1 _ k] at d1
        rcases (r2 j2 _).1 g2 with m | ⟨m1, m2⟩
        · rw [lowG j2 _ m] at d2
          exact x.hr.inj j1 j2 b κ1 κ2 k m d1 d2
        · rw [highG j2 _ m1 m2] at d2
          obtain ⟨j', κ', q1, q2, q3⟩ := ownG j1 b κ1 k d1 (Ihr.lt m2)
          have := Ihr.inj j' j2 b κ' κ2 q2 m2 q3 d2
          have := above j2 _ m1 m2
          omega
      · rw [highG j1 _ k1 k2] at d1
        rcases (r2 j2 _).1 g2 with m | ⟨m1, m2⟩
        · rw [lowG j2 _ m] at d2
          obtain ⟨j', κ', q1, q2, q3⟩ := ownG j2 b κ2 m d2 (Ihr.lt k2)
          have := Ihr.inj j' j1 b κ' κ1 q2 k2 q3 d1
          have := above j1 _ k1 k2
          omega
        · rw [highG j2 _ m1 m2] at d2
          exact Ihr.inj j1 j2 b κ1 κ2 k2 m2 d1 d2
    · rw [hnG]; exact JV rg.hs (ops.length - (i + 1)) (i + 1) (by omega) j
  · rcases (r2 j _).1 hj with k | ⟨k1, k2⟩
    · cases e : ρ.cut (H i).n j with
      | some p' => exact Zn I j p' (Ren.cut_some.1 e).2
      | none => exact .inr ⟨i, hil, jo _ _, x.new j p k e, x.hr.dom j p k⟩
    · exact Zn I j p k2
  · rcases (r2 j _).1 hp with k | ⟨k1, k2⟩
    · cases e : ρ.cut (H i).n j with
      | some p' =>
        have := x.le j p' e
        rw [k] at this; injection this with this; subst this
        exact I.lo j p hj (Ren.cut_some.1 e).2
      | none => have := x.new j p k e; omega
    · exact I.lo j p hj k2
  · rw [keep b (Nat.lt_of_lt_of_le hb I.size) fun j κ q1 q2 => Classical.byContradiction fun hl => ?_]
    · exact I.frame b hb hd
    · obtain ⟨j', κ', k1, k2⟩ := Iold j b κ q2 hl hb
      exact k2 (hd j' κ' k1)
  · rw [hg]
    intro j b κ hj hd hb
    rcases (r2 j _).1 hj with k | ⟨k1, k2⟩
    · rw [lowG j _ k] at hd
      obtain ⟨j', κ', q1, q2, q3⟩ := ownG j b κ k hd (Nat.lt_of_lt_of_le hb I.size)
      exact Iold j' b κ' q2 q3 hb
    · rw [highG j _ k1 k2] at hd
      exact Iold j b κ k2 hd hb
end
end Kv
end
end
end Go.Proofs.YtcdiljebkpikbaaGreat
