/- Parts of the proof: Kve Kvf Kvg Kvh Kvi Kvj. -/
import Derived.Below
import Derived.Orders
import Derived.Laws.Sem
import Derived.Test.YtcdiljebkpikbaaGreatS02
set_option linter.all false
set_option maxRecDepth 100000
set_option maxHeartbeats 64000000
namespace Go.Proofs.YtcdiljebkpikbaaGreat
section
noncomputable section
namespace Kv
open Go.RowKit
abbrev Ren:=Nat→Option (Nat×Nat)
def zh (c:Nat):IntKind:=match c with |0=> .i8|1=> .i16|2=> .i32|3=> .i64|4=> .u8|5=> .u16|6=> .u32|_=> .u64
def toI (c x:Nat):Int:=if y9 c=true∧hfN c≤x then(x:Int) -mdN c else x
def byC (l x:Nat):List Value:=(bys l x).map fun b=>Value.int .u8 (b:Nat)
def SR (l x:Nat) (s:ByteArray):Prop:=s.data.toList.map UInt8.toNat=bys l x∧x<256^l
mutual
def VR (ρ:Ren):AV→Value→Prop
 | .fl x,v=>v= .float .f64 x
 | .nilp,v=>v= .pointer none
 | .nils,v=>v= .slice none 0 0
 | .se,v=> ∃a c,v= .slice a 0 c
 | .nilf,v=>v= .nilFunc
 | .nili,v=>v= .nilIface
 | .ifc t x,v=> ∃y,v= .iface t y∧VR ρ x y
 | .fn f a b,v=> ∃a' b',v= .func f a' b'∧VRs ρ a a'.toList∧VRs ρ b b'.toList
 | .tup l,v=> ∃l',v= .tuple l'∧VRs ρ l l'.toList
 | .un,_=>False
 | .sf i o l u,v=> ∃b κ c,ρ i=some (b,κ)∧v= .slice (some ⟨b,o,none⟩) l c∧κ=o+c*u∧l≤c∧0<u
 | .sl i o l c,v=> ∃b κ,ρ i=some (b,κ)∧v= .slice (some ⟨b,o,none⟩) l c∧l≤c
 | .ba l x,v=> ∃cs,v= .agg cs∧cs.toList=byC l x∧x<256^l
 | .agg l,v=> ∃cs,v= .agg cs∧VRs ρ l cs.toList∧l.all sca=true
 | .str l x,v=> ∃s,v= .string s∧SR l x s
 | .bl b,v=>v= .bool b
 | .ptr i o,v=> ∃b κ,ρ i=some (b,κ)∧v= .pointer (some ⟨b,o,none⟩)
 | .int c x,v=>v= .int (zh c) (toI c x)∧x<mdN c∧c<8
def VRs (ρ:Ren):List AV→List Value→Prop
 | [],l=>l=[]
 |a::m,l=> ∃x y,l=x::y∧VR ρ a x∧VRs ρ m y
end
def RLe (ρ ρ':Ren):Prop:= ∀i p,ρ i=some p→ρ' i=some p
theorem RLe.refl (ρ:Ren):RLe ρ ρ:=fun _ _ h=>h
theorem RLe.trans {a b c:Ren} (h:RLe a b) (k:RLe b c):RLe a c:=fun i p hp=>k i p (h i p hp)
mutual
theorem VR.mono {ρ ρ':Ren} (h:RLe ρ ρ'): ∀(a:AV) (v:Value),VR ρ a v→VR ρ' a v
 | .fl _,_,k=>k
 | .nilp,_,k=>k
 | .nils,_,k=>k
 | .se,_,k=>k
 | .nilf,_,k=>k
 | .nili,_,k=>k
 | .ifc _ x,_,⟨y,e,k⟩=>⟨y,e,VR.mono h x y k⟩
 | .fn _ a b,_,⟨a',b',e,k,m⟩=>⟨a',b',e,VRs.mono h a _ k,VRs.mono h b _ m⟩
 | .tup l,_,⟨l',e,k⟩=>⟨l',e,VRs.mono h l _ k⟩
 | .un,_,k=>k.elim
 | .sf _ _ _ _,_,⟨b,κ,c,e,r⟩=>⟨b,κ,c,h _ _ e,r⟩
 | .sl _ _ _ _,_,⟨b,κ,e,r⟩=>⟨b,κ,h _ _ e,r⟩
 | .ba _ _,_,k=>k
 | .agg l,_,⟨cs,e,k,m⟩=>⟨cs,e,VRs.mono h l _ k,m⟩
 | .str _ _,_,k=>k
 | .bl _,_,k=>k
 | .ptr _ _,_,⟨b,κ,e,r⟩=>⟨b,κ,h _ _ e,r⟩
 | .int _ _,_,k=>k
theorem VRs.mono {ρ ρ':Ren} (h:RLe ρ ρ'): ∀(a:List AV) (v:List Value),VRs ρ a v→VRs ρ' a v
 | [],_,k=>k
 |a::m,_,⟨x,y,e,k,r⟩=>⟨x,y,e,VR.mono h a x k,VRs.mono h m y r⟩
end
theorem VRs.length {ρ:Ren} : ∀(a:List AV) (v:List Value),VRs ρ a v→a.length=v.length
 | [],_,rfl=>rfl
 |a::m,_,⟨x,y,rfl,_,r⟩=>congrArg (· +1) (VRs.length m y r)
theorem VRs.get {ρ:Ren} : ∀ {a:List AV} {v:List Value} (i:Nat),VRs ρ a v→i<a.length→ ∃x y,a[i]? =some x∧v[i]? =some y∧VR ρ x y
 | [],_,i,_,h=>by cases h
 |a::m,_,0,⟨x,y,rfl,k,r⟩,_=>⟨a,x,rfl,rfl,k⟩
 |a::m,_,i+1,⟨x,y,rfl,k,r⟩,h=>VRs.get (a:=m) i r (Nat.lt_of_succ_lt_succ h)
theorem VRs.append {ρ:Ren} : ∀ {a:List AV} {v:List Value} {b:List AV} {w:List Value},VRs ρ a v→VRs ρ b w→VRs ρ (a++b) (v++w)
 | [],_,b,w,rfl,h=>h
 |a::m,_,b,w,⟨x,y,rfl,k,r⟩,h=>⟨x,y++w,rfl,k,VRs.append r h⟩
theorem VRs.take {ρ:Ren} : ∀ {a:List AV} {v:List Value} (n:Nat),VRs ρ a v→VRs ρ (a.take n) (v.take n)
 | [],_,n,rfl=>by cases n<;>exact rfl
 |a::m,_,0,⟨x,y,rfl,k,r⟩=>rfl
 |a::m,_,n+1,⟨x,y,rfl,k,r⟩=>⟨x,y.take n,rfl,k,VRs.take n r⟩
theorem VRs.drop {ρ:Ren} : ∀ {a:List AV} {v:List Value} (n:Nat),VRs ρ a v→VRs ρ (a.drop n) (v.drop n)
 | [],_,n,rfl=>by cases n<;>exact rfl
 |a::m,_,0,h=>h
 |a::m,_,n+1,⟨x,y,rfl,k,r⟩=>VRs.drop n r
theorem VRs.set {ρ:Ren} : ∀ {a:List AV} {v:List Value} (n:Nat) {x:AV} {y:Value},VRs ρ a v→VR ρ x y→VRs ρ (a.set n x) (v.set n y)
 | [],_,n,_,_,rfl,_=>by cases n<;>exact rfl
 |a::m,_,0,x,y,⟨x',y',rfl,k,r⟩,h=>⟨y,y',rfl,h,r⟩
 |a::m,_,n+1,x,y,⟨x',y',rfl,k,r⟩,h=>⟨x',y'.set n y,rfl,k,VRs.set n r h⟩
theorem xT {l:List AV} (n:Nat) (h:l.all sca=true):(l.take n).all sca=true:=by
 rw[List.all_eq_true]at *;exact fun x hx=>h x (List.mem_of_mem_take hx)
theorem xS {l:List AV} (n:Nat) (h:l.all sca=true):(l.drop n).all sca=true:=by
 rw[List.all_eq_true]at *;exact fun x hx=>h x (List.mem_of_mem_drop hx)
theorem Zz {l m:List AV} (h:l.all sca=true) (k:m.all sca=true):(l++m).all sca=true:=by
 rw[List.all_append,h,k];rfl
theorem J2 {l:List AV} {n:Nat} {x:AV} (h:l.all sca=true) (k:sca x=true):(l.set n x).all sca=true:=by
 rw[List.all_eq_true]at *
 intro y hy
 rcases List.mem_or_eq_of_mem_set hy with hy|rfl
 ·exact h y hy
 ·exact k
theorem JZ (ρ:Ren) {b:Nat} (h:b<256):VR ρ (.int 4 b) (.int .u8 (b:Nat)):=by
 refine⟨?_,h,by decide⟩
 show Value.int .u8 (b:Nat)= .int .u8 (toI 4 b)
 have:toI 4 b=(b:Int):=by unfold toI;rw[if_neg (fun h=>absurd h.1 (by decide))]
 rw[this]
theorem QO (ρ:Ren): ∀(l:List Nat),(∀b∈l,b<256)→VRs ρ (l.map (AV.int 4)) (l.map fun b=>Value.int .u8 (b:Nat))
 | [],_=>rfl
 |b::l,h=>⟨_,_,rfl,JZ ρ (h b List.mem_cons_self),QO ρ l fun c hc=>h c (List.mem_cons_of_mem _ hc)⟩
theorem jA (ρ:Ren) (l x:Nat):VRs ρ (xE l x) (byC l x):=by
 rw[yw];exact QO ρ _ (Y8 l x)
theorem jM (l x:Nat):(xE l x).all sca=true:=by
 rw[yw,List.all_map,List.all_eq_true];exact fun _ _=>rfl
structure UR (ρ:Ren) (u:Nat) (a:AV) (cs:List Value):Prop where
 vs:VRs ρ (xF a) cs
 len:cs.length=u
 sc:(xF a).all sca=true
 by_: ∀l x,a= .ba l x→x<256^l
def NF (fr:Nat×Nat) (κ:Nat):Prop:= ∀o,o<κ→(decide (fr.1≤o)&&decide (o<fr.2))=false
def NZ (fr:Nat×Nat) (κ:Nat):Prop:=fr=(0,0)
theorem NZ.nf {fr:Nat×Nat} {κ:Nat} (h:NZ fr κ):NF fr κ:=fun o _=>by
 have h:fr=(0,0):=h
 rw[h]
 show(decide (0≤o)&&decide (o<0))=false
 rw[decide_eq_false (Nat.not_lt_zero o),Bool.and_false]
def BR (ρ:Ren) (κ:Nat):Blk→Obj→Prop
 | .dead,_=>True
 | .row u n t,o=> ∃c ty fr,o= .cells c ty fr∧c.size=κ∧NZ fr κ∧0<u∧u*n≤κ∧(∃s,t.wf s∧n≤s)∧ ∀i,i<n→UR ρ u (t.get i) ((c.toList.drop (i*u)).take u)
 | .by l x,o=> ∃c ty fr,o= .cells c ty fr∧c.size=κ∧NF fr κ∧l≤κ∧x<256^l∧c.toList.take l=byC l x
 | .si l x p,o=> ∃s,o= .stringIter s p∧SR l x s
theorem UR.mono {ρ ρ':Ren} {u:Nat} {a:AV} {cs:List Value} (h:RLe ρ ρ') (k:UR ρ u a cs):UR ρ' u a cs:=⟨k.vs.mono h,k.len,k.sc,k.by_⟩
theorem BR.mono {ρ ρ':Ren} (h:RLe ρ ρ') {κ:Nat} : ∀ {b:Blk} {o:Obj},BR ρ κ b o→BR ρ' κ b o
 | .dead,_,_=>trivial
 | .row u n t,o,⟨c,ty,fr,e,k1,k2,k3,k4,k5,k⟩=>⟨c,ty,fr,e,k1,k2,k3,k4,k5,fun i hi=>(k i hi).mono h⟩
 | .by l x,o,k=>k
 | .si l x p,o,k=>k
def Dom (ρ:Ren) (n:Nat):Prop:= ∀i p,ρ i=some p→i<n
def aim (n:Nat) (b:Blk):Prop:=b= .dead∨ ∃ρ κ o,Dom ρ n∧BR ρ κ b o
theorem aim.mono {n m:Nat} {b:Blk} (h:n≤m):aim n b→aim m b
 | .inl e=> .inl e
 | .inr ⟨ρ,κ,o,d,k⟩=> .inr ⟨ρ,κ,o,fun i p hi=>Nat.lt_of_lt_of_le (d i p hi) h,k⟩
structure HR (ρ:Ren) (h:HP) (w:World):Prop where
 wf:h.wf
 at_: ∀i b κ,ρ i=some (b,κ)→i<h.n∧ ∃o,w.heap[b]? =some o∧BR ρ κ (h.get i) o
 inj: ∀i j b κ κ',ρ i=some (b,κ)→ρ j=some (b,κ')→h.get i≠ .dead→h.get j≠ .dead→i=j
 low: ∀i,aim h.n (h.get i)
theorem HR.dom {ρ:Ren} {h:HP} {w:World} (hr:HR ρ h w):Dom ρ h.n:=fun i p hi=>(hr.at_ i p.1 p.2 hi).1
structure Ext (ρ:Ren) (h:HP) (w:World) (ρ':Ren) (h':HP) (w':World):Prop where
 le:RLe ρ ρ'
 hr:HR ρ' h' w'
 new: ∀i p,ρ' i=some p→ρ i=none→h.n≤i
 n:h.n≤h'.n
 size:w.heap.size≤w'.heap.size
 frame: ∀b,b<w.heap.size→(∀i κ,ρ i=some (b,κ)→h.get i= .dead)→w'.heap[b]? =w.heap[b]?
 own: ∀i b κ,ρ' i=some (b,κ)→h'.get i≠ .dead→b<w.heap.size→ ∃j κ',ρ j=some (b,κ')∧h.get j≠ .dead
 os:w'.os=w.os
 out:w'.output=w.output
 tape:w'.tape=w.tape
theorem Ext.refl {ρ:Ren} {h:HP} {w:World} (hr:HR ρ h w):Ext ρ h w ρ h w:=
 ⟨RLe.refl ρ,hr,fun i p h1 h2=>(by rw[h1]at h2;cases h2),Nat.le_refl _,Nat.le_refl _,fun _ _ _=>rfl,fun i b κ h1 h2 _=>⟨i,κ,h1,h2⟩,rfl,rfl,rfl⟩
theorem Ext.trans {ρ ρ' ρ'':Ren} {h h' h'':HP} {w w' w'':World} (a:Ext ρ h w ρ' h' w') (b:Ext ρ' h' w' ρ'' h'' w''):Ext ρ h w ρ'' h'' w'' where
 le:=a.le.trans b.le
 hr:=b.hr
 new:=fun i p h1 h2=>by
  cases e:ρ' i with
  |none=>exact Nat.le_trans a.n (b.new i p h1 e)
  |some q=>exact a.new i q e h2
 n:=Nat.le_trans a.n b.n
 size:=Nat.le_trans a.size b.size
 frame:=fun k hk hd=>by
  rw[b.frame k (Nat.lt_of_lt_of_le hk a.size) (fun i κ hi=>?_),a.frame k hk hd]
  refine Classical.byContradiction fun hne=>?_
  obtain⟨j,κ',h1,h2⟩:=a.own i k κ hi hne hk
  exact h2 (hd j κ' h1)
 own:=fun i k κ h1 h2 hk=>by
  obtain⟨j,κ',h3,h4⟩:=b.own i k κ h1 h2 (Nat.lt_of_lt_of_le hk a.size)
  exact a.own j k κ' h3 h4 hk
 os:=b.os.trans a.os
 out:=b.out.trans a.out
 tape:=b.tape.trans a.tape
theorem Ext.below {h:HP} {w:World} {ρ ρ':Ren} {h':HP} {w':World} (a:Ext ρ h w ρ' h' w') (hd: ∀i b κ,ρ i=some (b,κ)→h.get i= .dead):Below w.heap.size w w':=
 ⟨a.os,a.tape,a.out,a.size,fun k hk=>a.frame k hk fun i κ hi=>hd i k κ hi⟩
theorem HR.drew {ρ:Ren} {h:HP} {w w':World} (hr:HR ρ h w) (e:w'.heap=w.heap):HR ρ h w':=⟨hr.wf,fun i b κ hi=>by rw[e];exact hr.at_ i b κ hi,hr.inj,hr.low⟩
theorem Ext.drew {ρ:Ren} {h:HP} {w w':World} (hr:HR ρ h w) (e:w'.heap=w.heap) (e1:w'.os=w.os) (e2:w'.output=w.output) (e3:w'.tape=w.tape):Ext ρ h w ρ h w':=
 ⟨RLe.refl ρ,hr.drew e,fun i p h1 h2=>(by rw[h1]at h2;cases h2),Nat.le_refl _,by rw[e];exact Nat.le_refl _,fun _ _ _=>by rw[e],fun i b κ h1 h2 _=>⟨i,κ,h1,h2⟩,e1,e2,e3⟩
def Ren.put (ρ:Ren) (i b κ:Nat):Ren:=fun j=>if j=i then some (b,κ)else ρ j
theorem Ren.put_self (ρ:Ren) (i b κ:Nat):ρ.put i b κ i=some (b,κ):=if_pos rfl
theorem Ren.put_le {ρ:Ren} {i b κ:Nat} (h:ρ i=none):RLe ρ (ρ.put i b κ):=fun j p hp=>by
 unfold Ren.put
 rw[if_neg (fun e=>by rw[e,h]at hp;cases hp)];exact hp
theorem HR.none {ρ:Ren} {h:HP} {w:World} (hr:HR ρ h w) {i:Nat} (hi:h.n≤i):ρ i=none:=by
 cases e:ρ i with
 |none=>rfl
 |some p=>have:=(hr.at_ i p.1 p.2 e).1;omega
theorem HR.lt {ρ:Ren} {h:HP} {w:World} (hr:HR ρ h w) {i b κ:Nat} (hi:ρ i=some (b,κ)):b<w.heap.size:=by
 obtain⟨_,o,h1,_⟩:=hr.at_ i b κ hi
 exact(Array.getElem?_eq_some_iff.1 h1).1
theorem Ext.push {ρ:Ren} {h:HP} {w w':World} (hr:HR ρ h w) {o:Obj} (e:w'.heap=w.heap.push o) (e1:w'.os=w.os) (e2:w'.output=w.output) (e3:w'.tape=w.tape) {b:Blk} {κ:Nat} (hb:BR ρ κ b o):
  Ext ρ h w (ρ.put h.n w.heap.size κ) (h.push b) w':=by
 have hn:=hr.none (Nat.le_refl h.n)
 have hle:=Ren.put_le (b:=w.heap.size) (κ:=κ) hn
 have hold: ∀k,k<w.heap.size→w'.heap[k]? =w.heap[k]? :=fun k hk=>by rw[e,Array.getElem?_push,if_neg (by omega)]
 have hget: ∀i,i<h.n→(h.push b).get i=h.get i:=fun i hi=>by rw[HP.get_push b hr.wf,if_neg (by omega)]
 refine⟨hle,⟨HP.push_wf b hr.wf,fun i k κ' hi=>?_,fun i j k κ1 κ2 hi hj h1 h2=>?_,fun i=>?_⟩,fun i p h1 h2=>?_,by rw[HP.push_n];omega,by rw[e,Array.size_push];omega,fun k hk _=>hold k hk,fun i k κ' hi hne hk=>?_,e1,e2,e3⟩
 ·unfold Ren.put at hi
  rw[HP.push_n]
  by_cases ei:i=h.n
  ·subst ei
   rw[if_pos rfl]at hi
   injection hi with hi
   injection hi with e4 e5
   subst e4;subst e5
   refine⟨by omega,o,by rw[e,Array.getElem?_push,if_pos rfl],?_⟩
   rw[HP.get_push b hr.wf,if_pos rfl]
   exact hb.mono hle
  ·rw[if_neg ei]at hi
   obtain⟨h1,o',h2,h3⟩:=hr.at_ i k κ' hi
   exact⟨by omega,o',by rw[hold k (hr.lt hi)];exact h2,by rw[hget i h1];exact h3.mono hle⟩
 ·unfold Ren.put at hi hj
  by_cases ei:i=h.n
  ·by_cases ej:j=h.n
   ·rw[ei,ej]
   ·rw[if_pos ei]at hi
    rw[if_neg ej]at hj
    injection hi with hi
    injection hi with e4 e5
    have:=hr.lt hj
    omega
  ·rw[if_neg ei]at hi
   by_cases ej:j=h.n
   ·rw[if_pos ej]at hj
    injection hj with hj
    injection hj with e4 e5
    have:=hr.lt hi
    omega
   ·rw[if_neg ej]at hj
    rw[hget i (hr.at_ i k κ1 hi).1]at h1
    rw[hget j (hr.at_ j k κ2 hj).1]at h2
    exact hr.inj i j k κ1 κ2 hi hj h1 h2
 ·rw[HP.push_n,HP.get_push b hr.wf]
  by_cases ei:i=h.n
  ·rw[if_pos ei]
   refine .inr ⟨_,κ,o,fun j p hj=>?_,hb.mono hle⟩
   unfold Ren.put at hj
   by_cases ej:j=h.n
   ·omega
   ·rw[if_neg ej]at hj;have:=hr.dom j p hj;omega
  ·rw[if_neg ei];exact(hr.low i).mono (Nat.le_succ _)
 ·unfold Ren.put at h1
  by_cases ei:i=h.n
  ·omega
  ·rw[if_neg ei,h2]at h1;cases h1
 ·unfold Ren.put at hi
  by_cases ei:i=h.n
  ·rw[if_pos ei]at hi
   injection hi with hi
   injection hi with e4 e5
   omega
  ·rw[if_neg ei]at hi
   rw[hget i (hr.at_ i k κ' hi).1]at hne
   exact⟨i,κ',hi,hne⟩
theorem Ext.put {ρ:Ren} {h:HP} {w w':World} (hr:HR ρ h w) {i g κ:Nat} (hi:ρ i=some (g,κ)) (hl:h.get i≠ .dead) {o:Obj} (e:w'.heap=w.heap.setIfInBounds g o) (e1:w'.os=w.os) (e2:w'.output=w.output) (e3:w'.tape=w.tape) {b:Blk} (hb:BR ρ κ b o):
  Ext ρ h w ρ (h.set i b) w':=by
 have hin:=(hr.at_ i g κ hi).1
 have hg:=hr.lt hi
 have hget:=fun j=>HP.get_set b hr.wf hin j
 have hold: ∀k,k≠g→w'.heap[k]? =w.heap[k]? :=fun k hk=>by rw[e,Array.getElem?_setIfInBounds_ne (Ne.symm hk)]
 have hother: ∀j k κ',ρ j=some (k,κ')→j≠i→(h.set i b).get j≠ .dead→k≠g:=fun j k κ' hj hji hd ek=>by
  subst ek
  rw[hget,if_neg hji]at hd
  exact hji (hr.inj j i k κ' κ hj hi hd hl)
 refine⟨RLe.refl ρ,⟨HP.set_wf i b hr.wf,fun j k κ' hj=>?_,fun j1 j2 k κ1 κ2 h1 h2 d1 d2=>?_,fun j=>?_⟩,fun j p h1 h2=>(by rw[h1]at h2;cases h2),by rw[HP.set_n];omega,by rw[e,Array.size_setIfInBounds];omega,fun k hk hd=>hold k fun ek=>hl (hd i κ (by rw[ek];exact hi)),fun j k κ' hj hne hk=>?_,e1,e2,e3⟩
 ·rw[HP.set_n]
  obtain⟨h1,o',h2,h3⟩:=hr.at_ j k κ' hj
  refine⟨h1,?_⟩
  by_cases ej:j=i
  ·subst ej
   rw[hi]at hj
   injection hj with hj
   injection hj with e4 e5
   subst e4;subst e5
   refine⟨o,by rw[e,Array.getElem?_setIfInBounds_self_of_lt hg],?_⟩
   rw[hget,if_pos rfl];exact hb
  ·rw[hget,if_neg ej]
   by_cases hd:h.get j= .dead
   ·rw[hd]
    by_cases ek:k=g
    ·exact⟨o,by rw[e,ek,Array.getElem?_setIfInBounds_self_of_lt hg],trivial⟩
    ·exact⟨o',by rw[hold k ek];exact h2,trivial⟩
   ·have ek:k≠g:=hother j k κ' hj ej (by rw[hget,if_neg ej];exact hd)
    exact⟨o',by rw[hold k ek];exact h2,h3⟩
 ·by_cases e4:j1=i
  ·by_cases e5:j2=i
   ·rw[e4,e5]
   ·subst e4
    rw[hi]at h1
    injection h1 with h1
    injection h1 with e6 e7
    exact absurd e6.symm (hother j2 k κ2 h2 e5 d2)
  ·by_cases e5:j2=i
   ·subst e5
    rw[hi]at h2
    injection h2 with h2
    injection h2 with e6 e7
    exact absurd e6.symm (hother j1 k κ1 h1 e4 d1)
   ·rw[hget,if_neg e4]at d1
    rw[hget,if_neg e5]at d2
    exact hr.inj j1 j2 k κ1 κ2 h1 h2 d1 d2
 ·rw[HP.set_n,hget]
  by_cases ej:j=i
  ·rw[if_pos ej];exact .inr ⟨ρ,κ,o,hr.dom,hb⟩
  ·rw[if_neg ej];exact hr.low j
 ·by_cases ej:j=i
  ·exact⟨i,κ',by rw[←ej];exact hj,hl⟩
  ·rw[hget,if_neg ej]at hne
   exact⟨j,κ',hj,hne⟩
theorem Ext.kill {ρ:Ren} {h:HP} {w:World} (hr:HR ρ h w) {i g κ:Nat} (hi:ρ i=some (g,κ)):Ext ρ h w ρ (h.set i .dead) w:=by
 have hin:=(hr.at_ i g κ hi).1
 have hget:=fun j=>HP.get_set .dead hr.wf hin j
 have hl: ∀j,(h.set i .dead).get j≠ .dead→h.get j≠ .dead:=fun j hj=>by
  rw[hget]at hj
  by_cases ej:j=i
  ·rw[if_pos ej]at hj;exact absurd rfl hj
  ·rwa[if_neg ej]at hj
 refine⟨RLe.refl ρ,⟨HP.set_wf i _ hr.wf,fun j k κ' hj=>?_,fun j1 j2 k κ1 κ2 h1 h2 d1 d2=>hr.inj j1 j2 k κ1 κ2 h1 h2 (hl _ d1) (hl _ d2),fun j=>?_⟩,fun j p h1 h2=>(by rw[h1]at h2;cases h2),by rw[HP.set_n];omega,Nat.le_refl _,fun _ _ _=>rfl,fun j k κ' hj hne _=>⟨j,κ',hj,hl j hne⟩,rfl,rfl,rfl⟩
 ·rw[HP.set_n]
  obtain⟨h1,o',h2,h3⟩:=hr.at_ j k κ' hj
  refine⟨h1,o',h2,?_⟩
  rw[hget]
  by_cases ej:j=i
  ·rw[if_pos ej];trivial
  ·rw[if_neg ej];exact h3
 ·rw[HP.set_n,hget]
  by_cases ej:j=i
  ·rw[if_pos ej];exact .inl rfl
  ·rw[if_neg ej];exact hr.low j
end Kv
end
end
section
noncomputable section
namespace Kv
open Go.RowKit
variable {P:Program}
theorem rb {α β:Type} {x:Sem α} {f:α→Sem β} {w w':World} {a:α} (h:x.run P w= .ok a w'):(x>>=f).run P w=(f a).run P w':=by
 have:=Sem.run_bind' P x f w
 rw[h]at this
 exact this
theorem rp {α:Type} (a:α) (w:World):(pure a:Sem α).run P w= .ok a w:=rfl
theorem zV {t:TypeId} {i:TypeInfo} (h:P.info? t=some i) (w:World):(typeInfo t).run P w= .ok i w:=by
 show(match P.info? t with |some i=>(pure i:Sem TypeInfo) |none=>stuck "no such type").run P w=_
 rw[h];rfl
theorem zb {t:TypeId} {d:TypeDesc} (h:P.underlying t=some d) (w:World):(underlying t).run P w= .ok d w:=by
 show(match P.underlying t with |some i=>(pure i:Sem TypeDesc) |none=>stuck "no such type").run P w=_
 rw[h];rfl
theorem yk {t:TypeId} {i:TypeInfo} (h:P.info? t=some i) (w:World):(sizeOf t).run P w= .ok i.size w:=by
 unfold sizeOf
 rw[rb (zV h w)];rfl
theorem yc {t:TypeId} {i:TypeInfo} {z:Value} (h:P.info? t=some i) (hz:i.zero=some z) (w:World):(zeroValue t).run P w= .ok z w:=by
 unfold zeroValue
 rw[rb (zV h w),hz];rfl
def setB (w:World) (b:Nat) (o:Obj):World:= { w with heap:=w.heap.setIfInBounds b o }
section
variable {w:World} {b:Nat} {c:Array Value} {ty:TypeId} {fr:Nat×Nat}
theorem agc (hb:w.heap[b]? =some (.cells c ty fr)) (o:Nat):w.cell? ⟨b,o,none⟩=c[o]? :=by
 unfold World.cell?
 simp only[hb];rfl
theorem agR (hb:w.heap[b]? =some (.cells c ty fr)) {κ:Nat} (hf:NF fr κ) {o:Nat} (ho:o<κ):w.frozen? ⟨b,o,none⟩=false:=by
 unfold World.frozen?
 simp only[hb]
 exact hf o ho
theorem ahE (hb:w.heap[b]? =some (.cells c ty fr)) {o:Nat} {v:Value} (hv:c[o]? =some v):(load ⟨b,o,none⟩).run P w= .ok v w:=by
 simp only[load,Sem.run,agc hb,hv]
theorem vC (b o n:Nat):(⟨b,o,none⟩:Addr).add n=⟨b,o+n,none⟩:=by
 unfold Addr.add
 split
 ·next h=>rw[h];rfl
 ·rfl
theorem jt (hb:w.heap[b]? =some (.cells c ty fr)) (o:Nat): ∀(n i:Nat) (acc:Array Value),o+i+n≤c.size→
  (loadCellsFrom ⟨b,o,none⟩ i n acc).run P w= .ok (acc++((c.toList.drop (o+i)).take n).toArray) w
 |0,i,acc,h=>by simp[loadCellsFrom,rp]
 |n+1,i,acc,h=>by
  unfold loadCellsFrom
  have hlt:o+i<c.size:=by omega
  rw[vC,rb (ahE hb (v:=c[o+i]) (Array.getElem?_eq_getElem hlt)),jt hb o n (i+1) _ (by omega)]
  congr 1
  apply Array.ext'
  simp only[Array.toList_append,Array.toList_push,List.append_assoc]
  congr 1
  rw[List.drop_eq_getElem_cons (l:=c.toList) (i:=o+i) (by simpa using hlt)]
  simp[Nat.add_assoc]
theorem Yv (hb:w.heap[b]? =some (.cells c ty fr)) {o n:Nat} (h:o+n≤c.size):(loadCells ⟨b,o,none⟩ n).run P w= .ok ((c.toList.drop o).take n).toArray w:=by
 unfold loadCells
 rw[jt hb o n 0 #[] (by omega)]
 simp
def air (v:Value):Bool:=match v with | .agg _=>false| .tuple _=>false|_=>true
theorem aBM (hb:w.heap[b]? =some (.cells c ty fr)) {o:Nat} {v:Value} (ho:o<c.size) (hf:w.frozen? ⟨b,o,none⟩=false) (h1:air v=true):(store ⟨b,o,none⟩ v).run P w= .ok () (setB w b (.cells (c.setIfInBounds o v) ty fr)):=by
 have hs:w.setCell ⟨b,o,none⟩ v=setB w b (.cells (c.setIfInBounds o v) ty fr):=by
  unfold World.setCell setB
  have hlt:=(Array.getElem?_eq_some_iff.1 hb).1
  have hg:=(Array.getElem?_eq_some_iff.1 hb).2
  congr 1
  apply Array.ext
  ·simp
  ·intro i h1 h2
   simp only[Array.size_modify]at h1
   by_cases e:b=i
   ·subst e
    rw[Array.getElem_modify_self,hg]
    simp
   ·rw[Array.getElem_modify_of_ne (by omega)]
    rw[Array.getElem_setIfInBounds_ne (by omega) (by omega)]
 unfold store
 have:w.cell? ⟨b,o,none⟩=some c[o]:=by rw[agc hb,Array.getElem?_eq_getElem ho]
 cases v<;>first | (simp[air]at h1;done) | (simp only[Sem.run,this,hf,hs];rfl)
theorem ajy (hb:w.heap[b]? =some (.cells c ty fr)) (o:Obj):(setB w b o).heap[b]? =some o:=by
 unfold setB
 exact Array.getElem?_setIfInBounds_self_of_lt (Array.getElem?_eq_some_iff.1 hb).1
theorem ahZ (w:World) (b:Nat) (o o':Obj):setB (setB w b o) b o'=setB w b o':=by
 unfold setB
 simp
def jX (c:Array Value) (o:Nat) (vs:List Value):Array Value:=(c.toList.take o++(vs++c.toList.drop (o+vs.length))).toArray
theorem Zt (c:Array Value) (o:Nat):jX c o []=c:=by simp[jX]
theorem YC {c:Array Value} {o:Nat} {vs:List Value} (h:o+vs.length≤c.size):(jX c o vs).size=c.size:=by
 simp[jX];omega
theorem JL (c:Array Value) (o:Nat) (v:Value) (vs:List Value) (h:o<c.size):jX (c.setIfInBounds o v) (o+1) vs=jX c o (v::vs):=by
 unfold jX
 apply Array.ext'
 simp only[Array.toList_setIfInBounds]
 have hl:(c.toList.take o).length=o:=by simp;omega
 have e:c.toList.set o v=c.toList.take o++v::c.toList.drop (o+1):=by rw[List.set_eq_take_append_cons_drop,if_pos (by simpa using h)]
 have e1:(c.toList.take o++v::c.toList.drop (o+1)).take (o+1)=c.toList.take o++[v]:=by
  have:=List.take_length_add_append (l₁:=c.toList.take o) (l₂:=v::c.toList.drop (o+1)) 1
  rw[hl]at this
  rw[this];rfl
 have e2:(c.toList.take o++v::c.toList.drop (o+1)).drop (o+1+vs.length)=c.toList.drop (o+(v::vs).length):=by
  have:=List.drop_length_add_append (l₁:=c.toList.take o) (l₂:=v::c.toList.drop (o+1)) (1+vs.length)
  rw[hl]at this
  rw[Nat.add_assoc,this,Nat.add_comm 1,List.drop_succ_cons,List.drop_drop,List.length_cons]
  congr 1;omega
 rw[e,e1,e2]
 simp
theorem ahY {o:Obj} (hb:w.heap[b]? =some o):setB w b o=w:=by
 have hlt:=(Array.getElem?_eq_some_iff.1 hb).1
 have hg:=(Array.getElem?_eq_some_iff.1 hb).2
 have:w.heap.setIfInBounds b o=w.heap:=by
  rw[←hg]
  apply Array.ext'
  rw[Array.toList_setIfInBounds,←Array.getElem_toList hlt,List.set_getElem_self]
 unfold setB
 rw[this]
theorem yH {κ:Nat} (hk:c.size=κ) (hf:NF fr κ): ∀(vs:List Value) (w:World) (c:Array Value) (o i:Nat),w.heap[b]? =some (.cells c ty fr)→c.size=κ→o+i+vs.length≤κ→(∀v∈vs,air v=true)→
  (storeCells ⟨b,o,none⟩ vs i).run P w= .ok () (setB w b (.cells (jX c (o+i) vs) ty fr))
 | [],w,c,o,i,hb,hc,h,_=>by
  unfold storeCells
  rw[Zt,rp]
  rw[ahY hb]
 |v::vs,w,c,o,i,hb,hc,h,h1=>by
  have h':o+i+(vs.length+1)≤κ:=h
  unfold storeCells
  rw[vC,rb (aBM hb (by omega) (agR hb hf (by omega)) (h1 v List.mem_cons_self)),yH hk hf vs _ _ o (i+1) (ajy hb _) (by simp[hc]) (by omega) (fun x hx=>h1 x (List.mem_cons_of_mem _ hx)),ahZ]
  rw[show o+(i+1)=o+i+1 by omega,JL _ _ _ _ (by omega)]
end
end Kv
end
end
section
noncomputable section
namespace Kv
open Go.RowKit
variable {P:Program}
theorem vf (k:IntKind):zh (an1 k)=k:=by cases k<;>rfl
theorem Kh (k:IntKind):an1 k<8:=by cases k<;>decide
theorem yD (c:Nat):0<mdN c:=Nat.pow_pos (by omega)
theorem aaw (c:Nat):hfN c+hfN c=if y9 c=true then mdN c else 0:=by
 unfold hfN
 rw[zN]
 split
 ·show 2^(8<<<(Nat.land c 3) -1)+2^(8<<<(Nat.land c 3) -1)=2^(8<<<(Nat.land c 3))
  have h:8<<<(Nat.land c 3)=(8<<<(Nat.land c 3) -1)+1:=by
   have:0<8<<<(Nat.land c 3):=by rw[Nat.shiftLeft_eq];exact Nat.mul_pos (by omega) (Nat.pow_pos (by omega))
   omega
  generalize 8<<<(Nat.land c 3) -1=m at *
  rw[h,Nat.pow_succ];omega
 ·rfl
theorem aiL (c m:Nat):aAU c (.ofNat m)=if m<(if y9 c=true then hfN c else mdN c)then .int c m else .un:=by
 unfold aAU
 simp only
 rw[zf,zN];rfl
theorem aiM (c m:Nat):aAU c (.negSucc m)=if y9 c=true then(if m<hfN c then .int c (mdN c-1-m)else .un)else .un:=by
 unfold aAU
 simp only
 rw[zN,zf];rfl
theorem aAV {c:Nat} (hc:c<8) {n:Int} (ρ:Ren) (h:aAU c n≠ .un):VR ρ (aAU c n) (.int (zh c) n):=by
 have hh:=aaw c
 cases n with
 | ofNat m=>
  rw[aiL]at h⊢
  by_cases hm:m<(if y9 c=true then hfN c else mdN c)
  ·rw[if_pos hm]
   refine⟨?_,?_,hc⟩
   ·congr 1
    unfold toI
    by_cases hs:y9 c=true
    ·rw[if_pos hs]at hm
     rw[if_neg (by omega)];rfl
    ·rw[if_neg (fun k=>hs k.1)];rfl
   ·by_cases hs:y9 c=true
    ·rw[if_pos hs]at hm hh;omega
    ·rw[if_neg hs]at hm;omega
  ·rw[if_neg hm]at h;exact absurd rfl h
 | negSucc m=>
  rw[aiM]at h⊢
  by_cases hs:y9 c=true
  ·rw[if_pos hs]at h hh⊢
   by_cases hm:m<hfN c
   ·rw[if_pos hm]
    have hp:=yD c
    refine⟨?_,by omega,hc⟩
    congr 1
    unfold toI
    rw[if_pos ⟨hs,by omega⟩]
    omega
   ·rw[if_neg hm]at h;exact absurd rfl h
  ·rw[if_neg hs]at h;exact absurd rfl h
theorem aaP: ∀(l:List UInt8) (a:Nat),abR l a=a*256^l.length+val (l.map UInt8.toNat)
 | [],a=>by simp[abR,val]
 |b::l,a=>by
  show abR l (256*a+b.toNat)=_
  rw[aaP l,List.map_cons,val,List.length_map,List.length_cons,Nat.pow_succ,Nat.add_mul]
  rw[show 256*a*256^l.length=a*(256^l.length*256)by rw[Nat.mul_comm 256 a,Nat.mul_assoc,Nat.mul_comm 256]]
  omega
theorem aNb (l:List UInt8): ∀b∈l.map UInt8.toNat,b<256:=by
 intro b hb
 obtain⟨x,_,rfl⟩:=List.mem_map.1 hb
 exact x.toNat_lt
theorem aou (s:ByteArray):SR s.size (abR s.data.toList 0) s:=by
 have h:=aaP s.data.toList 0
 rw[Nat.zero_mul,Nat.zero_add]at h
 have hl:(s.data.toList.map UInt8.toNat).length=s.size:=by rw[List.length_map];rfl
 have h1:=V1 _ (aNb s.data.toList) 0
 have h2:=JP _ (aNb s.data.toList)
 rw[hl]at h1 h2
 rw[Nat.zero_mul,Nat.zero_add]at h1
 exact⟨by rw[h,h1],by rw[h];exact h2⟩
theorem agt (ρ:Ren): ∀(v:Value),cvt v≠ .un→VR ρ (cvt v) v:=by
 intro v
 unfold cvt
 split<;>intro h
 ·exact rfl
 ·have:=aAV (Kh _) ρ h
  rw[vf]at this
  exact this
 ·exact rfl
 ·exact⟨_,rfl,aou _⟩
 ·exact rfl
 ·exact rfl
 ·exact rfl
 ·exact rfl
 ·exact absurd rfl h
theorem vD: ∀l:List AV,YT l=l.all sca
 | []=>rfl
 |a::l=>by
  show @Bool.rec (fun _=>Bool) false (YT l) (sca a)=_
  rw[vD l,List.all_cons]
  cases sca a<;>rfl
theorem aof {a:AV} (h:sca a=true):a≠ .un:=fun e=>by rw[e]at h;cases h
theorem V7 (ρ:Ren): ∀l:List Value,(l.map cvt).all sca=true→VRs ρ (l.map cvt) l
 | [],_=>rfl
 |v::l,h=>by
  rw[List.map_cons,List.all_cons,Bool.and_eq_true]at h
  exact⟨v,l,rfl,agt ρ v (aof h.1),V7 ρ l h.2⟩
def qQ (d:TypeDesc):Bool:=match d with | .struct _=>true| .array _ _=>true|_=>false
def Ty.plain (ty:Ty):Bool:=match ty with | .sc _=>true|_=>false
structure TyF (P:Program) (t:TypeId) (i:TypeInfo) (d:TypeDesc) (ty:Ty):Prop where
 hi:P.info? t=some i
 hd:P.underlying t=some d
 size:i.size=ty.cells
 bytes:i.bytes≤1048576
 pos:0<ty.cells
 zero: ∃z,i.zero=some z∧(∀ρ,VR ρ ty.zero z)∧ ∀ρ,UR ρ ty.cells ty.zero z.cells.toList
 agg:qQ d= !ty.plain
 ba: ∀n,ty= .ba n→ ∃e,d= .array n e∧Kg P e=true
 sc: ∀z,ty= .sc z→sca z=true
 u8:Kg P t=yh ty
theorem jN {a:AV} (h:sca a=true):xF a=[a]:=by
 cases a<;>first |rfl| (cases h)
theorem vA {ρ:Ren} {a:AV} {v:Value} (h:VR ρ a v) (hs:sca a=true):v.cells= #[v]∧air v=true:=by
 cases a<;>first
  | (cases hs;done)
  | (obtain rfl:_=_:=h;exact⟨rfl,rfl⟩)
  | (obtain⟨_,_,rfl⟩:=h;exact⟨rfl,rfl⟩)
  | (obtain⟨_,rfl,_⟩:=h;exact⟨rfl,rfl⟩)
  | (obtain⟨_,_,rfl,_⟩:=h;exact⟨rfl,rfl⟩)
  | (obtain⟨_,_,_,rfl,_⟩:=h;exact⟨rfl,rfl⟩)
  | (obtain⟨_,_,_,rfl⟩:=h;exact⟨rfl,rfl⟩)
  | (obtain⟨_,_,_,_,rfl,_⟩:=h;exact⟨rfl,rfl⟩)
  | (obtain⟨rfl,_⟩:=h;exact⟨rfl,rfl⟩)
theorem vN (t:TypeId):Kg P t=true↔P.underlying t=some (.int .u8):=by
 unfold Kg
 constructor
 ·intro h
  split at h
  ·assumption
  ·cases h
 ·intro h;rw[h]
theorem aCb {n:Nat} {z:Option Value} (h:aSi n z=true): ∃cs,z=some (.agg cs)∧cs.toList=byC n 0:=by
 unfold aSi at h
 split at h
 ·next cs=>
  rw[zg]at h
  split at h
  ·next hn=>
   refine⟨cs,rfl,?_⟩
   have hz: ∀v,aRW v=true→v= .int .u8 0:=by
    intro v hv
    unfold aRW at hv
    split at hv
    ·split at hv
     ·next m=>rw[Nat.beq_eq]at hv;rw[hv];rfl
     ·cases hv
    ·cases hv
   have hb: ∀k,bys k 0=List.replicate k 0:=by
    intro k
    induction k with
    |zero=>rfl
    |succ k ih=>rw[bys,ih,Nat.zero_div];rfl
   unfold byC
   rw[hb,List.map_replicate,List.eq_replicate_iff]
   exact⟨hn,fun v hv=>hz v (List.all_eq_true.1 h v hv)⟩
  ·cases h
 ·cases h
theorem KJ {ρ:Ren} {a:AV} {v:Value} (h:VR ρ a v) (hs:sca a=true):UR ρ 1 a [v]:=by
 refine⟨?_,rfl,?_,?_⟩
 ·rw[jN hs];exact⟨v,[],rfl,h,rfl⟩
 ·rw[jN hs];simp[hs]
 ·intro l x e;rw[e]at hs;cases hs
theorem QN {ρ:Ren} {l:List AV} {cs:List Value} (h:VRs ρ l cs) (hs:l.all sca=true):UR ρ l.length (.agg l) cs:=
 ⟨h,(VRs.length _ _ h).symm,hs,fun _ _ e=>by cases e⟩
theorem aiw {ρ:Ren} {l x:Nat} (h:x<256^l):UR ρ l (.ba l x) (byC l x):=
 ⟨jA ρ l x,by rw[byC,List.length_map,zo],jM l x,fun _ _ e=>by injection e with e1 e2;subst e1;subst e2;exact h⟩
theorem aj1 {t:TypeId} {i:TypeInfo} {d:TypeDesc} (hi:P.info? t=some i) (hd:P.underlying t=some d) (hb:i.bytes≤1048576) (ha:qQ d=true) (h:agT i≠ .no):TyF P t i d (agT i):=by
 unfold agT at h⊢
 split at h
 ·next cs hz=>
  simp only at h⊢
  rw[zg]at h⊢
  split at h
  ·next h1=>
   rw[if_pos h1]
   rw[zf]at h⊢
   split at h
   ·next h2=>
    rw[if_pos h2]
    rw[zN,vD]at h⊢
    split at h
    ·next h3=>
     rw[if_pos h3]
     refine⟨hi,hd,h1,hb,h2,⟨_,hz,fun ρ=>⟨cs,rfl,V7 ρ _ h3,h3⟩,fun ρ=>?_⟩,ha,(fun n e=>by cases e),(fun z e=>by cases e),?_⟩
     ·have:=QN (V7 ρ _ h3) h3
      rw[xU];exact this
     ·show Kg P t=false
      rw[Bool.eq_false_iff]
      intro hu
      rw[vN,hd]at hu
      injection hu with hu
      rw[hu]at ha;cases ha
    ·exact absurd rfl h
   ·exact absurd rfl h
  ·exact absurd rfl h
 ·exact absurd rfl h
theorem aM4 {t:TypeId} {i:TypeInfo} {d:TypeDesc} (hi:P.info? t=some i) (hd:P.underlying t=some d) (hb:i.bytes≤1048576) (h1:i.size=1) (ha:qQ d=false) (h:scT (Kg P t) i≠ .no):TyF P t i d (scT (Kg P t) i):=by
 unfold scT at h⊢
 split at h
 ·next v hz=>
  rw[zN]at h⊢
  split at h
  ·next h2=>
   rw[if_pos h2]
   rw[zN]at h⊢
   split at h
   ·next h3=>
    rw[if_pos h3]
    have hv:=fun ρ=>agt ρ v (aof h2)
    refine⟨hi,hd,h1,hb,(by show 0<1;omega),⟨v,hz,hv,fun ρ=>?_⟩,ha,(fun n e=>by cases e),(fun z e=>by injection e with e;rw[←e];exact h2),?_⟩
    ·rw[(vA (hv ρ) h2).1]
     exact KJ (hv ρ) h2
    ·show Kg P t=yh (.sc (cvt v))
     rw[zN,zN]at h3
     cases h4:Kg P t<;>cases h5:yh (.sc (cvt v))<;>rw[h4,h5]at h3<;>first |rfl|cases h3
   ·exact absurd rfl h
  ·exact absurd rfl h
 ·exact absurd rfl h
theorem zW {t:TypeId} (h:zw P t≠ .no): ∃i d,TyF P t i d (zw P t):=by
 unfold zw at h⊢
 split at h
 ·exact absurd rfl h
 ·next i hi=>
  rw[zf]at h
  split at h
  ·next hb=>
   rw[zf,if_pos hb]
   split at h
   ·next n e hd=>
    rw[zN]at h⊢
    split at h
    ·next he=>
     rw[if_pos he]
     rw[zg]at h⊢
     split at h
     ·next hn=>
      rw[if_pos hn]
      rw[zf]at h⊢
      split at h
      ·next h1=>
       rw[if_pos h1]
       rw[zN]at h⊢
       split at h
       ·next hz=>
        rw[if_pos hz]
        obtain⟨cs,e1,e2⟩:=aCb hz
        refine⟨i,_,hi,hd,hn,hb,h1,⟨_,e1,fun ρ=>⟨cs,rfl,e2,Nat.pow_pos (by omega)⟩,fun ρ=>?_⟩,rfl,fun m em=>?_,(fun z ez=>by cases ez),?_⟩
        ·show UR ρ n (.ba n 0) cs.toList
         rw[e2];exact aiw (Nat.pow_pos (by omega))
        ·injection em with em;subst em;exact⟨e,rfl,he⟩
        ·show Kg P t=false
         rw[Bool.eq_false_iff]
         intro hu
         rw[vN,hd]at hu
         injection hu with hu;cases hu
       ·exact absurd rfl h
      ·exact absurd rfl h
     ·exact absurd rfl h
    ·next he=>rw[if_neg he];exact⟨i,_,aj1 hi hd hb rfl h⟩
   ·next fs hd=>exact⟨i,_,aj1 hi hd hb rfl h⟩
   ·next d hn1 hn2 hd=>
    have ha:qQ d=false:=by
     cases d<;>first |rfl|exact(hn2 _ rfl).elim|exact(hn1 _ _ rfl).elim
    rw[zg]at h⊢
    split at h
    ·next h1=>rw[if_pos h1];exact⟨i,d,aM4 hi hd hb h1 ha h⟩
    ·exact absurd rfl h
   ·exact absurd rfl h
  ·exact absurd rfl h
end Kv
end
end
section
noncomputable section
namespace Kv
open Go.RowKit
variable {P:Program}
def qx {α:Type} (l:List α) (o:Nat) (vs:List α):List α:=l.take o++(vs++l.drop (o+vs.length))
theorem xZ {α:Type} {l:List α} {o:Nat} {vs:List α} (h:o+vs.length≤l.length) (x:Nat):(qx l o vs)[x]? =if x<o then l[x]? else if x<o+vs.length then vs[x-o]? else l[x]? :=by
 unfold qx
 by_cases h1:x<o
 ·rw[if_pos h1,List.getElem?_append_left (by simp;omega),List.getElem?_take_of_lt h1]
 ·rw[if_neg h1,List.getElem?_append_right (by simp;omega)]
  have e:(l.take o).length=o:=by simp;omega
  rw[e]
  by_cases h2:x<o+vs.length
  ·rw[if_pos h2,List.getElem?_append_left (by omega)]
  ·rw[if_neg h2,List.getElem?_append_right (by omega),List.getElem?_drop]
   congr 1;omega
theorem vr {α:Type} {l:List α} {o:Nat} {vs:List α} (h:o+vs.length≤l.length):(qx l o vs).length=l.length:=by
 simp[qx];omega
theorem jx (c:Array Value) (o:Nat) (vs:List Value):(jX c o vs).toList=qx c.toList o vs:=rfl
theorem QF (l:List AV) (k:Nat) (m:List AV):spl l k m=qx l k m:=aM6 l k m
def yx {α:Type} (l:List α) (u k:Nat):List α:=(l.drop (k*u)).take u
theorem xG {α:Type} (l:List α) (u k m:Nat):(yx l u k)[m]? =if m<u then l[k*u+m]? else none:=by
 unfold yx
 rw[List.getElem?_take]
 split
 ·rw[List.getElem?_drop]
 ·rfl
theorem jk {α:Type} {l:List α} {u k n:Nat} (hk:k<n) (h:u*n≤l.length):(yx l u k).length=u:=by
 have:(k+1)*u≤n*u:=Nat.mul_le_mul_right _ hk
 rw[Nat.add_mul,Nat.mul_comm n]at this
 simp[yx];omega
theorem age {α:Type} {l:List α} {u i j n:Nat} {vs:List α} (hi:i<n) (hl:u*n≤l.length) (hj:j+vs.length≤u) (k:Nat):
  yx (qx l (i*u+j) vs) u k=if k=i then qx (yx l u i) j vs else yx l u k:=by
 have h1:(i+1)*u≤n*u:=Nat.mul_le_mul_right _ hi
 rw[Nat.add_mul,Nat.mul_comm n]at h1
 have hb:i*u+j+vs.length≤l.length:=by omega
 apply List.ext_getElem?
 intro m
 rw[xG,xZ hb]
 by_cases e:k=i
 ·subst e
  rw[if_pos rfl,xZ (by rw[jk hi hl];exact hj),xG]
  by_cases hm:m<u
  ·rw[if_pos hm,if_pos hm]
   by_cases c1:m<j
   ·rw[if_pos c1,if_pos (by omega)]
   ·rw[if_neg c1,if_neg (by omega)]
    by_cases c2:m<j+vs.length
    ·rw[if_pos c2,if_pos (by omega)]
     congr 1;omega
    ·rw[if_neg c2,if_neg (by omega)]
  ·rw[if_neg hm,if_neg hm,if_neg (by omega),if_neg (by omega)]
 ·rw[if_neg e,xG]
  by_cases hm:m<u
  ·rw[if_pos hm,if_pos hm]
   rcases Nat.lt_or_gt_of_ne e with h|h
   ·have:(k+1)*u≤i*u:=Nat.mul_le_mul_right _ h
    rw[Nat.add_mul]at this
    rw[if_pos (by omega)]
   ·have:(i+1)*u≤k*u:=Nat.mul_le_mul_right _ h
    rw[Nat.add_mul]at this
    rw[if_neg (by omega),if_neg (by omega)]
  ·rw[if_neg hm,if_neg hm]
theorem VRs.spl {ρ:Ren} {a b:List AV} {v w:List Value} {o:Nat} (h:VRs ρ a v) (k:VRs ρ b w):VRs ρ (qx a o b) (qx v o w):=by
 unfold qx
 have:=VRs.length _ _ k
 rw[this]
 exact(h.take o).append (k.append (h.drop _))
theorem j0 {a b:List AV} {o:Nat} (h:a.all sca=true) (k:b.all sca=true):(qx a o b).all sca=true:=
 Zz (xT o h) (Zz k (xS _ h))
theorem jZ {ρ:Ren} {b:Nat} {v:Value} (h:VR ρ (.int 4 b) v):v= .int .u8 (b:Nat)∧b<256:=by
 obtain⟨h1,h2,_⟩:=h
 have:toI 4 b=(b:Int):=by unfold toI;rw[if_neg (fun h=>absurd h.1 (by decide))]
 rw[this]at h1
 exact⟨h1,h2⟩
theorem jR {ρ:Ren} : ∀(l:List Nat) (v:List Value),VRs ρ (l.map (AV.int 4)) v→v=l.map fun b=>Value.int .u8 (b:Nat)
 | [],v,h=>h
 |b::l,v,⟨x,y,e,h1,h2⟩=>by rw[e,(jZ h1).1,jR l y h2];rfl
theorem yL {ρ:Ren} {l x:Nat} {v:List Value} (h:VRs ρ (xE l x) v):v=byC l x:=by
 rw[yw]at h
 exact jR _ _ h
theorem UR.cell {ρ:Ren} {u:Nat} {a:AV} {cs:List Value} (h:UR ρ u a cs) {j:Nat} (hj:j<u): ∃v,cs[j]? =some v∧VR ρ (Za a j) v∧sca (Za a j)=true:=by
 have hl:=VRs.length _ _ h.vs
 obtain⟨x,y,e1,e2,e3⟩:=VRs.get j h.vs (by rw[hl,h.len];exact hj)
 have e:Za a j=x:=by
  have h1: ∀b:AV,xF b=[b]→a=b→Za b j=b→Za a j=x:=fun b hb e hc=>by
   subst e
   rw[hb]at e1
   cases j with
   |zero=>injection e1 with e1;rw[hc,e1]
   |succ j=>cases e1
  cases a
  case agg l=>show nth l j=x;rw[aaH];rw[show l[j]? =some x from e1];rfl
  case ba l z=>
   have h2:(xE l z)[j]? =some x:=e1
   have hlt:j<l:=by
    have:=(List.getElem?_eq_some_iff.1 h2).1
    rw[yw,List.length_map,zo]at this
    exact this
   rw[yw,List.getElem?_map,XX hlt]at h2
   injection h2
  all_goals exact h1 _ rfl rfl rfl
 rw[e]
 exact⟨y,e2,e3,List.all_eq_true.1 h.sc x (List.mem_of_getElem? e1)⟩
theorem Jf {l:List AV} {j c:Nat} (h:Je l j c (.agg l)≠ .un):j+c≤l.length∧Je l j c (.agg l)= .agg ((l.drop j).take c):=by
 unfold Je at h⊢
 simp only[zg,zf,xU,aa8,aao]at h⊢
 by_cases h0:j=0
 ·subst h0
  rw[if_pos rfl]at h⊢
  by_cases h1:c=l.length
  ·rw[if_pos h1]
   subst h1
   exact⟨by omega,by simp⟩
  ·rw[if_neg h1]at h⊢
   by_cases h2:c≤l.length
   ·rw[if_pos h2];exact⟨by omega,by simp⟩
   ·rw[if_neg h2]at h;exact absurd rfl h
 ·rw[if_neg h0]at h⊢
  by_cases h2:Nat.add j c≤l.length
  ·rw[if_pos h2];exact⟨h2,rfl⟩
  ·rw[if_neg h2]at h;exact absurd rfl h
theorem UR.cells {ρ:Ren} {u:Nat} {a:AV} {cs:List Value} (h:UR ρ u a cs) {j c:Nat} (hj:j<u) (hu:J1 a j c≠ .un):j+c≤u∧ ∃l,J1 a j c= .agg l∧VRs ρ l ((cs.drop j).take c)∧l.all sca=true:=by
 have hl:=VRs.length _ _ h.vs
 rw[h.len]at hl
 have h1: ∀b:AV,xF b=[b]→a=b→J1 b j c= @Bool.rec (fun _=>AV) .un (.agg [b]) (Nat.beq c 1)→j+c≤u∧ ∃l,J1 a j c= .agg l∧VRs ρ l ((cs.drop j).take c)∧l.all sca=true:=fun b hb e hc=>by
  subst e
  rw[hc,zg]at hu⊢
  rw[hb]at hl
  have hv:=h.vs
  have hs:=h.sc
  rw[hb]at hv hs
  have:1=u:=hl
  by_cases h1:c=1
  ·rw[if_pos h1]
   have:j=0:=by omega
   subst this;subst h1
   refine⟨by omega,_,rfl,?_,hs⟩
   have:=VRs.length _ _ hv
   rw[List.drop_zero,List.take_of_length_le (by rw[←this];simp)]
   exact hv
  ·rw[if_neg h1]at hu;exact absurd rfl hu
 cases a
 case agg l=>
  obtain⟨e1,e2⟩:=Jf (l:=l) (j:=j) (c:=c) hu
  have hl:l.length=u:=hl
  refine⟨by omega,_,e2,(h.vs.drop j).take c,xT _ (xS _ h.sc)⟩
 case ba l x=>exact absurd rfl hu
 all_goals exact h1 _ rfl rfl rfl
theorem Qt {t:TypeId} {d:TypeDesc} (hd:P.underlying t=some d) (w:World):(isAgg t).run P w= .ok (qQ d) w:=by
 unfold isAgg
 rw[rb (zb hd w)]
 cases d<;>rfl
theorem JC {t:TypeId} {d:TypeDesc} (hd:P.underlying t=some d) (ha:qQ d=false) (a:Addr) (w:World):(loadVar t a).run P w=(load a).run P w:=by
 unfold loadVar
 rw[rb (Qt hd w),ha];rfl
theorem ju {t:TypeId} {i:TypeInfo} {d:TypeDesc} (hi:P.info? t=some i) (hd:P.underlying t=some d) (ha:qQ d=true) {w:World} {b:Nat} {c:Array Value} {ty:TypeId} {fr:Nat×Nat} (hb:w.heap[b]? =some (.cells c ty fr)) {o:Nat} (h:o+i.size≤c.size):
  (loadVar t ⟨b,o,none⟩).run P w= .ok (.agg ((c.toList.drop o).take i.size).toArray) w:=by
 unfold loadVar
 rw[rb (Qt hd w),ha]
 simp only[if_true]
 rw[rb (yk hi w)]
 rw[rb (Yv hb h)];rfl
theorem Zb (o u:Nat):o / u*u+o%u=o:=by rw[Nat.mul_comm];exact Nat.div_add_mod o u
theorem aRZ {t:TypeId} {i:TypeInfo} {d:TypeDesc} {ty:Ty} (F:TyF P t i d ty) {ρ:Ren} {κ b o:Nat} {blk:Blk} {ob:Obj} {w:World} (hb:w.heap[b]? =some ob) (hB:BR ρ κ blk ob) (hu:(ldC ty).f blk o≠ .un):
  ∃v,(loadVar t ⟨b,o,none⟩).run P w= .ok v w∧VR ρ ((ldC ty).f blk o) v:=by
 cases ty with
 |no=>have:=F.pos;exact absurd this (by simp[Ty.cells])
 | sc z=>
  have ha:qQ d=false:=F.agg
  rw[JC F.hd ha]
  cases blk with
  |dead=>exact absurd rfl hu
  |si l x p=>exact absurd rfl hu
  | row u n tt=>
   obtain⟨c,tid,fr,rfl,h1,h2,h3,h4,h5,h6⟩:=hB
   have e:(ldC (.sc z)).f (.row u n tt) o=if n≤o / u then .un else Za (tt.get (o / u)) (o%u):=zf _ _ _ _
   rw[e]at hu⊢
   by_cases hn:n≤o / u
   ·rw[if_pos hn]at hu;exact absurd rfl hu
   ·rw[if_neg hn]
    obtain⟨v,e1,e2,_⟩:=(h6 (o / u) (by omega)).cell (Nat.mod_lt o h3)
    have e3:=xG c.toList u (o / u) (o%u)
    rw[if_pos (Nat.mod_lt o h3),Zb]at e3
    change (yx c.toList u (o / u))[o%u]? =some v at e1
    rw[e3]at e1
    exact⟨v,ahE hb (by rw[←Array.getElem?_toList];exact e1),e2⟩
  | «by» l x=>
   obtain⟨c,tid,fr,rfl,h1,h2,h3,h4,h5⟩:=hB
   have e:(ldC (.sc z)).f (.by l x) o=if l≤o then .un else .int 4 (byt l x o):=zf _ _ _ _
   rw[e]at hu⊢
   by_cases hn:l≤o
   ·rw[if_pos hn]at hu;exact absurd rfl hu
   ·rw[if_neg hn]
    have hlt:o<l:=by omega
    have e3:(c.toList.take l)[o]? =(byC l x)[o]? :=by rw[h5]
    rw[List.getElem?_take_of_lt hlt,byC,List.getElem?_map,XX hlt]at e3
    exact⟨_,ahE hb (by rw[←Array.getElem?_toList];exact e3),JZ ρ (anL l x o)⟩
 | ag k z=>
  have ha:qQ d=true:=F.agg
  have hk:i.size=k:=F.size
  cases blk with
  |dead=>exact absurd rfl hu
  |si l x p=>exact absurd rfl hu
  | «by» l x=>exact absurd rfl hu
  | row u n tt=>
   obtain⟨c,tid,fr,rfl,h1,h2,h3,h4,h5,h6⟩:=hB
   have e:(ldC (.ag k z)).f (.row u n tt) o=if n≤o / u then .un else J1 (tt.get (o / u)) (o%u) k:=zf _ _ _ _
   rw[e]at hu⊢
   by_cases hn:n≤o / u
   ·rw[if_pos hn]at hu;exact absurd rfl hu
   ·rw[if_neg hn]at hu⊢
    obtain⟨e1,l,e2,e3,e4⟩:=(h6 (o / u) (by omega)).cells (Nat.mod_lt o h3) hu
    have hm:(o / u+1)*u≤n*u:=Nat.mul_le_mul_right _ (by omega)
    rw[Nat.add_mul,Nat.mul_comm n]at hm
    have hd:=Zb o u
    refine⟨_,ju F.hi F.hd ha hb (by rw[hk];omega),?_⟩
    rw[e2,hk]
    refine⟨_,rfl,?_,e4⟩
    have e5:((yx c.toList u (o / u)).drop (o%u)).take k=(c.toList.drop o).take k:=by
     unfold yx
     rw[List.drop_take,List.drop_drop,List.take_take,Zb,Nat.min_eq_left (by omega)]
    rw[←e5]
    exact e3
 | ba m=>
  have ha:qQ d=true:=F.agg
  have hk:i.size=m:=F.size
  cases blk with
  |dead=>exact absurd rfl hu
  |si l x p=>exact absurd rfl hu
  | «by» l x=>
   obtain⟨c,tid,fr,rfl,h1,h2,h3,h4,h5⟩:=hB
   have e:(ldC (.ba m)).f (.by l x) o=if o+m≤l then .ba m (sub l x o (o+m))else .un:=zf _ _ _ _
   rw[e]at hu⊢
   by_cases hn:o+m≤l
   ·rw[if_pos hn]
    refine⟨_,ju F.hi F.hd ha hb (by rw[hk];omega),_,rfl,?_,?_⟩
    ·have e1:=vc (l:=l) (x:=x) (i:=o) (j:=o+m) (by omega) hn
     rw[show o+m-o=m by omega]at e1
     unfold byC
     rw[e1,List.map_drop,List.map_take]
     change _=((byC l x).take (o+m)).drop o
     rw[←h5,List.take_take,Nat.min_eq_left hn,List.drop_take,show o+m-o=m by omega,hk]
    ·have:=Zh l x o (o+m)
     rwa[show o+m-o=m by omega]at this
   ·rw[if_neg hn]at hu;exact absurd rfl hu
  | row u n tt=>
   obtain⟨c,tid,fr,rfl,h1,h2,h3,h4,h5,h6⟩:=hB
   have e:(ldC (.ba m)).f (.row u n tt) o=if n≤o / u then .un else ldU (tt.get (o / u)) (o%u) (.ba m):=zf _ _ _ _
   rw[e]at hu⊢
   by_cases hn:n≤o / u
   ·rw[if_pos hn]at hu;exact absurd rfl hu
   ·rw [if_neg hn]at hu⊢
    have hU:=h6 (o / u) (by omega)
    generalize tt.get (o / u)=a at *
    cases a<;>first | (exact absurd rfl hu) |skip
    next l x=>
    have e:ldU (.ba l x) (o%u) (.ba m)=if o%u=0 then(if l=m then .ba l x else .un)else .un:=by
     show @Bool.rec (fun _=>AV) _ (@Bool.rec (fun _=>AV) _ _ (Nat.beq l m)) (Nat.beq (o%u) 0)=_
     rw[zg,zg]
    rw[e]at hu⊢
    by_cases h0:o%u=0
    ·rw[if_pos h0]at hu⊢
     by_cases hlm:l=m
     ·rw[if_pos hlm]
      subst hlm
      have hlu:l=u:=by
       have:=VRs.length _ _ hU.vs
       rw[hU.len]at this
       rw[←this]
       show l=(xE l x).length
       rw[yw,List.length_map,zo]
      subst hlu
      have hm:(o / l+1)*l≤n*l:=Nat.mul_le_mul_right _ (by omega)
      rw[Nat.add_mul,Nat.mul_comm n]at hm
      have hd:=Zb o l
      refine⟨_,ju F.hi F.hd ha hb (by rw[hk];omega),_,rfl,?_,hU.by_ l x rfl⟩
      rw[hk]
      have hv:=hU.vs
      change VRs ρ (xE l x) _ at hv
      have e5:(c.toList.drop (o / l*l)).take l=(c.toList.drop o).take l:=by rw[show o / l*l=o by omega]
      rw[e5]at hv
      exact yL hv
     ·rw[if_neg hlm]at hu;exact absurd rfl hu
    ·rw[if_neg h0]at hu;exact absurd rfl hu
end Kv
end
end
section
noncomputable section
namespace Kv
open Go.RowKit
variable {P:Program}
theorem Zy {ρ:Ren} {l:List AV} {vs:List Value} (h:VRs ρ l vs) (hs:l.all sca=true): ∀x∈vs,air x=true:=by
 intro x hx
 obtain⟨n,hn⟩:=List.mem_iff_getElem?.1 hx
 have hl:=VRs.length _ _ h
 obtain⟨a,y,e1,e2,e3⟩:=VRs.get n h (by rw[hl];exact(List.getElem?_eq_some_iff.1 hn).1)
 rw[hn]at e2
 injection e2 with e2
 rw[e2]
 exact(vA e3 (List.all_eq_true.1 hs a (List.mem_of_getElem? e1))).2
theorem Xx {ρ:Ren} {a:AV} {v:Value} (h:VR ρ a v) (ht: ∀l,a≠ .tup l):VRs ρ (xF a) v.cells.toList∧v.cells.toList.length=size a∧(xF a).all sca=true∧(∀l x,a= .ba l x→x<256^l):=by
 have h1:sca a=true→VRs ρ (xF a) v.cells.toList∧v.cells.toList.length=size a∧(xF a).all sca=true∧(∀l x,a= .ba l x→x<256^l):=fun hs=>by
  rw[jN hs,(vA h hs).1]
  refine⟨⟨v,[],rfl,h,rfl⟩,?_,by simp[hs],fun l x e=>by rw[e]at hs;cases hs⟩
  cases a<;>first |rfl|cases hs
 cases a
 case agg l=>
  obtain⟨cs,rfl,k,m⟩:=h
  exact⟨k,(VRs.length _ _ k).symm.trans (xU l).symm,m,(fun _ _ e=>by cases e)⟩
 case ba l x=>
  obtain⟨cs,rfl,k,m⟩:=h
  refine⟨?_,?_,jM l x,(fun _ _ e=>by injection e with e1 e2;subst e1;subst e2;exact m)⟩
  ·show VRs ρ (xE l x) cs.toList
   rw[k];exact jA ρ l x
  ·show cs.toList.length=l
   rw[k,byC,List.length_map,zo]
 case tup l=>exact absurd rfl (ht l)
 case un=>exact h.elim
 all_goals exact h1 rfl
def stS (a:AV) (j:Nat) (v:AV):AV:=
 match a with
 | .agg m=>if j<m.length then .agg (m.set j v)else .un
 | .ba m x=>(match v with | .int 4 y=> .ba m (spb m x j 1 y) |_=> .un)
 | .tup _=> .un
 | .un=> .un
 |_=>v
theorem aB0 {a v:AV} (hs:sca v=true) (j:Nat):stU a j v=stS a j v:=by
 unfold stU stS
 cases v<;>first
  | (cases hs;done)
  | (cases a<;>first |rfl| (simp only;rw[zf,xU,ah2];rfl))
theorem aBZ (m l:List AV) (j:Nat):stU (.agg m) j (.agg l)=if l.length=m.length then(if j=0 then .agg l else .un)else(if j+l.length≤m.length then .agg (qx m j l)else .un):=by
 show @Bool.rec (fun _=>AV) _ _ _=_
 rw[zg,zg,zf,xU,xU,QF];rfl
theorem aM7 (m y l x j:Nat):stU (.ba m y) j (.ba l x)=if j=0 then(if l=m then .ba l x else .un)else .un:=by
 show @Bool.rec (fun _=>AV) _ _ _=_
 rw[zg,zg]
theorem Zu {α:Type} {l vs:List α} (h:vs.length=l.length):qx l 0 vs=vs:=by
 simp[qx,h]
theorem aa3 {α:Type} {l:List α} {j:Nat} (v:α) (h:j<l.length):qx l j [v]=l.set j v:=by
 apply List.ext_getElem?
 intro x
 rw[xZ (by simp;omega),List.getElem?_set]
 by_cases e:j=x
 ·subst e
  rw[if_neg (by omega),if_pos (by simp),if_pos rfl,if_pos h];simp
 ·rw[if_neg e]
  by_cases c:x<j
  ·rw[if_pos c]
  ·rw[if_neg c,if_neg (by simp;omega)]
theorem aM8 {ρ:Ren} {u:Nat} {a v:AV} {cs:List Value} {v':Value} (h:UR ρ u a cs) (hv:VR ρ v v') {j:Nat} (hj:j<u) (hu:stU a j v≠ .un):
  j+v'.cells.toList.length≤u∧UR ρ u (stU a j v) (qx cs j v'.cells.toList)∧(∀x∈v'.cells.toList,air x=true):=by
 have hla:=VRs.length _ _ h.vs
 rw[h.len]at hla
 have ht: ∀l,v≠ .tup l:=fun l e=>by subst e;exact hu rfl
 obtain⟨k1,k2,k3,k4⟩:=Xx hv ht
 suffices hg:j+v'.cells.toList.length≤u∧UR ρ u (stU a j v) (qx cs j v'.cells.toList)from⟨hg.1,hg.2,Zy k1 k3⟩
 have hsc:sca v=true→j+v'.cells.toList.length≤u∧UR ρ u (stU a j v) (qx cs j v'.cells.toList):=fun hs=>by
  rw[aB0 hs]at hu⊢
  rw[(vA hv hs).1]
  rw[show(#[v']:Array Value).toList=[v']from rfl]
  refine⟨by simp;omega,?_⟩
  rw[aa3 _ (by rw[h.len];exact hj)]
  have hone: ∀b:AV,xF b=[b]→a=b→stS b j v=v→UR ρ u (stS a j v) (cs.set j v'):=fun b hb e hc=>by
   subst e
   rw[hc]
   rw[hb]at hla
   have hu1:1=u:=hla
   have hj0:j=0:=by omega
   subst hj0
   have hcs:=h.len
   rw[←hu1]at hcs⊢
   obtain⟨c,rfl⟩:=List.length_eq_one_iff.1 hcs
   exact KJ hv hs
  cases a
  case agg m=>
   have hm:m.length=u:=hla
   have e:stS (.agg m) j v= .agg (m.set j v):=if_pos (by omega)
   rw[e]
   exact⟨h.vs.set j hv,by rw[List.length_set,h.len],J2 h.sc hs,(fun _ _ e=>by cases e)⟩
  case ba m x=>
   have hm:m=u:=by
    rw[←hla]
    show m=(xE m x).length
    rw[yw,List.length_map,zo]
   subst hm
   have e: ∃y,v= .int 4 y:=by
    change (match v with | .int 4 y=>AV.ba m (spb m x j 1 y) |_=>AV.un)≠ .un at hu
    split at hu
    ·next y=>exact⟨y,rfl⟩
    ·exact absurd rfl hu
   obtain⟨y,rfl⟩:=e
   obtain⟨e1,e2⟩:=jZ hv
   subst e1
   have hc:=yL h.vs
   subst hc
   have e:stS (.ba m x) j (.int 4 y)= .ba m (spb m x j 1 y):=rfl
   rw[e]
   have hy:y<256^1:=by rw[Nat.pow_one];exact e2
   have h1:=V0 (l:=m) (x:=x) (i:=j) (m:=1) (y:=y) (by omega) hy
   have h2:(byC m x).set j (.int .u8 (y:Nat))=byC m (spb m x j 1 y):=by
    unfold byC
    rw[h1,←aa3 _ (by simp[zo];omega)]
    unfold qx
    simp only[List.map_append,List.map_take,List.map_drop,List.length_cons,List.length_nil]
    congr 2
    simp[bys,Nat.mod_eq_of_lt e2]
   rw[h2]
   exact aiw (ah8 (by omega) hy)
  case tup l=>exact absurd rfl hu
  case un=>exact absurd rfl hu
  all_goals exact hone _ rfl rfl rfl
 cases v
 case agg l=>
  cases a
  case agg m=>
   have hm:m.length=u:=hla
   obtain⟨cs',rfl,kk,_⟩:=hv
   have hlen:=VRs.length _ _ kk
   rw[aBZ]at hu⊢
   show j+cs'.toList.length≤u∧UR ρ u _ (qx cs j cs'.toList)
   by_cases c1:l.length=m.length
   ·rw[if_pos c1]at hu⊢
    by_cases c2:j=0
    ·rw[if_pos c2]
     subst c2
     refine⟨by omega,?_⟩
     rw[Zu (by rw[h.len];omega)]
     have:=QN kk k3
     rwa[show l.length=u by omega]at this
    ·rw[if_neg c2]at hu;exact absurd rfl hu
   ·rw[if_neg c1]at hu⊢
    by_cases c2:j+l.length≤m.length
    ·rw[if_pos c2]
     refine⟨by omega,?_⟩
     have h3:(qx m j l).all sca=true:=j0 h.sc k3
     have h4:=QN (h.vs.spl (o:=j) kk) h3
     change UR ρ (qx m j l).length (.agg (qx m j l)) _ at h4
     rwa[vr c2,hm]at h4
    ·rw[if_neg c2]at hu;exact absurd rfl hu
  all_goals exact absurd rfl hu
 case ba l x=>
  cases a
  case ba m y=>
   obtain⟨cs',rfl,kk,kx⟩:=hv
   rw[aM7]at hu⊢
   show j+cs'.toList.length≤u∧UR ρ u _ (qx cs j cs'.toList)
   have hm:m=u:=by
    rw[←hla]
    show m=(xE m y).length
    rw[yw,List.length_map,zo]
   by_cases c1:j=0
   ·rw[if_pos c1]at hu⊢
    by_cases c2:l=m
    ·rw[if_pos c2]
     have hl:cs'.toList.length=l:=by rw[kk,byC,List.length_map,zo]
     subst c1
     refine⟨by omega,?_⟩
     rw[Zu (by rw[h.len];omega),kk,←hm,←c2]
     exact aiw kx
    ·rw[if_neg c2]at hu;exact absurd rfl hu
   ·rw[if_neg c1]at hu;exact absurd rfl hu
  all_goals exact absurd rfl hu
 case tup l=>exact absurd rfl (ht l)
 case un=>exact hv.elim
 all_goals exact hsc rfl
end Kv
end
end
section
noncomputable section
namespace Kv
open Go.RowKit
variable {P:Program}
theorem zG (l x:Nat):(byC l x).length=l:=by rw[byC,List.length_map,zo]
theorem af6 {ρ:Ren} {κ l x o m y:Nat} {c:Array Value} {tid:TypeId} {fr:Nat×Nat} (hB:BR ρ κ (.by l x) (.cells c tid fr)) (h:o+m≤l) (hy:y<256^m):
  BR ρ κ (.by l (spb l x o m y)) (.cells (jX c o (byC m y)) tid fr):=by
 obtain⟨c',tid',fr',e,h1,h2,h3,h4,h5⟩:=hB
 injection e with e1 e2 e3
 subst e1;subst e2;subst e3
 refine⟨_,_,_,rfl,?_,h2,h3,ah8 h hy,?_⟩
 ·rw[YC (by rw[zG];omega),h1]
 ·have hs:byC l (spb l x o m y)=qx (byC l x) o (byC m y):=by
   unfold byC qx
   rw[V0 h hy]
   simp only[List.map_append,List.map_take,List.map_drop,List.length_map,zo]
  rw[hs,←h5,jx]
  apply List.ext_getElem?
  intro i
  have hcl:c.toList.length=κ:=by rw[Array.length_toList,h1]
  rw[List.getElem?_take,xZ (by rw[zG];omega),xZ (by rw[zG,List.length_take];omega),zG]
  by_cases hi:i<l
  ·rw[if_pos hi,List.getElem?_take_of_lt hi]
  ·rw[if_neg hi,if_neg (by omega),if_neg (by omega),List.getElem?_take,if_neg hi]
theorem Yz {ρ:Ren} {κ u n i j:Nat} {t:RT AV} {a:AV} {vs:List Value} {c:Array Value} {tid:TypeId} {fr:Nat×Nat} (hB:BR ρ κ (.row u n t) (.cells c tid fr)) (hi:i<n) (hj:j+vs.length≤u)
  (ha:UR ρ u a (qx (yx c.toList u i) j vs)):BR ρ κ (.row u n (t.set i a)) (.cells (jX c (i*u+j) vs) tid fr):=by
 obtain⟨c',tid',fr',e,h1,h2,h3,h4,⟨s,h5,h5'⟩,h6⟩:=hB
 injection e with e1 e2 e3
 subst e1;subst e2;subst e3
 have hcl:c.toList.length=κ:=by rw[Array.length_toList,h1]
 have hm:(i+1)*u≤n*u:=Nat.mul_le_mul_right _ hi
 rw[Nat.add_mul,Nat.mul_comm n]at hm
 refine⟨_,_,_,rfl,?_,h2,h3,h4,⟨s,RT.wf_set _ _ _ _ h5,h5'⟩,fun k hk=>?_⟩
 ·rw[YC (by omega),h1]
 ·have e:=age (l:=c.toList) (vs:=vs) hi (by rw[hcl];exact h4) hj k
  change UR ρ u _ (yx _ u k)
  rw[jx,e,RT.get_set _ _ _ _ _ h5 (by omega) (by omega)]
  by_cases ek:k=i
  ·rw[if_pos ek,if_pos ek];exact ha
  ·rw[if_neg ek,if_neg ek];exact h6 k hk
theorem aoj (u n:Nat) (t:RT AV) (o:Nat) (v:AV):(st (.row u n t) o v= .dead)∨(o / u<n∧stU (t.get (o / u)) (o%u) v≠ .un∧st (.row u n t) o v= .row u n (t.set (o / u) (stU (t.get (o / u)) (o%u) v))):=by
 have e:st (.row u n t) o v=if n≤o / u then .dead else(match stU (t.get (o / u)) (o%u) v with | .un=> .dead|w=> .row u n (t.set (o / u) w)):=zf _ _ _ _
 rw[e]
 by_cases h:n≤o / u
 ·rw[if_pos h];exact .inl rfl
 ·rw[if_neg h]
  generalize stU (t.get (o / u)) (o%u) v=a
  cases a
  case un=>exact .inl rfl
  all_goals exact .inr ⟨by omega,(fun e=>by cases e),rfl⟩
theorem aia (l x o c y:Nat):st (.by l x) o (.int c y)=if c=4 then(if l≤o then .dead else .by l (spb l x o 1 y))else .dead:=by
 by_cases h:c=4
 ·subst h
  rw[if_pos rfl]
  exact zf _ _ _ _
 ·rw[if_neg h]
  unfold st
  simp only
  split
  ·next e=>injection e with e1 e2;exact absurd e1 h
  ·next e=>cases e
  ·rfl
theorem ajE (l x o m y:Nat):st (.by l x) o (.ba m y)=if o+m≤l then .by l (spb l x o m y)else .dead:=zf _ _ _ _
theorem aM9 {ρ:Ren} {κ o:Nat} {blk:Blk} {ob:Obj} {v:AV} {v':Value} (hB:BR ρ κ blk ob) (hv:VR ρ v v') (hd:st blk o v≠ .dead):
  ∃c tid fr,ob= .cells c tid fr∧c.size=κ∧NF fr κ∧o+v'.cells.toList.length≤κ∧(∀x∈v'.cells.toList,air x=true)∧BR ρ κ (st blk o v) (.cells (jX c o v'.cells.toList) tid fr)∧(∀l,v≠ .tup l):=by
 cases blk with
 |dead=>exact absurd rfl hd
 |si l x p=>exact absurd rfl hd
 | row u n t=>
  rcases aoj u n t o v with h| ⟨h1,h2,h3⟩
  ·exact absurd h hd
  ·obtain⟨c,tid,fr,rfl,k1,k2,k3,k4,k5,k6⟩:=id hB
   obtain⟨g1,g2,g3⟩:=aM8 (k6 (o / u) h1) hv (Nat.mod_lt o k3) h2
   have hm:(o / u+1)*u≤n*u:=Nat.mul_le_mul_right _ h1
   rw[Nat.add_mul,Nat.mul_comm n]at hm
   have hdm:=Zb o u
   refine⟨c,tid,fr,rfl,k1,k2.nf,by omega,g3,?_,fun l e=>h2 (by rw[e];rfl)⟩
   rw[h3]
   have:=Yz (vs:=v'.cells.toList) hB h1 g1 g2
   rwa[hdm]at this
 | «by» l x=>
  obtain⟨c,tid,fr,rfl,k1,k2,k3,k4,k5⟩:=id hB
  cases v
  case int cc y=>
   rw[aia]at hd⊢
   by_cases h4:cc=4
   ·subst h4
    rw[if_pos rfl]at hd⊢
    by_cases h5:l≤o
    ·rw[if_pos h5]at hd;exact absurd rfl hd
    ·rw[if_neg h5]
     obtain⟨rfl,e2⟩:=jZ hv
     refine⟨c,tid,fr,rfl,k1,k2,by show o+1≤κ;omega,?_,?_,(fun l e=>by cases e)⟩
     ·intro z hz
      have:z= .int .u8 (y:Nat):=by simpa[Value.cells]using hz
      rw[this];rfl
     ·have:=af6 (o:=o) (m:=1) (y:=y) hB (by omega) (by rw[Nat.pow_one];exact e2)
      have e:byC 1 y=(Value.cells (.int .u8 (y:Nat))).toList:=by
       simp[byC,bys,Value.cells,Nat.mod_eq_of_lt e2]
      rwa[e]at this
   ·rw[if_neg h4]at hd;exact absurd rfl hd
  case ba m y=>
   rw[ajE]at hd⊢
   by_cases h5:o+m≤l
   ·rw[if_pos h5]
    obtain⟨cs,rfl,e2,e3⟩:=hv
    have:=af6 (o:=o) (m:=m) (y:=y) hB h5 e3
    rw[←e2]at this
    refine⟨c,tid,fr,rfl,k1,k2,?_,?_,this,(fun l e=>by cases e)⟩
    ·show o+cs.toList.length≤κ
     rw[e2,zG];omega
    ·exact Zy (ρ:=ρ) (l:=xE m y) (by show VRs ρ _ cs.toList;rw[e2];exact jA ρ m y) (jM m y)
   ·rw[if_neg h5]at hd;exact absurd rfl hd
  all_goals exact absurd rfl hd
theorem af5 {t:TypeId} {i:TypeInfo} {d:TypeDesc} {ty:Ty} (F:TyF P t i d ty) {ρ:Ren} {v:AV} {v':Value} (hv:VR ρ v v') (hd:ain ty v≠ .dead) (tid:TypeId):
  BR ρ v'.cells.size (ain ty v) (.cells v'.cells tid (0,0)):=by
 have hNF:NF (0,0) v'.cells.size:=fun o _=>by simp
 have hrow: ∀u,UR ρ u v v'.cells.toList→0<u→BR ρ v'.cells.size (.row u 1 (.l v)) (.cells v'.cells tid (0,0)):=fun u hU hp=>by
  have hl:=hU.len
  rw[Array.length_toList]at hl
  refine⟨_,_,_,rfl,rfl,rfl,hp,by omega,⟨1,rfl,by omega⟩,fun k hk=>?_⟩
  have:k=0:=by omega
  subst this
  rw[Nat.zero_mul,List.drop_zero,List.take_of_length_le (by rw[Array.length_toList];omega)]
  exact hU
 cases ty with
 |no=>exact absurd rfl hd
 | sc z=>
  have e:ain (.sc z) v=if sca v=true then .row 1 1 (.l v)else .dead:=zN _ _ _
  rw[e]at hd⊢
  by_cases h:sca v=true
  ·rw[if_pos h]
   refine hrow 1 ?_ (by omega)
   rw[(vA hv h).1]
   exact KJ hv h
  ·rw[if_neg h]at hd;exact absurd rfl hd
 | ag n z=>
  cases v
  case agg l=>
   have e:ain (.ag n z) (.agg l)=if len l=n then .row n 1 (.l (.agg l))else .dead:=zg _ _ _ _
   rw[e]at hd⊢
   by_cases h:len l=n
   ·rw[if_pos h]
    obtain⟨cs,rfl,e2,e3⟩:=hv
    refine hrow n ?_ F.pos
    have:=QN e2 e3
    rw[xU]at h
    rwa[h]at this
   ·rw[if_neg h]at hd;exact absurd rfl hd
  all_goals exact absurd rfl hd
 | ba n=>
  cases v
  case ba l x=>
   have e:ain (.ba n) (.ba l x)=if l=n then .by l x else .dead:=zg _ _ _ _
   rw[e]at hd⊢
   by_cases h:l=n
   ·rw[if_pos h]
    obtain⟨cs,rfl,e2,e3⟩:=hv
    refine⟨_,_,_,rfl,rfl,hNF,?_,e3,?_⟩
    ·show l≤cs.size
     rw[←Array.length_toList,e2,zG];exact Nat.le_refl l
    ·show cs.toList.take l=byC l x
     rw[e2,List.take_of_length_le (by rw[zG];exact Nat.le_refl l)]
   ·rw[if_neg h]at hd;exact absurd rfl hd
  all_goals exact absurd rfl hd
end Kv
end
end
end Go.Proofs.YtcdiljebkpikbaaGreat
