/- Parts of the proof: Kvp Kvq Kvr Kvs Kvt Kvu. -/
import Derived.Test.YtcdiljebkpikbaaGreatS04
set_option linter.all false
set_option maxRecDepth 100000
set_option maxHeartbeats 64000000
namespace Go.Proofs.YtcdiljebkpikbaaGreat
section
noncomputable section
namespace Kv
open Go.RowKit
variable {P:Program}
def QS (P:Program) (ρ:Ren) (w:World) (s:Sem Value) (x:AV):Prop:= ∃v,s.run P w= .ok v w∧VR ρ x v
section
variable {ρ:Ren} {w:World} {h:HP}
theorem Ql {v:AV} {φ:Nat→AV} (hu:yj v φ≠ .un): ∃c x,v= .int c x∧yj v φ=φ x∧(y9 c=true→x<hfN c):=by
 obtain⟨c,x,rfl⟩:=yr hu
 have e:yj (.int c x) φ=if(if y9 c=true then Nat.ble (hfN c) x else false)=true then .un else φ x:=by
  show @Bool.rec (fun _=>AV) (φ x) .un (@Bool.rec (fun _=>Bool) false (Nat.ble (hfN c) x) (y9 c))=_
  rw[zN,zN]
 refine⟨c,x,rfl,?_⟩
 rw[e]at hu⊢
 by_cases h1:(if y9 c=true then Nat.ble (hfN c) x else false)=true
 ·rw[if_pos h1]at hu;exact absurd rfl hu
 ·rw[if_neg h1]
  refine⟨rfl,fun hs=>?_⟩
  rw[if_pos hs,zy]at h1;omega
theorem kF {v:AV} {v':Value} {φ:Nat→AV} (hv:VR ρ v v') (hu:yj v φ≠ .un): ∃k n,v'= .int k (n:Nat)∧yj v φ=φ n:=by
 obtain⟨c,x,rfl,e,h1⟩:=Ql hu
 obtain⟨rfl,h2,h3⟩:=zA.1 hv
 exact⟨zh c,x,by rw[zR h2 h1],e⟩
theorem js (k:IntKind) (n:Int) (w:World):(asIntOf (.int k n)).run P w= .ok (k,n) w:=rfl
theorem yG {k:IntKind} {n y:Nat} (h:n≤y) (code:BoundsCode) (w:World):(Instr.sliceBound (.int k (n:Nat)) y code).run P w= .ok n w:=by
 unfold Instr.sliceBound
 rw[rb (js k n w)]
 simp only
 rw[if_pos ⟨by omega,by omega⟩]
 rfl
def OR (ρ:Ren):Option AV→Option Value→Prop
 |none,none=>True
 |some a,some v=>a≠ .un→VR ρ a v
 |_,_=>False
def Z1 (o:Option Value) (z:Nat) (n:Nat):Prop:=match o with |none=>n=z|some v=> ∃k,v= .int k (n:Nat)
theorem z9 {o:Option AV} {o':Option Value} {z:Nat} {φ:Nat→AV} (ho:OR ρ o o') (hu:q7 o z φ≠ .un): ∃n,Z1 o' z n∧q7 o z φ=φ n:=by
 cases o with
 |none=>cases o' with
  |none=>exact⟨z,rfl,rfl⟩
  |some v=>exact ho.elim
 | some a=>cases o' with
  |none=>exact ho.elim
  |some v=>
   obtain⟨c,x,ea,_⟩:=Ql hu
   obtain⟨k,n,e,e2⟩:=kF (ho (by rw[ea];intro h;cases h)) hu
   exact⟨n,⟨k,e⟩,e2⟩
theorem qK {lo hi mx:Option Value} {isS:Bool} {l c a b m:Nat} (ha:Z1 lo 0 a) (hb:Z1 hi l b) (hm:Z1 mx c m) (h1:m≤c) (h2:b≤m) (h3:a≤b) (hmx:hi=none→mx=none) (w:World):
  (Instr.sliceBounds isS l c lo hi mx).run P w= .ok (a,b,m) w:=by
 unfold Instr.sliceBounds
 cases mx with
 | none=>
  obtain rfl:=hm
  cases hi with
  | none=>
   obtain rfl:=hb
   cases lo with
   |none=>obtain rfl:=ha;rfl
   |some v=>
    obtain⟨k,rfl⟩:=ha
    simp only[bind,Sem.bind,pure]
    show((Instr.sliceBound _ _ _)>>=fun l=>pure (l,b,m)).run P w=_
    rw[rb (yG h3 _ w)];rfl
  | some vh=>
   obtain⟨kh,rfl⟩:=hb
   show((Instr.sliceBound _ _ _)>>=fun h=>_).run P w=_
   rw[rb (yG h2 _ w)]
   cases lo with
   |none=>obtain rfl:=ha;rfl
   |some v=>
    obtain⟨k,rfl⟩:=ha
    show((Instr.sliceBound _ _ _)>>=fun l=>pure (l,b,m)).run P w=_
    rw[rb (yG h3 _ w)];rfl
 | some vm=>
  obtain⟨km,rfl⟩:=hm
  cases hi with
  |none=>cases hmx rfl
  | some vh=>
   obtain⟨kh,rfl⟩:=hb
   show((Instr.sliceBound _ _ _)>>=fun m=>_).run P w=_
   rw[rb (yG h1 _ w)]
   show((Instr.sliceBound _ _ _)>>=fun h=>_).run P w=_
   rw[rb (yG h2 _ w)]
   cases lo with
   |none=>obtain rfl:=ha;rfl
   |some v=>
    obtain⟨k,rfl⟩:=ha
    show((Instr.sliceBound _ _ _)>>=fun l=>pure (l,b,m)).run P w=_
    rw[rb (yG h3 _ w)];rfl
theorem YB {u i o c a b m:Nat} (hu:qu u i o c a b m≠ .un):m≤c∧b≤m∧a≤b∧qu u i o c a b m= .sl i (if m=a then o else o+a*u) (b-a) (m-a):=by
 have e:qu u i o c a b m=if m≤c then(if b≤m then(if a≤b then .sl i (if m=a then o else o+a*u) (b-a) (m-a)else .un)else .un)else .un:=by
  show @Bool.rec (fun _=>AV) .un (@Bool.rec (fun _=>AV) .un (@Bool.rec (fun _=>AV) .un (.sl i (@Bool.rec (fun _=>Nat) (Nat.add o (Nat.mul a u)) o (Nat.beq m a)) (Nat.sub b a) (Nat.sub m a)) (Nat.ble a b)) (Nat.ble b m)) (Nat.ble m c)=_
  rw[zf,zf,zf,zg];rfl
 rw[e]at hu⊢
 by_cases h1:m≤c
 ·rw[if_pos h1]at hu⊢
  by_cases h2:b≤m
  ·rw[if_pos h2]at hu⊢
   by_cases h3:a≤b
   ·rw[if_pos h3];exact⟨h1,h2,h3,rfl⟩
   ·rw[if_neg h3]at hu;exact absurd rfl hu
  ·rw[if_neg h2]at hu;exact absurd rfl hu
 ·rw[if_neg h1]at hu;exact absurd rfl hu
theorem ags (g o n:Nat) (m a:Nat):(if m=a then(some ⟨g,o,none⟩:Option Addr)else(some ⟨g,o,none⟩:Option Addr).map (·.add n))=some ⟨g,if m=a then o else o+n,none⟩:=by
 by_cases h:m=a
 ·rw[if_pos h,if_pos h]
 ·rw[if_neg h,if_neg h]
  show some (Addr.add _ _)=_
  rw[vC]
theorem vp {e:TypeId} {i:TypeInfo} {d:TypeDesc} (F:TyF P e i d (zw P e)) (w:World):(sizeOf e).run P w= .ok (zw P e).cells w:=by
 rw[yk F.hi,F.size]
theorem yP {t e:TypeId} (hd:P.underlying t=some (.slice e)) (he:(zw P e).cells≠0) {lo hi mx:Option Value} {l c a b m:Nat} {x:Option Addr} (ha:Z1 lo 0 a) (hb:Z1 hi l b) (hm:Z1 mx c m) (h1:m≤c) (h2:b≤m) (h3:a≤b) (hmx:hi=none→mx=none) (w:World):
  (Instr.sliceAt t (.slice x l c) lo hi mx).run P w= .ok (.slice (if m=a then x else x.map (·.add (a*(zw P e).cells))) (b-a) (m-a)) w:=by
 obtain⟨i0,d0,F⟩:=zW (P:=P) (t:=e) (fun h=>he (by rw[h];rfl))
 unfold Instr.sliceAt
 rw[rb (zb hd w)]
 simp only
 unfold Instr.slice
 rw[rb (zb hd w)]
 simp only
 rw[rb (qK ha hb hm h1 h2 h3 hmx w)]
 simp only
 rw[rb (vp F w)];rfl
theorem ah6 {t:TypeId} (hd:P.underlying t=some .string) {l x:Nat} {s:ByteArray} (hs:SR l x s) {lo hi:Option AV} {lo' hi':Option Value} (h1:OR ρ lo lo') (h2:OR ρ hi hi') (hu:aa2 l x lo hi≠ .un):
  QS P ρ w (Instr.sliceAt t (.string s) lo' hi' none) (aa2 l x lo hi):=by
 unfold aa2 at hu⊢
 obtain⟨a,ha,e1⟩:=z9 h1 hu
 rw[e1]at hu⊢
 obtain⟨b,hb,e2⟩:=z9 h2 hu
 rw[e2]at hu⊢
 rw[zf]at hu⊢
 by_cases c1:b≤l
 ·rw[if_pos c1,zf]at hu⊢
  by_cases c2:a≤b
  ·rw[if_pos c2]
   have hz:=xC hs
   refine⟨.string (s.extract a b),?_,_,rfl,?_,?_⟩
   ·unfold Instr.sliceAt
    rw[rb (zb hd w)]
    simp only
    unfold Instr.slice
    rw[rb (zb hd w)]
    simp only
    rw[hz]
    have:=qK (P:=P) (isS:=false) (mx:=none) (c:=l) ha hb rfl (Nat.le_refl l) c1 c2 (fun _=>rfl) w
    simp only[Option.isSome_none,Bool.false_eq_true,if_false]
    show((Instr.sliceBounds false l l lo' hi' none)>>=_).run P w=_
    rw[rb this];rfl
   ·show _=bys (b-a) (sub l x a b)
    rw[vc c2 c1,←hs.1,←List.map_take,←List.map_drop]
    congr 1
    simp[ByteArray.data_extract,List.drop_take]
   ·exact Zh l x a b
  ·rw[if_neg c2]at hu;exact absurd rfl hu
 ·rw[if_neg c1]at hu;exact absurd rfl hu
theorem ajA {t e:TypeId} (hr:HR ρ h w) (hd:P.underlying t=some (.slice e)) (he:(zw P e).cells≠0) {v:AV} {v':Value} (hv:VR ρ v v') {lo hi mx:Option AV} {lo' hi' mx':Option Value} (h1:OR ρ lo lo') (h2:OR ρ hi hi') (h3:OR ρ mx mx') (hmx:hi'=none→mx'=none)
  (hu:qX (zw P e).cells h v lo hi mx≠ .un):QS P ρ w (Instr.sliceAt t v' lo' hi' mx') (qX (zw P e).cells h v lo hi mx):=by
 have is0_ne: ∀ {n:Nat} {v:AV},is0 n v≠ .un→n=0∧is0 n v=v:=fun {n v} hne=>by
  have e:is0 n v=if n=0 then v else .un:=zg _ _ _ _
  rw[e]at hne⊢
  by_cases hz:n=0
  ·rw[if_pos hz];exact⟨hz,rfl⟩
  ·rw[if_neg hz]at hne;exact absurd rfl hne
 cases v
 case nils=>
  obtain rfl:=hv
  have e0:qX (zw P e).cells h .nils lo hi mx=q7 lo 0 (fun a=>q7 hi 0 (fun b=>q7 mx 0 (fun c=>is0 a (is0 b (is0 c .nils))))):=rfl
  rw[e0]at hu⊢
  obtain⟨a,ha,e1⟩:=z9 h1 hu
  rw[e1]at hu⊢
  obtain⟨b,hb,e2⟩:=z9 h2 hu
  rw[e2]at hu⊢
  obtain⟨m,hm,e3⟩:=z9 h3 hu
  rw[e3]at hu⊢
  obtain⟨z1,e4⟩:=is0_ne hu
  rw[e4]at hu⊢
  obtain⟨z2,e5⟩:=is0_ne hu
  rw[e5]at hu⊢
  obtain⟨z3,e6⟩:=is0_ne hu
  rw[e6]
  subst z1;subst z2;subst z3
  exact⟨_,yP hd he ha hb hm (Nat.le_refl 0) (Nat.le_refl 0) (Nat.le_refl 0) hmx w,rfl⟩
 case se=>
  obtain⟨x,c,rfl⟩:=hv
  have e0:qX (zw P e).cells h .se lo hi mx=q7 lo 0 (fun a=>q7 hi 0 (fun b=>is0 a (is0 b (se1 mx)))):=rfl
  rw[e0]at hu⊢
  obtain⟨a,ha,e1⟩:=z9 h1 hu
  rw[e1]at hu⊢
  obtain⟨b,hb,e2⟩:=z9 h2 hu
  rw[e2]at hu⊢
  obtain⟨z1,e4⟩:=is0_ne hu
  rw[e4]at hu⊢
  obtain⟨z2,e5⟩:=is0_ne hu
  rw[e5]at hu⊢
  subst z1;subst z2
  cases mx with
  |some v=>exact absurd rfl hu
  |none=>
   cases mx' with
   |some v=>exact h3.elim
   |none=>exact⟨_,yP hd he ha hb (mx:=none) (c:=c) (m:=c) rfl (Nat.le_refl c) (Nat.zero_le c) (Nat.le_refl 0) hmx w,_,_,rfl⟩
 case sl i o l c=>
  obtain⟨g,κ,hi0,rfl,hlc⟩:=hv
  have e0:qX (zw P e).cells h (.sl i o l c) lo hi mx=q7 lo 0 (fun a=>q7 hi l (fun b=>q7 mx c (fun m=>qu (zw P e).cells i o c a b m))):=rfl
  rw[e0]at hu⊢
  obtain⟨a,ha,e1⟩:=z9 h1 hu
  rw[e1]at hu⊢
  obtain⟨b,hb,e2⟩:=z9 h2 hu
  rw[e2]at hu⊢
  obtain⟨m,hm,e3⟩:=z9 h3 hu
  rw[e3]at hu⊢
  obtain⟨k1,k2,k3,e4⟩:=YB hu
  rw[e4]
  exact⟨_,yP hd he ha hb hm k1 k2 k3 hmx w,g,κ,hi0,by rw[ags],by omega⟩
 case sf i o l u=>
  obtain⟨g,κ,c,hi0,rfl,hκ,hlc,hu0⟩:=hv
  have e0:qX (zw P e).cells h (.sf i o l u) lo hi mx=if u=(zw P e).cells then q7 lo 0 (fun a=>q7 hi l (fun b=>JK (zw P e).cells i o (JU (h.get i) o (zw P e).cells) a b mx))else .un:=zg _ _ _ _
  rw[e0]at hu⊢
  by_cases hue:u=(zw P e).cells
  ·rw [if_pos hue]at hu⊢
   obtain⟨a,ha,e1⟩:=z9 h1 hu
   rw[e1]at hu⊢
   obtain⟨b,hb,e2⟩:=z9 h2 hu
   rw[e2]at hu⊢
   have hk:JU (h.get i) o (zw P e).cells≤c:=by
    obtain⟨_,ob,_,hB⟩:=hr.at_ i g κ hi0
    rw[←hue]
    cases hg:h.get i with
    |dead=>exact Nat.zero_le _
    |si l x p=>exact Nat.zero_le _
    | row u' n t=>
     rw[hg]at hB
     obtain⟨cs,tid,fr,rfl,k1,k2,k3,k4,k5,k6⟩:=hB
     have e:JU (.row u' n t) o u=if u'=u then n-o / u else 0:=zg _ _ _ _
     rw[e]
     by_cases hz:u'=u
     ·rw[if_pos hz]
      subst hz
      have h5:u'*n≤o+c*u':=by rw[←hκ];exact k4
      have h6:u'*n≤u'*(o / u'+c)+o%u':=by
       rw[Nat.mul_add,Nat.mul_comm u' (o / u'),Nat.mul_comm u' c]
       have:=Zb o u'
       omega
      have h7:n≤o / u'+c:=by
       apply Nat.le_of_not_lt
       intro h8
       have h9:u'*(o / u'+c+1)≤u'*n:=Nat.mul_le_mul_left _ h8
       rw[Nat.mul_add u' (o / u'+c) 1,Nat.mul_one]at h9
       have:=Nat.mod_lt o hu0
       omega
      omega
     ·rw[if_neg hz];exact Nat.zero_le _
    | «by» l' x=>
     rw[hg]at hB
     obtain⟨cs,tid,fr,rfl,k1,k2,k3,k4,k5⟩:=hB
     have e:JU (.by l' x) o u=if u=1 then l'-o else 0:=zg _ _ _ _
     rw[e]
     by_cases hz:u=1
     ·rw[if_pos hz]
      subst hz
      omega
     ·rw[if_neg hz];exact Nat.zero_le _
   generalize JU (h.get i) o (zw P e).cells=k at *
   have e3:JK (zw P e).cells i o k a b mx=if a≤b then(if b≤k then(match mx with
     |some m=>yj m (fun m=>qu (zw P e).cells i o k a b m)
     |none=>if a=0 then .sf i o b (zw P e).cells else(if a+1≤k then .sf i (o+a*(zw P e).cells) (b-a) (zw P e).cells else .se))else .un)else .un:=by
    unfold JK
    rw[zf,zf]
    cases mx with
    |some m=>rfl
    |none=>
     simp only
     rw[zg,zf];rfl
   rw[e3]at hu⊢
   by_cases c1:a≤b
   ·rw [if_pos c1]at hu⊢
    by_cases c2:b≤k
    ·rw [if_pos c2]at hu⊢
     cases mx with
     | some vm=>
      cases mx' with
      |none=>exact h3.elim
      |some vm'=>
       simp only at hu⊢
       obtain⟨c',x',ea,_⟩:=Ql hu
       obtain⟨km,m,e5,e6⟩:=kF (h3 (by rw[ea];intro h;cases h)) hu
       rw[e6]at hu⊢
       obtain⟨k1,k2,k3,e7⟩:=YB hu
       rw[e7]
       exact⟨_,yP hd he ha hb (mx:=some vm') (m:=m) ⟨km,e5⟩ (by omega) k2 k3 hmx w,g,κ,hi0,by rw[ags],by omega⟩
     | none=>
      cases mx' with
      |some v=>exact h3.elim
      | none=>
       simp only at hu⊢
       have hrun:=yP (P:=P) hd he (x:=some ⟨g,o,none⟩) ha hb (mx:=none) (c:=c) (m:=c) rfl (Nat.le_refl c) (by omega) c1 hmx w
       rw[ags]at hrun
       by_cases c3:a=0
       ·rw[if_pos c3]
        subst c3
        refine⟨_,hrun,g,κ,c,hi0,?_,?_,by omega,F_pos he⟩
        ·rw[Nat.zero_mul,Nat.add_zero,ite_self,Nat.sub_zero,Nat.sub_zero]
        ·rw[←hue];exact hκ
       ·rw[if_neg c3]
        by_cases c4:a+1≤k
        ·rw[if_pos c4]
         refine⟨_,hrun,g,κ,c-a,hi0,?_,?_,by omega,F_pos he⟩
         ·rw[if_neg (by omega)]
         ·rw[←hue,hκ,Nat.add_assoc,←Nat.add_mul];congr 2;omega
        ·rw[if_neg c4]
         have hz:b-a=0:=by omega
         rw[hz]at hrun
         exact⟨_,hrun,_,_,rfl⟩
    ·rw[if_neg c2]at hu;exact absurd rfl hu
   ·rw[if_neg c1]at hu;exact absurd rfl hu
  ·rw[if_neg hue]at hu;exact absurd rfl hu
 all_goals exact absurd rfl hu
where F_pos {n:Nat} (h:n≠0):0<n:=Nat.pos_of_ne_zero h
theorem ah5 {t e:TypeId} {n:Nat} (hd:P.underlying t=some (.array n e)) (he:(zw P e).cells≠0) {i o g κ:Nat} (hi0:ρ i=some (g,κ)) {lo hi mx:Option AV} {lo' hi' mx':Option Value} (h1:OR ρ lo lo') (h2:OR ρ hi hi') (h3:OR ρ mx mx') (hmx:hi'=none→mx'=none)
  (hu:q7 lo 0 (fun a=>q7 hi n (fun b=>q7 mx n (fun m=>qu (zw P e).cells i o n a b m)))≠ .un):QS P ρ w (Instr.sliceAt t (.pointer (some ⟨g,o,none⟩)) lo' hi' mx') (q7 lo 0 (fun a=>q7 hi n (fun b=>q7 mx n (fun m=>qu (zw P e).cells i o n a b m)))):=by
 obtain⟨i0,d0,F⟩:=zW (P:=P) (t:=e) (fun h=>he (by rw[h];rfl))
 obtain⟨a,ha,e1⟩:=z9 h1 hu
 rw[e1]at hu⊢
 obtain⟨b,hb,e2⟩:=z9 h2 hu
 rw[e2]at hu⊢
 obtain⟨m,hm,e3⟩:=z9 h3 hu
 rw[e3]at hu⊢
 obtain⟨k1,k2,k3,e4⟩:=YB hu
 rw[e4]
 refine⟨.slice (some (if m=a then⟨g,o,none⟩else(⟨g,o,none⟩:Addr).add (a*(zw P e).cells))) (b-a) (m-a),?_,g,κ,hi0,?_,by omega⟩
 ·unfold Instr.sliceAt
  rw[rb (zb hd w)]
  simp only
  rw[rb (show(Instr.sureAddr (.pointer (some ⟨g,o,none⟩))).run P w= .ok ⟨g,o,none⟩ w from rfl)]
  rw[rb (qK ha hb hm k1 k2 k3 hmx w)]
  simp only
  rw[rb (vp F w)];rfl
 ·congr 2
  by_cases hma:m=a
  ·rw[if_pos hma,if_pos hma]
  ·rw[if_neg hma,if_neg hma,vC]
end
end Kv
end
end
section
noncomputable section
namespace Kv
open Go.RowKit
variable {P:Program}
section
variable {ρ:Ren} {w:World} {h:HP}
theorem aNc (op:UnOp) {a:AV} {a':Value} (ha:VR ρ a a') (hu:(unC op).f a≠ .un):QS P ρ w (Op.unary op a') ((unC op).f a):=by
 cases op
 case not=>
  obtain⟨b,rfl⟩:=Yq hu
  obtain rfl:=ha
  refine⟨.bool (!b),rfl,?_⟩
  show Value.bool _= .bool (not b)
  rw[vi]
 case neg=>
  obtain⟨c,x,rfl⟩:=yr hu
  obtain⟨rfl,hx,hc⟩:=zA.1 ha
  refine⟨.int (zh c) ((zh c).wrap (0-toI c x)),rfl,zA.2 ⟨?_,Nat.mod_lt _ (yD c),hc⟩⟩
  congr 1
  refine vu hc (Nat.mod_lt _ (yD c)) ?_
  show _=(((mdN c-x)%mdN c:Nat):Int)
  rw[qT,Int.sub_emod,xa,←Int.sub_emod]
  have:((mdN c-x:Nat):Int)=0- (x:Int)+mdN c:=by omega
  rw[this,Int.add_emod_right]
 case xor=>
  obtain⟨c,x,rfl⟩:=yr hu
  obtain⟨rfl,hx,hc⟩:=zA.1 ha
  have hp:=yD c
  have e1: ∀b:BitVec (zh c).bits,b.toNat=mdN c-1-x→VR ρ (.int c (mdN c-1-x)) (.int (zh c) ((zh c).wrap b.toNat)):=fun b hb=>by
   rw[hb]
   have h1:mdN c-1-x<mdN c:=by omega
   exact zA.2 ⟨by rw[QH hc h1],h1,hc⟩
  have e2:BitVec.ofInt (zh c).bits (if(zh c).signed=true then -1 else(zh c).max)=BitVec.allOnes (zh c).bits:=by
   rcases c8 hc with rfl|rfl|rfl|rfl|rfl|rfl|rfl|rfl<;>decide
  refine⟨_,rfl,e1 (BitVec.ofInt _ (if(zh c).signed=true then -1 else(zh c).max)^^^BitVec.ofInt _ (toI c x)) ?_⟩
  rw[e2,BitVec.allOnes_xor,yN hc hx,BitVec.toNat_not,ya hc hx,va hc,←Jw]
 case plus=>exact absurd rfl hu
theorem aBs {c j:Nat} (hc:c<8) (hj:j<8):(mdN j:Int) ∣ (mdN 7:Int):=by
 rcases c8 hj with rfl|rfl|rfl|rfl|rfl|rfl|rfl|rfl<;>decide
theorem aMd {c j x:Nat} (hc:c<8) (hj:j<8) (hx:x<mdN c):(zh j).wrap (toI c x)=toI j (cvI c j x)∧cvI c j x<mdN j:=by
 have e:cvI c j x=if hfN c≤x then(if y9 c=true then(x+(mdN 7-mdN c))%mdN j else x%mdN j)else x%mdN j:=by
  show @Bool.rec (fun _=>Nat) _ (@Bool.rec (fun _=>Nat) _ _ (y9 c)) (Nat.ble (hfN c) x)=_
  rw[zf,zN];rfl
 have hlt:cvI c j x<mdN j:=by
  rw[e]
  split
  ·split<;>exact Nat.mod_lt _ (yD j)
  ·exact Nat.mod_lt _ (yD j)
 refine⟨vu hj hlt ?_,hlt⟩
 have h7:mdN c≤mdN 7:=by rcases c8 hc with rfl|rfl|rfl|rfl|rfl|rfl|rfl|rfl<;>decide
 rw[e]
 rcases ke hx with⟨s1,h1,e1⟩ | ⟨e1,h1⟩
 ·rw[if_pos h1,if_pos s1,qT,e1]
  have h2:((x+(mdN 7-mdN c):Nat):Int)=(x:Int) -mdN c+mdN 7:=by omega
  rw[h2,Int.add_emod,Int.emod_eq_zero_of_dvd (aBs hc hj),Int.add_zero,Int.emod_emod]
 ·rw[e1]
  by_cases h2:hfN c≤x
  ·rw[if_pos h2,if_neg (fun hs=>by have:=h1 hs;omega),qT]
  ·rw[if_neg h2,qT]
theorem Xi {v:AV} {φ:Nat→AV} (hu:vk v φ≠ .un): ∃l,ag9 v=some l∧vk v φ=φ l∧(∀l x,v≠ .str l x):=by cases v<;>first |exact⟨_,rfl,rfl,(fun _ _ e=>by cases e)⟩ |exact absurd rfl hu
theorem vB {v:AV} {v':Value} {l:Nat} (hv:VR ρ v v') (hl:ag9 v=some l) (hs: ∀l x,v≠ .str l x): ∃a k,v'= .slice a l k:=by
 cases v<;>first
  | (cases hl;done)
  |exact absurd rfl (hs _ _)
  | (injection hl with hl;subst hl;obtain rfl:_=_:=hv;exact⟨_,_,rfl⟩)
  | (injection hl with hl;subst hl;obtain⟨_,_,rfl⟩:=hv;exact⟨_,_,rfl⟩)
  | (injection hl with hl;subst hl;obtain⟨_,_,_,rfl,_⟩:=hv;exact⟨_,_,rfl⟩)
  | (injection hl with hl;subst hl;obtain⟨_,_,_,_,rfl,_⟩:=hv;exact⟨_,_,rfl⟩)
theorem aAO (hr:HR ρ h w) {s t:TypeId} {v:AV} {v':Value} (hv:VR ρ v v') (hu:(Z5 P s t).f v h≠ .un):QS P ρ w (convert s t v') ((Z5 P s t).f v h):=by
 unfold Z5 at hu⊢
 split at hu
 ·next d k hs ht=>
  obtain⟨c,x,rfl⟩:=yr hu
  obtain⟨rfl,hx,hc⟩:=zA.1 hv
  obtain⟨h1,h2⟩:=aMd hc (Kh k) hx
  rw[vf]at h1
  refine⟨.int k (k.wrap (toI c x)),?_,zA.2 ⟨?_,h2,Kh k⟩⟩
  ·unfold convert
   rw[rb (zb hs w),rb (zb ht w)];rfl
  ·rw[vf,h1]
 ·next hs ht=>
  obtain⟨l,x,rfl⟩:=xV hu
  obtain⟨st,rfl,hst⟩:=hv
  refine⟨.string st,?_,st,rfl,hst⟩
  unfold convert
  rw[rb (zb hs w),rb (zb ht w)];rfl
 ·next e hs ht=>
  rw[zN]at hu⊢
  by_cases he:Kg P e=true
  ·rw [if_pos he]at hu⊢
   have he':=(vN e).1 he
   have hu:jQ v h≠ .un:=hu
   show QS P ρ w _ (jQ v h)
   obtain⟨n,hl,e1,hns⟩:=Xi (v:=v) (φ:=fun l=> @Bool.rec (fun _=>AV) (match zQ h v l 1 true with | .b m y=> .str m y|_=> .un) (.str 0 0) (Nat.beq l 0)) hu
   have e2:jQ v h= @Bool.rec (fun _=>AV) (match zQ h v n 1 true with | .b m y=> .str m y|_=> .un) (.str 0 0) (Nat.beq n 0):=e1
   rw[e2]at hu⊢
   rw[zg]at hu⊢
   obtain⟨a,k,rfl⟩:=vB hv hl hns
   have hrun:(convert s t (.slice a n k)).run P w=(Conv.bytesToString (.slice a n k)).run P w:=by
    cases a with
    |none=>
     unfold convert
     rw[rb (zb hs w),rb (zb ht w)]
     simp only
     rw[rb (zb he' w)]
    |some a=>
     unfold convert
     rw[rb (zb hs w),rb (zb ht w)]
     simp only
     rw[rb (zb he' w)]
   by_cases h0:n=0
   ·rw[if_pos h0]
    subst h0
    refine⟨.string .empty,?_,.empty,rfl,rfl,by decide⟩
    rw[hrun]
    cases a with
    |none=>rfl
    |some a=>exact run_bytesToString w a 0 k [] rfl
   ·rw [if_neg h0]at hu⊢
    have hne:zQ h v n 1 true≠ .bad:=fun e=>by rw[e]at hu;exact hu rfl
    obtain⟨cs,h1,h2⟩:=YE (P:=P) hr (n:=n) (c:=1) (u8:=true) (fun _=>rfl) (by omega) hv hl (Nat.le_refl n) (fun _ _ _=>rfl) hne
    generalize zQ h v n 1 true=src at *
    cases src<;>first | (exact absurd rfl hu) |skip
    next m y=>
    obtain⟨rfl,_,rfl,h5⟩:=h2
    cases a with
    | none=>
     have:(#[]:Array Value)=(byC m y).toArray:=by
      have h1:(Result.ok (#[]:Array Value) w)= .ok (byC m y).toArray w:=h1
      injection h1
     have:=congrArg Array.size this
     simp[zG]at this
     omega
    | some a=>
     have h1:(loadCells a (m*1)).run P w= .ok (byC m y).toArray w:=h1
     rw[Nat.mul_one]at h1
     have h6:=run_bytesToString (P:=P) w a m k ((bys m y).map fun b=>((b:Nat):Int)) (by
      rw[h1]
      unfold byC
      rw[List.map_map];rfl)
     refine⟨_,by rw[hrun];exact h6,_,rfl,?_,h5⟩
     have hf: ∀(l:List Nat) (s:ByteArray),(∀b∈l,b<256)→((l.map fun b=>((b:Nat):Int)).foldl (fun r n=>r.push (UInt8.ofNat n.toNat)) s).data.toList.map UInt8.toNat=s.data.toList.map UInt8.toNat++l:=by
      intro l
      induction l with
      |nil=>intro s _;simp
      |cons b l ih=>
       intro s hl
       rw[List.map_cons,List.foldl_cons,ih _ fun c hc=>hl c (List.mem_cons_of_mem _ hc)]
       simp[ByteArray.data_push,Nat.mod_eq_of_lt (hl b List.mem_cons_self)]
     have:=hf (bys m y) .empty (Y8 m y)
     simpa using this
  ·rw[if_neg he]at hu;exact absurd rfl hu
 ·exact absurd rfl hu
end
end Kv
end
end
section
noncomputable section
namespace Kv
open Go.RowKit
variable {P:Program}
section
variable {ρ:Ren} {w:World} {h:HP}
theorem ahv {t:TypeId} {ty:Ty} (hty:zw P t=ty) {l:List AV} {cs:Array Value} (hl:VRs ρ l cs.toList) (hs:l.all sca=true) {p:Nat} (hu:ldU (.agg l) p ty≠ .un):QS P ρ w (part t cs p) (ldU (.agg l) p ty):=by
 have hn:zw P t≠ .no:=fun e=>by rw[←hty,e]at hu;exact hu rfl
 obtain⟨i,d,F⟩:=zW hn
 rw[hty]at F
 have hlen:=VRs.length _ _ hl
 rw[Array.length_toList]at hlen
 cases ty with
 |no=>exact absurd rfl hu
 | sc z=>
  have e:ldU (.agg l) p (.sc z)=nth l p:=rfl
  rw[e,aaH]at hu⊢
  have hp:p<l.length:=by
   rcases Nat.lt_or_ge p l.length with h|h
   ·exact h
   ·rw[List.getElem?_eq_none h]at hu;exact absurd rfl hu
  obtain⟨x,y,e1,e2,e3⟩:=VRs.get p hl hp
  rw[e1]
  refine⟨y,?_,e3⟩
  unfold part
  rw[rb (Qt F.hd w),show qQ d=false from F.agg]
  simp only[Bool.false_eq_true,if_false]
  rw[←Array.getElem?_toList,e2];rfl
 | ag c z=>
  have e:ldU (.agg l) p (.ag c z)=Je l p c (.agg l):=rfl
  rw[e]at hu⊢
  obtain⟨h1,h2⟩:=Jf hu
  rw[h2]
  refine⟨.agg (cs.extract p (p+c)),?_,_,rfl,?_,xT _ (xS _ hs)⟩
  ·unfold part
   rw[rb (Qt F.hd w),show qQ d=true from F.agg]
   simp only[if_true]
   rw[rb (yk F.hi w),show i.size=c from F.size];rfl
  ·have:=(hl.drop p).take c
   have e3:(cs.extract p (p+c)).toList=(cs.toList.drop p).take c:=by
    rw[Array.toList_extract,List.extract_eq_take_drop];congr 1;omega
   rw[e3];exact this
 |ba n=>exact absurd rfl hu
theorem kD {s f:Nat} {p:Nat} {ty:Ty} (hf:vd P s f=some (p,ty)): ∃fs x,P.underlying s=some (.struct fs)∧fs[f]? =some x∧p=x.offset∧ty=zw P x.type:=by
 unfold vd at hf
 split at hf
 ·next fs hs=>
  cases hx:fs[f]? with
  |none=>rw[hx]at hf;cases hf
  |some x=>
   rw[hx]at hf
   injection hf with hf
   injection hf with h1 h2
   exact⟨fs,x,hs,hx,h1.symm,h2.symm⟩
 ·cases hf
theorem aiS {s f p:Nat} {ty:Ty} (hf:vd P s f=some (p,ty)) {v:AV} {v':Value} (hv:VR ρ v v') (hu:vR v (fun l=>ldU (.agg l) p ty)≠ .un):QS P ρ w (Instr.field s v' f) (vR v (fun l=>ldU (.agg l) p ty)):=by
 obtain⟨fs,x,h1,h2,rfl,rfl⟩:=kD hf
 obtain⟨l,rfl⟩:=Qk hu
 obtain⟨cs,rfl,h3,h4⟩:=hv
 obtain⟨y,e1,e2⟩:=ahv (P:=P) (w:=w) rfl h3 h4 hu
 refine⟨y,?_,e2⟩
 unfold Instr.field
 rw[rb (zb h1 w)]
 simp only[h2]
 exact e1
theorem Jl {s f p:Nat} {ty:Ty} (hf:vd P s f=some (p,ty)) (hc:ty.cells≠0) {v:AV} {v':Value} (hv:VR ρ v v') (hu:xq v (fun i o=> .ptr i (Nat.add o p))≠ .un):QS P ρ w (Instr.fieldAt s v' f) (xq v (fun i o=> .ptr i (Nat.add o p))):=by
 obtain⟨fs,x,h1,h2,rfl,rfl⟩:=kD hf
 obtain⟨i,o,rfl⟩:=vS hu
 obtain⟨g,κ,hi0,rfl⟩:=hv
 obtain⟨i0,d0,F⟩:=zW (P:=P) (t:=x.type) (fun h=>hc (by rw[h];rfl))
 refine⟨.pointer (some ⟨g,o+x.offset,none⟩),?_,g,κ,hi0,rfl⟩
 unfold Instr.fieldAt
 rw[rb (zb h1 w)]
 simp only[h2]
 rw[rb (show(Instr.sureAddr (.pointer (some ⟨g,o,none⟩))).run P w= .ok ⟨g,o,none⟩ w from rfl)]
 have:(fieldPlace ⟨g,o,none⟩ x).run P w= .ok ⟨g,o+x.offset,none⟩ w:=by
  unfold fieldPlace
  rw[rb (vp F w),if_neg hc,vC];rfl
 rw[rb this];rfl
theorem Kf {t e n:Nat} (hd:P.underlying t=some (.array n e)) (he:(zw P e).cells≠0) {v y:AV} {v' y':Value} (hv:VR ρ v v') (hy:VR ρ y y')
  (hu:xq v (fun i o=>yj y (fun j=> @Bool.rec (fun _=>AV) .un (.ptr i (Nat.add o (Nat.mul j (zw P e).cells))) (Nat.ble (Nat.succ j) n)))≠ .un):QS P ρ w (Instr.indexAt t v' y') (xq v (fun i o=>yj y (fun j=> @Bool.rec (fun _=>AV) .un (.ptr i (Nat.add o (Nat.mul j (zw P e).cells))) (Nat.ble (Nat.succ j) n)))):=by
 obtain⟨i0,d0,F⟩:=zW (P:=P) (t:=e) (fun h=>he (by rw[h];rfl))
 obtain⟨i,o,rfl⟩:=vS hu
 obtain⟨g,κ,hi0,rfl⟩:=hv
 have e0: ∀φ:Nat→Nat→AV,xq (.ptr i o) φ=φ i o:=fun _=>rfl
 rw[e0]at hu⊢
 obtain⟨k,j,rfl,e1⟩:=kF hy hu
 rw[e1]at hu⊢
 rw[zf]at hu⊢
 by_cases hj:Nat.succ j≤n
 ·rw[if_pos hj]
  refine⟨.pointer (some ⟨g,o+j*(zw P e).cells,none⟩),?_,g,κ,hi0,rfl⟩
  unfold Instr.indexAt
  rw[rb (js k j w)]
  simp only
  rw[rb (zb hd w)]
  simp only
  rw[rb (show(Instr.sureAddr (.pointer (some ⟨g,o,none⟩))).run P w= .ok ⟨g,o,none⟩ w from rfl)]
  rw[rb (x:=(pure (some ⟨g,o,none⟩,n,e):Sem (Option Addr×Nat×TypeId))) (a:=(some ⟨g,o,none⟩,n,e)) (w':=w) rfl]
  simp only
  rw[rb (zb hd w)]
  rw[if_pos ⟨by omega,by omega⟩]
  rw[rb (vp F w)]
  show Result.ok (Value.pointer (some (Addr.add _ _))) w=_
  rw[vC];rfl
 ·rw[if_neg hj]at hu;exact absurd rfl hu
theorem ahr {v:AV} {φ:Nat→Nat→Nat→AV} (hu:Ko v φ≠ .un): ∃i o l,Ko v φ=φ i o l∧ ∀ {ρ:Ren} {v':Value},VR ρ v v'→ ∃g κ c,ρ i=some (g,κ)∧v'= .slice (some ⟨g,o,none⟩) l c:=by
 cases v<;>first
  |exact absurd rfl hu
  |exact⟨_,_,_,rfl,fun ⟨g,κ,c,h1,h2,_⟩=>⟨g,κ,c,h1,h2⟩⟩
  |exact⟨_,_,_,rfl,fun ⟨g,κ,h1,h2,_⟩=>⟨g,κ,_,h1,h2⟩⟩
theorem abz {t e:Nat} (hd:P.underlying t=some (.slice e)) (he:(zw P e).cells≠0) {v y:AV} {v' y':Value} (hv:VR ρ v v') (hy:VR ρ y y')
  (hu:Ko v (fun i o l=>yj y (fun j=> @Bool.rec (fun _=>AV) .un (.ptr i (Nat.add o (Nat.mul j (zw P e).cells))) (Nat.ble (Nat.succ j) l)))≠ .un):QS P ρ w (Instr.indexAt t v' y') (Ko v (fun i o l=>yj y (fun j=> @Bool.rec (fun _=>AV) .un (.ptr i (Nat.add o (Nat.mul j (zw P e).cells))) (Nat.ble (Nat.succ j) l)))):=by
 obtain⟨i0,d0,F⟩:=zW (P:=P) (t:=e) (fun h=>he (by rw[h];rfl))
 obtain⟨i,o,l,e0,hx⟩:=ahr hu
 obtain⟨g,κ,c,hi0,rfl⟩:=hx hv
 rw[e0]at hu⊢
 obtain⟨k,j,rfl,e1⟩:=kF hy hu
 rw[e1]at hu⊢
 rw[zf]at hu⊢
 by_cases hj:Nat.succ j≤l
 ·rw[if_pos hj]
  refine⟨.pointer (some ⟨g,o+j*(zw P e).cells,none⟩),?_,g,κ,hi0,rfl⟩
  unfold Instr.indexAt
  rw[rb (js k j w)]
  simp only
  rw[rb (zb hd w)]
  simp only
  rw[rb (x:=(pure (some ⟨g,o,none⟩,l,e):Sem (Option Addr×Nat×TypeId))) (a:=(some ⟨g,o,none⟩,l,e)) (w':=w) rfl]
  simp only
  rw[rb (zb hd w)]
  rw[if_pos ⟨by omega,by omega⟩]
  rw[rb (vp F w)]
  show Result.ok (Value.pointer (some (Addr.add _ _))) w=_
  rw[vC];rfl
 ·rw[if_neg hj]at hu;exact absurd rfl hu
theorem Jp {t e n:Nat} (hd:P.underlying t=some (.array n e)) (he:(zw P e).cells≠0) {v y:AV} {v' y':Value} (hv:VR ρ v v') (hy:VR ρ y y')
  (hu:vR v (fun l=>yj y (fun j=> @Bool.rec (fun _=>AV) .un (ldU (.agg l) (Nat.mul j (zw P e).cells) (zw P e)) (Nat.ble (Nat.succ j) n)))≠ .un):QS P ρ w (Instr.index t v' y') (vR v (fun l=>yj y (fun j=> @Bool.rec (fun _=>AV) .un (ldU (.agg l) (Nat.mul j (zw P e).cells) (zw P e)) (Nat.ble (Nat.succ j) n)))):=by
 obtain⟨i0,d0,F⟩:=zW (P:=P) (t:=e) (fun h=>he (by rw[h];rfl))
 obtain⟨l,rfl⟩:=Qk hu
 obtain⟨cs,rfl,h3,h4⟩:=hv
 have e0: ∀φ:List AV→AV,vR (.agg l) φ=φ l:=fun _=>rfl
 rw[e0]at hu⊢
 obtain⟨k,j,rfl,e1⟩:=kF hy hu
 rw[e1]at hu⊢
 rw[zf]at hu⊢
 by_cases hj:Nat.succ j≤n
 ·rw[if_pos hj]at hu⊢
  obtain⟨x,e2,e3⟩:=ahv (P:=P) (w:=w) rfl h3 h4 hu
  refine⟨x,?_,e3⟩
  unfold Instr.index
  rw[rb (js k j w)]
  simp only
  rw[rb (zb hd w)]
  simp only
  rw[if_pos ⟨by omega,by omega⟩]
  rw[rb (vp F w)]
  exact e2
 ·rw[if_neg hj]at hu;exact absurd rfl hu
theorem Jq {t:Nat} (hd:P.underlying t=some .string) {v y:AV} {v' y':Value} (hv:VR ρ v v') (hy:VR ρ y y')
  (hu:qU v (fun l z=>yj y (fun j=> @Bool.rec (fun _=>AV) .un (.int 4 (byt l z j)) (Nat.ble (Nat.succ j) l)))≠ .un):QS P ρ w (Instr.index t v' y') (qU v (fun l z=>yj y (fun j=> @Bool.rec (fun _=>AV) .un (.int 4 (byt l z j)) (Nat.ble (Nat.succ j) l)))):=by
 obtain⟨l,z,rfl⟩:=xV hu
 obtain⟨s,rfl,hs⟩:=hv
 have e0: ∀φ:Nat→Nat→AV,qU (.str l z) φ=φ l z:=fun _=>rfl
 rw[e0]at hu⊢
 obtain⟨k,j,rfl,e1⟩:=kF hy hu
 rw[e1]at hu⊢
 rw[zf]at hu⊢
 by_cases hj:Nat.succ j≤l
 ·rw[if_pos hj]
  have hz:=xC hs
  have hlt:j<s.size:=by omega
  refine⟨.int .u8 ((s[j]'hlt).toNat:Nat),?_,?_⟩
  ·unfold Instr.index
   rw[rb (js k j w)]
   simp only
   rw[rb (zb hd w)]
   simp only
   rw[if_pos (show(0:Int)≤(j:Nat)by omega)]
   have:s[((j:Nat):Int).toNat]? =some (s[j]'hlt):=by
    show s[j]? =_
    exact getElem?_pos s j hlt
   rw[this];rfl
  ·have e3:(s.data.toList.map UInt8.toNat)[j]? =(bys l z)[j]? :=by rw[hs.1]
   rw[XX (show j<l by omega),List.getElem?_map]at e3
   have e4:s.data.toList[j]? =some (s[j]'hlt):=by
    rw[Array.getElem?_toList]
    exact Array.getElem?_eq_getElem hlt
   rw[e4]at e3
   injection e3 with e3
   rw[e3]
   exact JZ ρ (anL l z j)
 ·rw[if_neg hj]at hu;exact absurd rfl hu
theorem vg {n:Nat} (hu:JT n≠ .un):VR ρ (JT n) (goInt (n:Nat)):=by
 have e:JT n=if n≤1000000000 then .int 3 n else .un:=zf _ _ _ _
 rw[e]at hu⊢
 by_cases hn:n≤1000000000
 ·rw[if_pos hn]
  have h1:n<mdN 3:=Nat.lt_of_le_of_lt hn (by decide)
  refine zA.2 ⟨?_,h1,by decide⟩
  show Value.int .i64 (n:Nat)= .int .i64 (toI 3 n)
  rw[zR h1 (fun _=>Nat.lt_of_le_of_lt hn (by decide))]
 ·rw[if_neg hn]at hu;exact absurd rfl hu
theorem aME {t:TypeId} {ts:Array TypeId} (ht:ts[0]? =some t) {v:AV} {v':Value} (hv:VR ρ v v') (hu:(aCo P t).f v≠ .un) (ty:TypeId):QS P ρ w (Builtin.len_ ts ty #[v']) ((aCo P t).f v):=by
 unfold aCo at hu⊢
 split at hu
 ·next hd=>
  obtain⟨l,x,rfl⟩:=xV hu
  obtain⟨s,rfl,hs⟩:=hv
  have hu:JT l≠ .un:=hu
  refine⟨goInt s.size,?_,?_⟩
  ·unfold Builtin.len_
   simp only[ht]
   show((underlying t)>>=_).run P w=_
   rw[rb (zb hd w)];rfl
  ·rw[xC hs];exact vg hu
 ·next e hd=>
  obtain⟨l,h1,h2,h3⟩:=Xi hu
  obtain⟨a,k,rfl⟩:=vB hv h1 h3
  have hu:vk v JT≠ .un:=hu
  refine⟨goInt l,?_,?_⟩
  ·unfold Builtin.len_
   simp only[ht]
   show((underlying t)>>=_).run P w=_
   rw[rb (zb hd w)];rfl
  ·show VR ρ (vk v JT) _
   rw[h2]at hu⊢
   exact vg hu
 ·exact absurd rfl hu
theorem aL8 {t:TypeId} {ts:Array TypeId} (ht:ts[0]? =some t) {v:AV} {v':Value} (hv:VR ρ v v') (hu:(aCd P t).f v≠ .un) (ty:TypeId):QS P ρ w (Builtin.cap_ ts ty #[v']) ((aCd P t).f v):=by
 unfold aCd at hu⊢
 split at hu
 ·next e hd=>
  have hr: ∀a l k,v'= .slice a l k→(Builtin.cap_ ts ty #[v']).run P w= .ok (goInt k) w:=fun a l k ev=>by
   subst ev
   unfold Builtin.cap_
   simp only[ht]
   show((underlying t)>>=_).run P w=_
   rw[rb (zb hd w)];rfl
  cases v
  case nils=>
   obtain rfl:=hv
   have hu:JT 0≠ .un:=hu
   exact⟨goInt (0:Nat),hr _ _ _ rfl,(show VR ρ (JT 0) _ from vg hu)⟩
  case sl i o l c=>
   obtain⟨g,κ,_,rfl,_⟩:=hv
   have hu:JT c≠ .un:=hu
   exact⟨goInt c,hr _ _ _ rfl,(show VR ρ (JT c) _ from vg hu)⟩
  all_goals exact absurd rfl hu
 ·exact absurd rfl hu
end
end Kv
end
end
section
noncomputable section
namespace Kv
open Go.RowKit
variable {P:Program}
section
variable {ρ:Ren} {w:World} {h:HP}
theorem an4 {f:Nat→Nat→Bool} {m2:Value→Value→Sem Value} (hf: ∀c x y,c<8→x<mdN c→y<mdN c→ ∀w:World,(m2 (.int (zh c) (toI c x)) (.int (zh c) (toI c y))).run P w= .ok (.int (zh c) (if f (Zd c x) (Zd c y)=true then toI c y else toI c x)) w) {a b:AV} {a' b':Value} (ha:VR ρ a a') (hb:VR ρ b b') (hu:(aCp f).f a b≠ .un):QS P ρ w (m2 a' b') ((aCp f).f a b):=by
 obtain⟨c,x,rfl⟩:=yr hu
 have hu':xo b (fun j y=> @Bool.rec (fun _=>AV) .un (@Bool.rec (fun _=>AV) (.int c x) (.int c y) (f (Nat.mod (Nat.add x (hfN c)) (mdN c)) (Nat.mod (Nat.add y (hfN c)) (mdN c)))) (Nat.beq c j))≠ .un:=hu
 obtain⟨j,y,rfl⟩:=yr hu'
 have e:(aCp f).f (.int c x) (.int j y)=if c=j then(if f ((x+hfN c)%mdN c) ((y+hfN c)%mdN c)=true then .int c y else .int c x)else .un:=by
  show @Bool.rec (fun _=>AV) .un (@Bool.rec (fun _=>AV) (.int c x) (.int c y) (f (Nat.mod (Nat.add x (hfN c)) (mdN c)) (Nat.mod (Nat.add y (hfN c)) (mdN c)))) (Nat.beq c j)=_
  rw[zg,zN];rfl
 clear hu'
 rw[e]at hu⊢
 by_cases hcj:c=j
 ·subst hcj
  rw[if_pos rfl]
  obtain⟨rfl,hx,hc⟩:=zA.1 ha
  obtain⟨rfl,hy,_⟩:=zA.1 hb
  have hh:=aaw c
  have o1: ∀z,z<mdN c→(z+hfN c)%mdN c=Zd c z:=fun z hz=>by
   unfold Zd
   by_cases hs:y9 c=true
   ·rw[if_pos hs]
   ·rw[if_neg hs]
    rw[if_neg hs]at hh
    rw[show z+hfN c=z by omega,Nat.mod_eq_of_lt hz]
  rw[o1 x hx,o1 y hy]
  refine⟨_,hf c x y hc hx hy w,?_⟩
  by_cases hff:f (Zd c x) (Zd c y)=true
  ·rw[if_pos hff,if_pos hff];exact zA.2 ⟨rfl,hy,hc⟩
  ·rw[if_neg hff,if_neg hff];exact zA.2 ⟨rfl,hx,hc⟩
 ·rw[if_neg hcj]at hu;exact absurd rfl hu
theorem aBo (c x y:Nat) (hc:c<8) (hx:x<mdN c) (hy:y<mdN c) (w:World):(Builtin.max2 (.int (zh c) (toI c x)) (.int (zh c) (toI c y))).run P w= .ok (.int (zh c) (if Nat.ble (Nat.succ (Zd c x)) (Zd c y)=true then toI c y else toI c x)) w:=by
 have h1:=Qn hx hy
 unfold Builtin.max2
 simp only
 rw[rp]
 congr 2
 by_cases h:toI c y>toI c x
 ·rw[if_pos h,if_pos ((zy _ _).2 (h1.1 h))]
 ·rw[if_neg h,if_neg (fun k=>h (h1.2 ((zy _ _).1 k)))]
theorem aBu (c x y:Nat) (hc:c<8) (hx:x<mdN c) (hy:y<mdN c) (w:World):(Builtin.min2 (.int (zh c) (toI c x)) (.int (zh c) (toI c y))).run P w= .ok (.int (zh c) (if Nat.ble (Nat.succ (Zd c y)) (Zd c x)=true then toI c y else toI c x)) w:=by
 have h1:=Qn hy hx
 unfold Builtin.min2
 simp only
 rw[rp]
 congr 2
 by_cases h:toI c y<toI c x
 ·rw[if_pos h,if_pos ((zy _ _).2 (h1.1 h))]
 ·rw[if_neg h,if_neg (fun k=>h (h1.2 ((zy _ _).1 k)))]
theorem aMn (m2:Value→Value→Sem Value) (x y:Value) {v:Value} (h:(m2 x y).run P w= .ok v w):([y].foldlM m2 x).run P w= .ok v w:=by
 simp only[List.foldlM_cons,List.foldlM_nil]
 rw[rb h];rfl
theorem ah1: ∀(vs:List Value) (k o:Nat) (c:Array Value),o+k+vs.length≤c.size→(vs.zipIdx k).foldl (fun cs (x:Value×Nat)=>cs.setIfInBounds (o+x.2) x.1) c=jX c (o+k) vs
 | [],k,o,c,h=>by rw[Zt];rfl
 |v::vs,k,o,c,h=>by
  rw[List.zipIdx_cons,List.foldl_cons]
  have h':o+k+(vs.length+1)≤c.size:=h
  rw[ah1 vs (k+1) o _ (by simp;omega)]
  rw[←JL c (o+k) v vs (by omega)];rfl
theorem ZB (vs:Array Value) (o:Nat) (c:Array Value) (h:o+vs.size≤c.size):vs.zipIdx.foldl (fun cs (x:Value×Nat)=>cs.setIfInBounds (o+x.2) x.1) c=jX c o vs.toList:=by
 rw[←Array.foldl_toList,Array.toList_zipIdx]
 exact ah1 vs.toList 0 o c (by simpa using h)
theorem ahb {α β:Type} (f:α→Sem β) (g:α→β): ∀l:List α,(∀x∈l,(f x).run P w= .ok (g x) w)→(l.mapM f).run P w= .ok (l.map g) w
 | [],_=>rfl
 |x::l,h=>by
  rw[List.mapM_cons,rb (h x List.mem_cons_self),rb (ahb f g l fun y hy=>h y (List.mem_cons_of_mem _ hy))];rfl
theorem aix {α β:Type} (f:α→Sem β) (g:α→β) (l:Array α) (h: ∀x∈l.toList,(f x).run P w= .ok (g x) w):(l.mapM f).run P w= .ok (l.map g) w:=by
 have h1:=ahb (P:=P) (w:=w) f g l.toList h
 rw[←Array.toList_mapM]at h1
 have h2:((fun a=>a.toList)<$>l.mapM f)=(l.mapM f>>=fun a=>pure a.toList):=by rw[bind_pure_comp]
 rw[h2]at h1
 have h3:((l.mapM f>>=fun a=>pure a.toList:Sem (List β))).run P w=_:=Sem.run_bind' P (l.mapM f) (fun a=>(pure a.toList:Sem (List β))) w
 rw[h1]at h3
 cases h4:(l.mapM f).run P w with
 |ok b w'=>
  rw[h4]at h3
  have h3:Result.ok (l.toList.map g) w= .ok b.toList w':=h3
  injection h3 with h5 h6
  subst h6
  congr 1
  apply Array.ext'
  rw[←h5,Array.toList_map]
 |halt x w'=>
  rw[h4]at h3
  cases h3
theorem agJ {r:RG} {a:Act} (rr:RR ρ r a) (place:Nat→Option (Nat×Nat)): ∀(ps:List (Nat×Operand)) (c:List AV) (cs:Array Value),VRs ρ c cs.toList→c.all sca=true→(qf P place ps).f r c≠[]→
  ∃cs',Instr.fill place cs (ps.map fun (i,x)=>(i,a.eval x))=some cs'∧VRs ρ ((qf P place ps).f r c) cs'.toList∧((qf P place ps).f r c).all sca=true
 | [],c,cs,hc,hs,_=>⟨cs,rfl,hc,hs⟩
 | (i,x)::ps,c,cs,hc,hs,hne=>by
  have e:(qf P place ((i,x)::ps)).f r c=match place i with
    |none=>[]
    |some (o,n)=>if size ((zx x).f r)=n then(if o+n≤c.length then(if(xF ((zx x).f r)).all sca=true then(qf P place ps).f r (qx c o (xF ((zx x).f r)))else [])else [])else []:=by
   rw[qf]
   cases place i with
   |none=>rfl
   |some p=>
    obtain⟨o,n⟩:=p
    simp only[zl,zg,zf]
    simp only[zN,xU,QF,vD];rfl
  rw[e]at hne⊢
  rw[List.map_cons]
  unfold Instr.fill
  cases hp:place i with
  |none=>rw[hp]at hne;exact absurd rfl hne
  | some p=>
   obtain⟨o,n⟩:=p
   rw[hp]at hne
   simp only at hne⊢
   by_cases h1:size ((zx x).f r)=n
   ·rw[if_pos h1]at hne⊢
    by_cases h2:o+n≤c.length
    ·rw[if_pos h2]at hne⊢
     by_cases h3:(xF ((zx x).f r)).all sca=true
     ·rw[if_pos h3]at hne⊢
      have hu:(zx x).f r≠ .un:=fun e=>by rw[e]at h3;cases h3
      have ht: ∀l,(zx x).f r≠ .tup l:=fun l e=>by rw[e]at h3;cases h3
      obtain⟨k1,k2,k3,k4⟩:=Xx (zr rr x hu) ht
      have hlc:=VRs.length _ _ hc
      rw[Array.length_toList]at k2
      have hcs:=Array.length_toList (xs:=cs)
      rw[if_neg (by simp only[ne_eq,Bool.or_eq_true,decide_eq_true_eq,not_or];omega)]
      rw[ZB _ _ _ (by omega)]
      refine agJ rr place ps _ _ ?_ (j0 hs k3) hne
      rw[jx]
      exact hc.spl k1
     ·rw[if_neg h3]at hne;exact absurd rfl hne
    ·rw[if_neg h2]at hne;exact absurd rfl hne
   ·rw[if_neg h1]at hne;exact absurd rfl hne
end
end Kv
end
end
section
noncomputable section
namespace Kv
open Go.RowKit
variable {P:Program}
section
variable {ρ:Ren} {w:World} {h:HP} {r:RG} {a:Act}
theorem vq {s:Sem Value} {x:AV} (hq:QS P ρ w s x): ∃v,((do pure (Next.value (←s))):Sem Next).run P w= .ok (.value v) w∧VR ρ x v:=by
 obtain⟨v,h1,h2⟩:=hq
 exact⟨v,by rw[rb h1];rfl,h2⟩
theorem Km (rr:RR ρ r a) (x:Option Operand):OR ρ ((xy x).f r) (x.map a.eval):=by
 cases x with
 |none=>trivial
 |some x=>
  have e:(xy (some x)).f r=some ((zx x).f r):=by simp only[xy,zl]
  rw[e]
  exact fun hu=>zr rr x hu
theorem aNj (l:List Operand):True:=trivial
theorem aBl (hr:HR ρ h w) {t:TypeId} {x:AV} {x':Value} (hx:VR ρ x x') (hu:xq x (fun i o=>(ldC (zw P t)).f (h.get i) o)≠ .un):QS P ρ w (Instr.loadAt t x') (xq x (fun i o=>(ldC (zw P t)).f (h.get i) o)):=by
 obtain⟨i,o,rfl⟩:=vS hu
 obtain⟨g,κ,hi0,rfl⟩:=hx
 have hu:(ldC (zw P t)).f (h.get i) o≠ .un:=hu
 have hn:zw P t≠ .no:=fun e=>by
  rw[e]at hu
  cases hg:h.get i<;>rw[hg]at hu<;>first
   |exact hu rfl
   | (apply hu
      refine(zf _ _ _ _).trans ?_
      split<;>rfl)
 obtain⟨i0,d0,F⟩:=zW hn
 obtain⟨_,ob,h1,h2⟩:=hr.at_ i g κ hi0
 exact aRZ F h1 h2 hu
theorem Ks {x:AV} {φ:Nat→Nat→AV} (hu:xq x φ≠ .un):x≠ .un:=fun e=>by rw[e]at hu;exact hu rfl
theorem aiD (rr:RR ρ r a) (t:TypeId) (ps:Array (Nat×Operand)) (hu:(vG P t ps.toList).f r≠ .un):QS P ρ w (Instr.build t (ps.map fun (i,x)=>(i,a.eval x))) ((vG P t ps.toList).f r):=by
 have hn:zw P t≠ .no:=fun e=>by unfold vG at hu;rw[e]at hu;exact hu rfl
 obtain⟨i0,d0,F⟩:=zW hn
 obtain⟨z,hz,hzv,hzu⟩:=F.zero
 have hZ:(Instr.build t (ps.map fun (i,x)=>(i,a.eval x))).run P w=(do
   match←underlying t with
   | .struct fields=>
    let places←fields.mapM fun f=>do pure (f.offset,←sizeOf f.type)
    let some cells:=Instr.fill (places[·]?) z.cells (ps.map fun (i,x)=>(i,a.eval x)).toList|stuck "build: no such field, or a part of the wrong size"
    pure (.agg cells)
   | .array _ elem=>
    let size←sizeOf elem
    let some cells:=Instr.fill (fun i=>some (i*size,size)) z.cells (ps.map fun (i,x)=>(i,a.eval x)).toList|stuck "build: a part of the wrong size"
    pure (.agg cells)
   |_=>stuck "build: struct or array type expected" :Sem Value).run P w:=by
  unfold Instr.build
  rw[rb (yc F.hi hz w)]
  rfl
 have hpl:(ps.map fun (i,x)=>(i,a.eval x)).toList=ps.toList.map fun (i,x)=>(i,a.eval x):=by simp
 unfold vG at hu⊢
 split at hu
 ·next n hty=>
  rw[hty]at F hzv hzu
  split at hu
  ·next hps=>
   obtain⟨e,hd,he⟩:=F.ba n rfl
   subst hd
   have he':=(vN e).1 he
   obtain⟨ie,hie⟩: ∃ie,P.info? e=some ie:=by
    unfold Program.underlying at he'
    cases hx:P.info? e with
    |none=>rw[hx]at he';cases he'
    |some ie=>exact⟨ie,rfl⟩
   refine⟨.agg z.cells,?_,z.cells,rfl,?_,Nat.pow_pos (by omega)⟩
   ·unfold QS at *
    rw[hZ,rb (zb F.hd w)]
    simp only
    rw[rb (yk hie w),hpl,hps];rfl
   ·exact yL (hzu ρ).vs
  ·exact absurd rfl hu
 ·next n z0 hty=>
  rw[hty]at F hzv hzu
  have hzl:VRs ρ z0 z.cells.toList:=(hzu ρ).vs
  have hzs:z0.all sca=true:=(hzu ρ).sc
  have fin: ∀(place:Nat→Option (Nat×Nat)),aMk n ((qf P place ps.toList).f r z0)≠ .un→ ∃cs',Instr.fill place z.cells (ps.toList.map fun (i,x)=>(i,a.eval x))=some cs'∧VR ρ (aMk n ((qf P place ps.toList).f r z0)) (.agg cs'):=fun place hu=>by
   have e:aMk n ((qf P place ps.toList).f r z0)=if((qf P place ps.toList).f r z0).length=n then .agg ((qf P place ps.toList).f r z0)else .un:=by
    show @Bool.rec (fun _=>AV) _ _ _=_
    rw[zg,xU]
   rw[e]at hu⊢
   by_cases hl:((qf P place ps.toList).f r z0).length=n
   ·rw[if_pos hl]
    have hp:0<n:=F.pos
    have hne:(qf P place ps.toList).f r z0≠[]:=fun e=>by rw[e]at hl;simp at hl;omega
    obtain⟨cs',h1,h2,h3⟩:=agJ rr place ps.toList z0 z.cells hzl hzs hne
    exact⟨cs',h1,cs',rfl,h2,h3⟩
   ·rw[if_neg hl]at hu;exact absurd rfl hu
  split at hu
  ·next k e hae=>
   have hd:P.underlying t=some (.array k e):=by
    unfold aoC at hae
    split at hae
    ·next n' e' h=>injection hae with hae;injection hae with h1 h2;subst h1;subst h2;exact h
    ·cases hae
   rw[zg]at hu⊢
   by_cases hc:(zw P e).cells=0
   ·rw[if_pos hc]at hu;exact absurd rfl hu
   ·rw[if_neg hc,zl]at hu⊢
    obtain⟨i1,d1,F1⟩:=zW (P:=P) (t:=e) (fun h=>hc (by rw[h];rfl))
    obtain⟨cs',h1,h2⟩:=fin _ hu
    refine⟨.agg cs',?_,h2⟩
    rw[hZ,rb (zb hd w)]
    simp only
    rw[rb (vp F1 w),hpl]
    have:(fun i=>some (i*(zw P e).cells,(zw P e).cells))=an9 (zw P e).cells:=rfl
    rw[this,h1];rfl
  ·next hae=>
   rw[zN]at hu⊢
   by_cases hf:X7 P t=true
   ·rw [if_pos hf,zl]at hu⊢
    obtain⟨cs',h1,h2⟩:=fin _ hu
    unfold X7 at hf
    split at hf
    ·next fs hd=>
     have hall: ∀l:List Field,aNi (aCm P) l=true→ ∀x∈l,∃i,P.info? x.type=some i:=by
      intro l
      induction l with
      |nil=>intro _ x hx;cases hx
      | cons y l ih=>
       intro hl x hx
       have hl: @Bool.rec (fun _=>Bool) false (aNi (aCm P) l) (aCm P y)=true:=hl
       rw[zN]at hl
       by_cases hy:aCm P y=true
       ·rw[if_pos hy]at hl
        rcases List.mem_cons.1 hx with rfl|hx
        ·unfold aCm at hy
         cases hi:P.info? x.type with
         |none=>rw[hi]at hy;cases hy
         |some i=>exact⟨i,rfl⟩
        ·exact ih hl x hx
       ·rw[if_neg hy]at hl;cases hl
     have hm:=aix (P:=P) (w:=w) (fun f:Field=>(do pure (f.offset,←sizeOf f.type):Sem (Nat×Nat))) (fun f=>(f.offset,((P.info? f.type).map (·.size)).getD 0)) fs (fun x hx=>by
      obtain⟨i,hi⟩:=hall _ hf x hx
      rw[rb (yk hi w),hi];rfl)
     refine⟨.agg cs',?_,h2⟩
     rw[hZ,rb (zb hd w)]
     simp only
     rw[rb hm,hpl]
     have hplace: ∀(ps:List (Nat×Value)) (c cs:Array Value),Instr.fill (aaR P t) c ps=some cs→Instr.fill ((fs.map fun f=>(f.offset,((P.info? f.type).map (·.size)).getD 0))[·]?) c ps=some cs:=by
      intro ps
      induction ps with
      |nil=>intro c cs h;exact h
      | cons p ps ih=>
       obtain⟨i,v⟩:=p
       intro c cs h
       unfold Instr.fill at h⊢
       cases hp:aaR P t i with
       |none=>rw[hp]at h;cases h
       | some q=>
        have hq:(fs.map fun f=>(f.offset,((P.info? f.type).map (·.size)).getD 0))[i]? =some q:=by
         unfold aaR at hp
         split at hp
         ·next o ty hfo=>
          rw[zg]at hp
          by_cases hc:ty.cells=0
          ·rw[if_pos hc]at hp;cases hp
          ·rw[if_neg hc]at hp
           injection hp with hp
           subst hp
           obtain⟨fs',x,k1,k2,rfl,rfl⟩:=kD hfo
           rw[hd]at k1
           injection k1 with k1
           injection k1 with k1
           subst k1
           rw[Array.getElem?_map,k2]
           obtain⟨i1,d1,F1⟩:=zW (P:=P) (t:=x.type) (fun h=>hc (by rw[h];rfl))
           show some (x.offset,_)=_
           rw[F1.hi]
           show some (x.offset,i1.size)=_
           rw[F1.size]
         ·cases hp
        rw[hp]at h
        rw[hq]
        simp only at h⊢
        split at h
        ·cases h
        ·next hcnd=>rw[if_neg hcnd];exact ih _ _ h
     rw[hplace _ _ _ h1];rfl
    ·cases hf
   ·rw[if_neg hf]at hu;exact absurd rfl hu
 ·exact absurd rfl hu
end
end Kv
end
end
section
noncomputable section
namespace Kv
open Go.RowKit
variable {P:Program}
section
variable {ρ:Ren} {w:World} {h:HP} {r:RG} {a:Act}
theorem aMH {v:AV} {v':Value} (hv:VR ρ v v') (hu:aNx v≠ .un) (dst:Option Tmp) (x:Operand) (hx:a.eval x=v') (ty:TypeId) (pos:String) (after:Array Edge) (gd:Option (Nat×Bool)): ∃y,(execOp a.eval ⟨dst,.nilCheck x,ty,pos,after,gd⟩).run P w= .ok (.value y) w∧VR ρ (aNx v) y:=by
 have e:(∃p,v'= .pointer (some p))∨(∃f c d,v'= .func (.func f) c d)→(execOp a.eval ⟨dst,.nilCheck x,ty,pos,after,gd⟩).run P w= .ok (.value v') w:=fun hp=>by
  unfold execOp
  simp only[hx]
  rcases hp with⟨p,rfl⟩ | ⟨f,c,d,rfl⟩<;>rfl
 cases v
 case ptr i o=>
  obtain⟨g,κ,hi,rfl⟩:=hv
  exact⟨_,e (.inl ⟨_,rfl⟩),g,κ,hi,rfl⟩
 case fn f c d=>
  obtain⟨c',d',rfl,h1,h2⟩:=hv
  cases f
  case func f=>exact⟨_,e (.inr ⟨_,_,_,rfl⟩),c',d',rfl,h1,h2⟩
  all_goals exact absurd rfl hu
 all_goals exact absurd rfl hu
theorem k9 (ev:Operand→Value) (b:Builtin) (l:List Operand) (ts:Array TypeId) (dst:Option Tmp) (ty:TypeId) (pos:String) (after:Array Edge) (gd:Option (Nat×Bool)) (w:World):(execOp ev ⟨dst,.call ⟨.builtin b,⟨l⟩,ts⟩,ty,pos,after,gd⟩).run P w=(Go.builtin b ts ty ((⟨l⟩:Array Operand).map fun| .const _=>true|_=>false) ⟨l.map ev⟩).run P w:=by
 have e:(⟨l⟩:Array Operand).map ev=⟨l.map ev⟩:=by simp
 unfold execOp
 show((resolve ev ⟨.builtin b,⟨l⟩,ts⟩ ty)>>=fun d=>invoke d.target d.args).run P w=_
 rw[rb (a:=(⟨.builtin b ts ty ((⟨l⟩:Array Operand).map fun| .const _=>true|_=>false),(⟨l⟩:Array Operand).map ev⟩:Deferred)) (w':=w) rfl,e]
 rfl
theorem aR7 (rr:RR ρ r a) (hr:HR ρ h w) (o:Oper) (hu:(zt P o.op).f r h≠ .un): ∃v,(execOp a.eval o).run P w= .ok (.value v) w∧VR ρ ((zt P o.op).f r h) v:=by
 obtain⟨dst,op,ty,pos,after,gd⟩:=o
 simp only at hu⊢
 cases op
 case move x=>
  have e:(zt P (.move x)).f r h=(zx x).f r:=by simp only[zt,zl]
  rw[e]at hu⊢
  exact⟨_,rfl,zr rr x hu⟩
 case assign x=>
  have e:(zt P (.assign x)).f r h=(zx x).f r:=by simp only[zt,zl]
  rw[e]at hu⊢
  exact⟨_,rfl,zr rr x hu⟩
 case pick c x y=>
  have e:(zt P (.pick c x y)).f r h=Jx ((zx c).f r) (fun t=> @Bool.rec (fun _=>AV) ((zx y).f r) ((zx x).f r) t):=by simp only[zt,zl]
  rw[e]at hu⊢
  obtain⟨b,hb⟩:=Yq hu
  have hc:=zr rr c (by rw[hb];intro e;cases e)
  rw[hb]at hc hu⊢
  have hc:a.eval c= .bool b:=hc
  have e2: ∀φ:Bool→AV,Jx (.bl b) φ=φ b:=fun _=>rfl
  rw[e2]at hu⊢
  refine⟨if b=true then a.eval x else a.eval y,?_,?_⟩
  ·unfold execOp
   simp only[hc]
   cases b<;>rfl
  ·cases b
   ·exact zr rr y hu
   ·exact zr rr x hu
 case build t ps=>
  have e:(zt P (.build t ps)).f r h=(vG P t ps.toList).f r:=by simp only[zt,zl]
  rw[e]at hu⊢
  exact vq (aiD rr t ps hu)
 case load t x=>
  have e:(zt P (.load t x)).f r h=xq ((zx x).f r) (fun i o=>(ldC (zw P t)).f (h.get i) o):=by simp only[zt,zl]
  rw[e]at hu⊢
  exact vq (aBl hr (zr rr x (Ks hu)) hu)
 case nilCheck x=>
  have e:(zt P (.nilCheck x)).f r h=aNx ((zx x).f r):=by simp only[zt,zl]
  rw[e]at hu⊢
  exact aMH (zr rr x (fun e=>by rw[e]at hu;exact hu rfl)) hu dst x rfl ty pos after gd
 case binOp op t x y yt=>
  have e:(zt P (.binOp op t x y yt)).f r h=(aiC P op t).f ((zx x).f r) ((zx y).f r):=by simp only[zt,zl]
  rw[e]at hu⊢
  have hhead:=af1 hu
  have hx:=zr rr x (fun e=>by rw[e]at hhead;cases hhead)
  have hy':(zx y).f r≠ .un:=fun e=>by
   rw[e]at hu
   apply hu
   exact bin_un _ _ _
  have hy:=zr rr y hy'
  obtain⟨v,h1,h2⟩:=aAE op t _ _ _ _ w hx hy hu
  refine⟨v,?_,h2⟩
  show((do eqGuard op t x y (a.eval x) (a.eval y);binOp op t (a.eval x) (a.eval y))>>=fun v=>pure (Next.value v)).run P w=_
  rw[rb (show(do eqGuard op t x y (a.eval x) (a.eval y);binOp op t (a.eval x) (a.eval y):Sem Value).run P w= .ok v w from by rw[rb (aiW hx hhead op t x y (a.eval y) w)];exact h1)]
  rfl
 case unOp op t x=>
  have e:(zt P (.unOp op t x)).f r h=(unC op).f ((zx x).f r):=by simp only[zt,zl]
  rw[e]at hu⊢
  refine vq (aNc op (zr rr x (fun e=>?_)) hu)
  rw[e]at hu
  cases op<;>exact hu rfl
 case convert s t x=>
  have e:(zt P (.convert s t x)).f r h=(Z5 P s t).f ((zx x).f r) h:=by simp only[zt,zl]
  rw[e]at hu⊢
  refine vq (aAO hr (zr rr x (fun e=>?_)) hu)
  rw[e]at hu
  apply hu
  exact conv_un _ _ _
 case makeFunc f x y=>
  have e:(zt P (.makeFunc f x y)).f r h=if(if xQ x.toList=true then xQ y.toList else false)=true then .fn f ((xk x.toList).f r) ((xk y.toList).f r)else .un:=by
   simp only[zt,zN]
   by_cases hk:(if xQ x.toList=true then xQ y.toList else false)=true
   ·rw[if_pos hk,if_pos hk]
   ·rw[if_neg hk,if_neg hk];rfl
  rw[e]at hu⊢
  by_cases hk:(if xQ x.toList=true then xQ y.toList else false)=true
  ·rw[if_pos hk]
   have h1:xQ x.toList=true:=by
    by_cases h:xQ x.toList=true
    ·exact h
    ·rw[if_neg h]at hk;cases hk
   rw[if_pos h1]at hk
   refine⟨.func f (x.map a.eval) (y.map a.eval),rfl,_,_,rfl,?_,?_⟩
   ·rw[Array.toList_map];exact Xz rr _ h1
   ·rw[Array.toList_map];exact Xz rr _ hk
  ·rw[if_neg hk]at hu;exact absurd rfl hu
 case slice t x lo hi mx=>
  have e:(zt P (.slice t x lo hi mx)).f r h=if(if qR hi=true then not (qR mx)else false)=true then .un else(Zg P t).f ((xy lo).f r) ((xy hi).f r) ((xy mx).f r) h ((zx x).f r):=by
   simp only[zt,zN]
   by_cases hk:(if qR hi=true then not (qR mx)else false)=true
   ·rw[if_pos hk,if_pos hk];rfl
   ·rw[if_neg hk,if_neg hk]
  rw[e]at hu⊢
  by_cases hk:(if qR hi=true then not (qR mx)else false)=true
  ·rw[if_pos hk]at hu;exact absurd rfl hu
  ·rw [if_neg hk]at hu⊢
   have hmx:hi.map a.eval=none→mx.map a.eval=none:=fun hn=>by
    cases hi with
    |some y=>cases hn
    |none=>
     change¬(not (qR mx))=true at hk
     cases mx with
     |none=>rfl
     |some y=>exact absurd rfl hk
   have o1:=Km (ρ:=ρ) rr lo
   have o2:=Km (ρ:=ρ) rr hi
   have o3:=Km (ρ:=ρ) rr mx
   have hx:(zx x).f r≠ .un→VR ρ ((zx x).f r) (a.eval x):=zr rr x
   have key:QS P ρ w (Instr.sliceAt t (a.eval x) (lo.map a.eval) (hi.map a.eval) (mx.map a.eval)) ((Zg P t).f ((xy lo).f r) ((xy hi).f r) ((xy mx).f r) h ((zx x).f r)):=by
    generalize (zx x).f r=v at *
    generalize a.eval x=v' at *
    generalize (xy lo).f r=lo1 at *
    generalize (xy hi).f r=hi1 at *
    generalize (xy mx).f r=mx1 at *
    generalize lo.map a.eval=lo2 at *
    generalize hi.map a.eval=hi2 at *
    generalize mx.map a.eval=mx2 at *
    unfold Zg at hu⊢
    split at hu
    ·next hd=>
     cases mx1 with
     |some m=>exact absurd rfl hu
     | none=>
      cases mx2 with
      |some m=>exact o3.elim
      |none=>
       obtain⟨l,z,rfl⟩:=xV hu
       obtain⟨s,rfl,hs⟩:=hx (fun e=>by cases e)
       exact ah6 hd hs o1 o2 hu
    ·next n e hd=>
     rw[zg]at hu⊢
     by_cases hc:(zw P e).cells=0
     ·rw[if_pos hc]at hu;exact absurd rfl hu
     ·rw[if_neg hc]at hu⊢
      obtain⟨i,o,rfl⟩:=vS hu
      obtain⟨g,κ,hi0,rfl⟩:=hx (fun e=>by cases e)
      exact ah5 hd hc hi0 o1 o2 o3 hmx hu
    ·next e hd=>
     rw[zg]at hu⊢
     by_cases hc:(zw P e).cells=0
     ·rw[if_pos hc]at hu;exact absurd rfl hu
     ·rw[if_neg hc]at hu⊢
      have hv:v≠ .un:=fun e=>by subst e;exact hu rfl
      exact ajA hr hd hc (hx hv) o1 o2 o3 hmx hu
    ·exact absurd rfl hu
   exact vq key
 case fieldAddr s x f=>
  unfold zt at hu⊢
  simp only at hu⊢
  split at hu
  ·next p tyf hf=>
   rw[zg]at hu⊢
   by_cases hc:tyf.cells=0
   ·rw[if_pos hc]at hu;exact absurd rfl hu
   ·rw[if_neg hc]at hu⊢
    simp only[zl]at hu⊢
    exact vq (Jl hf hc (zr rr x (Ks hu)) hu)
  ·exact absurd rfl hu
 case field s x f=>
  unfold zt at hu⊢
  simp only at hu⊢
  split at hu
  ·next p tyf hf=>
   simp only[zl]at hu⊢
   exact vq (aiS hf (zr rr x (fun e=>by rw[e]at hu;exact hu rfl)) hu)
  ·exact absurd rfl hu
 case indexAddr t x y=>
  unfold zt at hu⊢
  simp only[zl]at hu⊢
  split at hu
  ·next n e hd=>
   rw[zg]at hu⊢
   by_cases hc:(zw P e).cells=0
   ·rw[if_pos hc]at hu;exact absurd rfl hu
   ·rw[if_neg hc]at hu⊢
    have hx:=zr rr x (Ks hu)
    have hy:(zx y).f r≠ .un:=fun e=>by
     obtain⟨i,o,hi⟩:=vS hu
     apply hu
     show xq _ _=_
     rw[hi,e];rfl
    exact vq (Kf hd hc hx (zr rr y hy) hu)
  ·next e hd=>
   rw[zg]at hu⊢
   by_cases hc:(zw P e).cells=0
   ·rw[if_pos hc]at hu;exact absurd rfl hu
   ·rw[if_neg hc]at hu⊢
    have hx:(zx x).f r≠ .un:=fun e=>by
     apply hu
     show Ko _ _=_
     rw[e];rfl
    have hy:(zx y).f r≠ .un:=fun e=>by
     apply hu
     obtain⟨i,o,l,h1,_⟩:=ahr hu
     show Ko _ _=_
     rw[h1,e];rfl
    exact vq (abz hd hc (zr rr x hx) (zr rr y hy) hu)
  ·exact absurd rfl hu
 case index t x y=>
  unfold zt at hu⊢
  simp only[zl]at hu⊢
  split at hu
  ·next n e hd=>
   rw[zg]at hu⊢
   by_cases hc:(zw P e).cells=0
   ·rw[if_pos hc]at hu;exact absurd rfl hu
   ·rw[if_neg hc]at hu⊢
    obtain⟨l,hl⟩:=Qk hu
    have hx:=zr rr x (fun e=>by rw[e]at hl;cases hl)
    have hy:(zx y).f r≠ .un:=fun e=>by
     apply hu
     show vR _ _=_
     rw[hl,e];rfl
    exact vq (Jp hd hc hx (zr rr y hy) hu)
  ·next hd=>
   obtain⟨l,z,hl⟩:=xV hu
   have hx:=zr rr x (fun e=>by rw[e]at hl;cases hl)
   have hy:(zx y).f r≠ .un:=fun e=>by
    apply hu
    show qU _ _=_
    rw[hl,e];rfl
   exact vq (Jq hd hx (zr rr y hy) hu)
  ·exact absurd rfl hu
 case extract t i=>
  have e:(zt P (.extract t i)).f r h=aaK ((zx t).f r) (fun l=>nth l i):=by simp only[zt,zl]
  rw[e]at hu⊢
  obtain⟨l,hl⟩:=ajg hu
  have hx:=zr rr t (fun e=>by rw[e]at hl;cases hl)
  rw[hl]at hx hu⊢
  obtain⟨l',e1,h1⟩:=hx
  have e2: ∀φ:List AV→AV,aaK (.tup l) φ=φ l:=fun _=>rfl
  rw[e2,aaH]at hu⊢
  have hi:i<l.length:=by
   rcases Nat.lt_or_ge i l.length with h|h
   ·exact h
   ·rw[List.getElem?_eq_none h]at hu;exact absurd rfl hu
  obtain⟨x,y,k1,k2,k3⟩:=VRs.get i h1 hi
  rw[k1]
  refine⟨y,?_,k3⟩
  unfold execOp
  simp only[e1,Instr.extract]
  rw[←Array.getElem?_toList,k2];rfl
 case call c=>
  obtain⟨cal,⟨as⟩,⟨ts⟩⟩:=c
  unfold zt at hu⊢
  simp only at hu⊢
  split at hu
  ·next x t ts=>
   simp only[zl]at hu⊢
   have hx:(zx x).f r≠ .un:=fun e=>by
    rw[e]at hu;exact hu (len_un t)
   rw[k9]
   exact vq (s:=Builtin.len_ ⟨t::ts⟩ ty #[a.eval x]) (aME (t:=t) (ts:=⟨t::ts⟩) rfl (zr rr x hx) hu ty)
  ·next x t ts=>
   simp only[zl]at hu⊢
   have hx:(zx x).f r≠ .un:=fun e=>by
    rw[e]at hu;exact hu (cap_un t)
   rw[k9]
   exact vq (s:=Builtin.cap_ ⟨t::ts⟩ ty #[a.eval x]) (aL8 (t:=t) (ts:=⟨t::ts⟩) rfl (zr rr x hx) hu ty)
  ·next x y=>
   simp only[zl]at hu⊢
   have hx:(zx x).f r≠ .un:=fun e=>by
    rw[e]at hu;exact hu rfl
   have hy:(zx y).f r≠ .un:=fun e=>by
    rw[e]at hu;exact hu (mx_un _ _)
   rw[k9]
   refine vq (w:=w) (s:=Builtin.max_ ⟨ts⟩ ty #[a.eval x,a.eval y]) ?_
   obtain⟨v,h1,h2⟩:=an4 (m2:=Builtin.max2) aBo (zr rr x hx) (zr rr y hy) hu
   exact⟨v,aMn _ _ _ h1,h2⟩
  ·next x y=>
   simp only[zl]at hu⊢
   have hx:(zx x).f r≠ .un:=fun e=>by
    rw[e]at hu;exact hu rfl
   have hy:(zx y).f r≠ .un:=fun e=>by
    rw[e]at hu;exact hu (mx_un _ _)
   rw[k9]
   refine vq (w:=w) (s:=Builtin.min_ ⟨ts⟩ ty #[a.eval x,a.eval y]) ?_
   obtain⟨v,h1,h2⟩:=an4 (m2:=Builtin.min2) aBu (zr rr x hx) (zr rr y hy) hu
   exact⟨v,aMn _ _ _ h1,h2⟩
  ·exact absurd rfl hu
 all_goals exact absurd rfl hu
where
 bin_un (op:BinOp) (t:TypeId) (a:AV):(aiC P op t).f a .un= .un:=by
  unfold aiC
  split
  ·next k _=>
   cases op<;>first | (cases a<;>rfl) | (cases k<;>cases a<;>rfl)
  ·cases op<;>(cases a<;>rfl)
  ·cases op<;>(cases a<;>rfl)
  ·cases op<;>(cases a<;>rfl)
  ·rw[zg]
   split
   ·rfl
   ·cases op<;>(cases a<;>rfl)
  ·cases op<;>(cases a<;>rfl)
  ·cases op<;>(cases a<;>rfl)
  ·rfl
 mx_un (f:Nat→Nat→Bool) (a:AV):(aCp f).f a .un= .un:=by
  cases a<;>rfl
 len_un (t:TypeId):(aCo P t).f .un= .un:=by
  unfold aCo;split<;>rfl
 cap_un (t:TypeId):(aCd P t).f .un= .un:=by
  unfold aCd;split<;>rfl
 conv_un (s t:TypeId) (h:HP):(Z5 P s t).f .un h= .un:=by
  unfold Z5
  split
  ·rfl
  ·rfl
  ·rw[zN];split<;>rfl
  ·rfl
end
end Kv
end
end
end Go.Proofs.YtcdiljebkpikbaaGreat
