/- Parts of the proof: Kwc Kwd Kwe Kwf Kwg Kwh Kwi Kwj Kwk. -/
import Derived.Defers
import Derived.Test.YtcdiljebkpikbaaGreatS06
set_option linter.all false
set_option maxRecDepth 100000
set_option maxHeartbeats 64000000
namespace Go.Proofs.YtcdiljebkpikbaaGreat
section
noncomputable section
namespace Kv
open Go.RowKit
variable {P:Program}
section
variable {w w':World}
theorem wrap64 (n:Nat) (hn:n≤100000):IntKind.i64.wrap (n:Int)=n:=by
 unfold IntKind.wrap
 have h1:(n:Int)%(2^64:Int)=n:=by omega
 show(if(true&&decide (((n:Int)%(2^64:Int))≥(2^63:Int)))=true then _ else(n:Int)%(2^64:Int))=_
 rw[h1,if_neg (by simp;omega)]
theorem aoB {t t' e:TypeId} {ts:List TypeId} {k k':IntKind} {i:TypeInfo} {d:TypeDesc} {ty:Ty} (hsl:P.underlying t=some (.slice e)) (hd':P.underlying t'=some (.int k)) (F:TyF P e i d ty)
  {base:Option Addr} {l c n:Nat} (hn:n≤100000) (hroom:l+n≤c) {z:Value} (hz:i.zero=some z) (hzs:z.cells.size=ty.cells)
  (hst:(match base with |some a=>storeCells (a.add (l*ty.cells)) (zc z.cells (n*ty.cells)).toList|none=>pure ():Sem Unit).run P w= .ok () w') (ty0:TypeId):
  (Builtin.append_ ⟨t::t'::ts⟩ ty0 ⟨[.slice base l c,.int k' (n:Nat)]⟩).run P w= .ok (.slice base (l+n) c) w':=by
 have hby:=F.bytes
 have hm: ¬((n:Int)*(i.bytes:Nat)>2^48):=by
  have h1:n*i.bytes≤100000*1048576:=Nat.mul_le_mul hn hby
  have h2:((n:Int)*(i.bytes:Nat))=((n*i.bytes:Nat):Int):=by simp
  rw[h2];omega
 unfold Builtin.append_
 show((underlying t)>>=_).run P w=_
 rw[rb (zb hsl w)]
 show((sizeOf e)>>=_).run P w=_
 rw[rb (yk F.hi w),F.size]
 show((underlying t')>>=_).run P w=_
 rw[rb (zb hd' w)]
 rw[rb (a:=true) (w':=w) rfl]
 simp only[Bool.not_true,if_true,Bool.false_eq_true,if_false]
 show((asInt (.int k' (n:Nat)))>>=_).run P w=_
 rw[rb (a:=(n:Int)) (w':=w) rfl,wrap64 n hn]
 rw[if_neg (by omega)]
 show((typeInfo e)>>=_).run P w=_
 rw[rb (zV F.hi w)]
 rw[if_neg hm]
 simp only[Int.toNat_natCast]
 rw[rb (rp _ _)]
 simp only[if_pos hroom]
 have hap:(if n*ty.cells=0 then pure #[]else(do pure (Builtin.zeroCells (←zeroValue e).cells n)):Sem (Array Value)).run P w= .ok (zc z.cells (n*ty.cells)) w:=by
  split
  ·next q=>rw[rp,q];simp[zc]
  ·rw[rb (yc F.hi hz w),rp,xh,hzs]
 show((if n*ty.cells=0 then pure #[]else(do pure (Builtin.zeroCells (←zeroValue e).cells n)):Sem (Array Value))>>=_).run P w=_
 rw[rb hap]
 cases base with
 |none=>injection hst with _ h;subst h;rfl
 |some ad=>
  show((storeCells (ad.add (l*ty.cells)) _)>>=_).run P w=_
  rw[rb hst];rfl
theorem aiA {t t' e:TypeId} {ts:List TypeId} {k k':IntKind} {i:TypeInfo} {d:TypeDesc} {ty:Ty} (hsl:P.underlying t=some (.slice e)) (hd':P.underlying t'=some (.int k)) (F:TyF P e i d ty)
  {base:Option Addr} {l c n:Nat} {old:Array Value} (hn:n≤100000) (hroom:c<l+n) (hb:l+n≤100000000) {z:Value} (hz:i.zero=some z) (hzs:z.cells.size=ty.cells)
  (hfo:(Builtin.firstCells ty.cells l (.slice base l c)).run P { w with drawn:=w.drawn+1 } = .ok old { w with drawn:=w.drawn+1 }) (ty0:TypeId):
  ∃ca,l+n≤ca∧(Builtin.append_ ⟨t::t'::ts⟩ ty0 ⟨[.slice base l c,.int k' (n:Nat)]⟩).run P w= .ok (.slice (some ⟨w.heap.size,0,none⟩) (l+n) ca) (xg { w with drawn:=w.drawn+1 } (.cells (old++zc z.cells (n*ty.cells)++zc z.cells ((ca- (l+n))*z.cells.size)) e (0,0))):=by
 have hc: ∃ca,l+n≤ca∧(choose (.appendCap (l+n) c e)).run P w= .ok ca { w with drawn:=w.drawn+1 } :=⟨_,Nat.le_add_right _ _,rfl⟩
 obtain⟨ca,h1,h2⟩:=hc
 refine⟨ca,h1,?_⟩
 have hnx:=ahi hroom
 have hby:=F.bytes
 have hnb: ¬(Builtin.nextslicecap (l+n) c*i.bytes>2^48):=by
  have:Builtin.nextslicecap (l+n) c*i.bytes≤(2*(l+n)+192)*1048576:=Nat.mul_le_mul hnx hby
  omega
 have hm: ¬((n:Int)*(i.bytes:Nat)>2^48):=by
  have h1:n*i.bytes≤100000*1048576:=Nat.mul_le_mul hn hby
  have h2:((n:Int)*(i.bytes:Nat))=((n*i.bytes:Nat):Int):=by simp
  rw[h2];omega
 unfold Builtin.append_
 show((underlying t)>>=_).run P w=_
 rw[rb (zb hsl w)]
 show((sizeOf e)>>=_).run P w=_
 rw[rb (yk F.hi w),F.size]
 show((underlying t')>>=_).run P w=_
 rw[rb (zb hd' w)]
 rw[rb (a:=true) (w':=w) rfl]
 simp only[Bool.not_true,if_true,Bool.false_eq_true,if_false]
 show((asInt (.int k' (n:Nat)))>>=_).run P w=_
 rw[rb (a:=(n:Int)) (w':=w) rfl,wrap64 n hn]
 rw[if_neg (by omega)]
 show((typeInfo e)>>=_).run P w=_
 rw[rb (zV F.hi w)]
 rw[if_neg hm]
 simp only[Int.toNat_natCast]
 rw[rb (rp _ _)]
 simp only[if_neg (Nat.not_le.2 hroom)]
 show((typeInfo e)>>=_).run P w=_
 rw[rb (zV F.hi w)]
 rw[if_neg (by
  have:IntKind.i64.max=9223372036854775807:=by decide
  rw[this];omega)]
 show((typeInfo e)>>=_).run P w=_
 rw[rb (zV F.hi w)]
 rw[if_neg hnb,rb h2]
 show((typeInfo e)>>=_).run P _=_
 rw[rb (zV F.hi _)]
 have hroom2:(askRoom (ca*i.bytes)).run P { w with drawn:=w.drawn+1 } = .ok () { w with drawn:=w.drawn+1 } :=by
  unfold askRoom;split<;>rfl
 rw[rb hroom2]
 show((Builtin.firstCells ty.cells l (.slice base l c))>>=_).run P _=_
 rw[rb hfo]
 have hap: ∀w:World,(if n*ty.cells=0 then pure #[]else(do pure (Builtin.zeroCells (←zeroValue e).cells n)):Sem (Array Value)).run P w= .ok (zc z.cells (n*ty.cells)) w:=fun w=>by
  split
  ·next q=>rw[rp,q];simp[zc]
  ·rw[rb (yc F.hi hz w),rp,xh,hzs]
 show((if n*ty.cells=0 then pure #[]else(do pure (Builtin.zeroCells (←zeroValue e).cells n)):Sem (Array Value))>>=_).run P _=_
 rw[rb (hap _),rb (yc F.hi hz _),xh,rb (vV _ _ _)]
 rfl
end
end Kv
end
end
section
noncomputable section
namespace Kv
open Go.RowKit
variable {P:Program}
section
variable {ρ:Ren} {w w':World}
theorem aas {t:TypeId} {i:TypeInfo} {d:TypeDesc} {ty:Ty} (F:TyF P t i d ty) {z:Value} (hz:i.zero=some z) {l n ca:Nat} {so sn:Src} {vo vn:List Value} (ho:Xw ρ l ty.cells so vo) (hn:Xw ρ n ty.cells sn vn) (hc:l+n≤ca)
  (hd:yZ (yZ (QK ty (l+n)) 0 l ty.cells (Kl ty so)) (l*ty.cells) n ty.cells sn≠ .dead) (tid:TypeId):
  BR ρ (ca*ty.cells) (yZ (yZ (QK ty (l+n)) 0 l ty.cells (Kl ty so)) (l*ty.cells) n ty.cells sn) (.cells (vo.toArray++vn.toArray++zc z.cells ((ca- (l+n))*z.cells.size)) tid (0,0)):=by
 obtain⟨z',e,hs,_⟩:=yJ F
 rw[hz]at e;injection e with e;subst e
 have h1:=aBW F ρ hc hz tid
 have hd1:yZ (QK ty (l+n)) 0 l ty.cells (Kl ty so)≠ .dead:=fun q=>by rw[q]at hd;exact hd rfl
 obtain⟨m1,m2⟩:=kL h1 (aBy F ho) hd1
 obtain⟨m3,m4⟩:=kL m2 hn hd
 have g:=Kb z.cells (by have:=F.pos;omega) (l:=l) (n:=n) (c:=ca) (old:=vo) (new:=vn) (by rw[ho.length,hs]) (by rw[hn.length,hs]) hc
 rw[hs]at g
 rw[hs,←g]
 exact m4
theorem abJ {v:AV} {h:HP} {k:K} {res:AV×HP} (e:aMC v h k=some res):k v h=some res∧(v= .nils∨(∃i o l c,v= .sl i o l c)∨ ∃i o l u,v= .sf i o l u):=by
 cases v<;>first
  | (cases e;done)
  |exact⟨e,.inl rfl⟩
  |exact⟨e,.inr (.inl ⟨_,_,_,_,rfl⟩)⟩
  |exact⟨e,.inr (.inr ⟨_,_,_,_,rfl⟩)⟩
theorem ag3 {v:AV} {v':Value} (hv:VR ρ v v') (hk:v= .nils∨(∃i o l c,v= .sl i o l c)∨ ∃i o l u,v= .sf i o l u): ∃b l c,v'= .slice b l c∧l≤c:=by
 rcases hk with rfl| ⟨i,o,l,c,rfl⟩ | ⟨i,o,l,u,rfl⟩
 ·exact⟨_,_,_,hv,Nat.le_refl _⟩
 ·obtain⟨b,κ,h1,h2,h3⟩:=hv;exact⟨_,_,_,h2,h3⟩
 ·obtain⟨b,κ,c,h1,h2,h3,h4,h5⟩:=hv;exact⟨_,_,_,h2,h4⟩
theorem Ext.rename {h:HP} {w w':World} (hr:HR ρ h w) {i g κ:Nat} (hi:ρ i=some (g,κ)) (hl:h.get i≠ .dead) {o:Obj} (e:w'.heap=w.heap.setIfInBounds g o) (e1:w'.os=w.os) (e2:w'.output=w.output) (e3:w'.tape=w.tape) {b:Blk} (hb:BR ρ κ b o):
  Ext ρ h w (ρ.put h.n g κ) ((h.set i .dead).push b) w':=by
 have hin:=(hr.at_ i g κ hi).1
 have hg:=hr.lt hi
 have hnn:=hr.none (Nat.le_refl h.n)
 have hle:=Ren.put_le (b:=g) (κ:=κ) hnn
 have hwf:=HP.set_wf i .dead hr.wf
 have hget: ∀j,((h.set i .dead).push b).get j=if j=h.n then b else if j=i then .dead else h.get j:=fun j=>by
  rw[HP.get_push b hwf,HP.set_n,HP.get_set .dead hr.wf hin]
 have hold: ∀k,k≠g→w'.heap[k]? =w.heap[k]? :=fun k hk=>by rw[e,Array.getElem?_setIfInBounds_ne (Ne.symm hk)]
 have hput: ∀j p,ρ.put h.n g κ j=some p→(j=h.n∧p=(g,κ))∨(j≠h.n∧ρ j=some p):=fun j p hj=>by
  unfold Ren.put at hj
  by_cases q:j=h.n
  ·rw[if_pos q]at hj;injection hj with hj;exact .inl ⟨q,hj.symm⟩
  ·rw[if_neg q]at hj;exact .inr ⟨q,hj⟩
 have hlive: ∀j,j≠h.n→((h.set i .dead).push b).get j≠ .dead→j≠i∧h.get j≠ .dead:=fun j q hd=>by
  rw[hget,if_neg q]at hd
  by_cases ej:j=i
  ·rw[if_pos ej]at hd;exact absurd rfl hd
  ·rw[if_neg ej]at hd;exact⟨ej,hd⟩
 refine⟨hle,⟨HP.push_wf b hwf,fun j k κ' hj=>?_,fun j1 j2 k κ1 κ2 h1 h2 d1 d2=>?_,fun j=>?_⟩,fun j p h1 h2=>?_,by rw[HP.push_n,HP.set_n];omega,by rw[e,Array.size_setIfInBounds];omega,fun k hk hd=>hold k fun ek=>hl (hd i κ (by rw[ek];exact hi)),fun j k κ' hj hne hk=>?_,e1,e2,e3⟩
 ·rw [HP.push_n,HP.set_n,hget]
  rcases hput j _ hj with⟨q,p⟩ | ⟨q,p⟩
  ·injection p with p1 p2
   subst p1;subst p2
   rw[if_pos q]
   exact⟨by omega,o,by rw[e,Array.getElem?_setIfInBounds_self_of_lt hg],hb.mono hle⟩
  ·obtain⟨h1,o',h2,h3⟩:=hr.at_ j k κ' p
   rw[if_neg q]
   refine⟨by omega,?_⟩
   by_cases ek:k=g
   ·refine⟨o,by rw[e,ek,Array.getElem?_setIfInBounds_self_of_lt hg],?_⟩
    by_cases ej:j=i
    ·rw[if_pos ej];trivial
    ·rw[if_neg ej]
     by_cases hd:h.get j= .dead
     ·rw[hd];trivial
     ·exact absurd (hr.inj j i k κ' κ p (by rw[ek];exact hi) hd hl) ej
   ·refine⟨o',by rw[hold k ek];exact h2,?_⟩
    by_cases ej:j=i
    ·rw[if_pos ej];trivial
    ·rw[if_neg ej];exact h3.mono hle
 ·rcases hput j1 _ h1 with⟨q1,p1⟩ | ⟨q1,p1⟩
  ·rcases hput j2 _ h2 with⟨q2,p2⟩ | ⟨q2,p2⟩
   ·omega
   ·injection p1 with p1 _
    obtain⟨m1,m2⟩:=hlive j2 q2 d2
    exact absurd (hr.inj j2 i k κ2 κ p2 (by rw[p1];exact hi) m2 hl) m1
  ·obtain⟨m1,m2⟩:=hlive j1 q1 d1
   rcases hput j2 _ h2 with⟨q2,p2⟩ | ⟨q2,p2⟩
   ·injection p2 with p2 _
    exact absurd (hr.inj j1 i k κ1 κ p1 (by rw[p2];exact hi) m2 hl) m1
   ·exact hr.inj j1 j2 k κ1 κ2 p1 p2 m2 (hlive j2 q2 d2).2
 ·rw[HP.push_n,HP.set_n,hget]
  by_cases q:j=h.n
  ·rw[if_pos q]
   refine .inr ⟨_,κ,o,fun j' p hj=>?_,hb.mono hle⟩
   rcases hput j' p hj with⟨q',_⟩ | ⟨_,p'⟩
   ·omega
   ·have:=hr.dom j' p p';omega
  ·rw[if_neg q]
   by_cases ej:j=i
   ·rw[if_pos ej];exact .inl rfl
   ·rw[if_neg ej];exact(hr.low j).mono (Nat.le_succ _)
 ·rcases hput j _ h1 with⟨q,_⟩ | ⟨q,p'⟩
  ·omega
  ·rw[p']at h2;cases h2
 ·rcases hput j _ hj with⟨q,p⟩ | ⟨q,p⟩
  ·injection p with p1 p2
   subst p1
   exact⟨i,κ,hi,hl⟩
  ·exact⟨j,κ',p,(hlive j q hne).2⟩
end
end Kv
end
end
section
noncomputable section
namespace Kv
open Go.RowKit
variable {P:Program}
section
variable {ρ:Ren} {w w':World} {h:HP}
structure AX (P:Program) (ρ:Ren) (w:World) (t t':TypeId) (ts:List TypeId) (e:TypeId) (z:Array Value) (ty:Ty) (n:Nat) (sn:Src) (x:Value):Prop where
 inn: ∃vn,Xw ρ n ty.cells sn vn∧ ∀(base:Option Addr) (l c:Nat) (w':World) (ty0:TypeId),l+n≤c→(match base with |some a=>storeCells (a.add (l*ty.cells)) vn|none=>pure ():Sem Unit).run P w= .ok () w'→
  (Builtin.append_ ⟨t::t'::ts⟩ ty0 ⟨[.slice base l c,x]⟩).run P w= .ok (.slice base (l+n) c) w'
 new: ∃vn,Xw ρ n ty.cells sn vn∧ ∀(base:Option Addr) (l c:Nat) (old:Array Value) (ty0:TypeId),c<l+n→l+n≤100000000→(Builtin.firstCells ty.cells l (.slice base l c)).run P { w with drawn:=w.drawn+1 } = .ok old { w with drawn:=w.drawn+1 } →
  ∃ca,l+n≤ca∧(Builtin.append_ ⟨t::t'::ts⟩ ty0 ⟨[.slice base l c,x]⟩).run P w= .ok (.slice (some ⟨w.heap.size,0,none⟩) (l+n) ca) (xg { w with drawn:=w.drawn+1 } (.cells (old++vn.toArray++zc z ((ca- (l+n))*z.size)) e (0,0)))
theorem aAD {t t' e:TypeId} {ts:List TypeId} {k k':IntKind} {i:TypeInfo} {d:TypeDesc} {ty:Ty} (hsl:P.underlying t=some (.slice e)) (hd':P.underlying t'=some (.int k)) (F:TyF P e i d ty) {n:Nat} (hn:n≤100000) {z:Value} (hz:i.zero=some z):
  AX P ρ w t t' ts e z.cells ty n (aNe ty n) (.int k' (n:Nat)):=by
 obtain⟨z',e',hs,_⟩:=yJ F
 rw[hz]at e';injection e' with e';subst e'
 have hS:=KH F ρ n hz
 refine⟨⟨_,hS,fun base l c w' ty0 hr hst=>aoB hsl hd' F hn hr hz hs hst ty0⟩,⟨_,hS,fun base l c old ty0 hr hb hfo=>?_⟩⟩
 obtain⟨ca,h1,h2⟩:=aiA (ts:=ts) (k':=k') hsl hd' F hn hr hb hz hs hfo ty0
 exact⟨ca,h1,by simpa using h2⟩
theorem aLZ {t t' e:TypeId} {ts:List TypeId} {d':TypeDesc} {i:TypeInfo} {d:TypeDesc} {ty:Ty} (hr:HR ρ h w) (hsl:P.underlying t=some (.slice e)) (hd':P.underlying t'=some d') (hd0: ∀k,d'≠ .int k) (F:TyF P e i d ty) {n:Nat} {z:Value} (hz:i.zero=some z)
  {v:AV} {v':Value} (hv:VR ρ v v') (hl:ag9 v=some n) (hstr: ∀l x,v= .str l x→ty.cells=1) (hu:zQ h v n ty.cells (yh ty)≠ .bad):
  AX P ρ w t t' ts e z.cells ty n (zQ h v n ty.cells (yh ty)) v':=by
 have h8:yh ty=true→ty.cells=1:=fun h=>by rw[qF h];rfl
 obtain⟨v1,a1,a2⟩:=YE hr h8 F.pos hv hl (Nat.le_refl n) hstr hu
 obtain⟨v2,b1,b2⟩:=YE (hr.drew (w':= { w with drawn:=w.drawn+1 }) rfl) h8 F.pos hv hl (Nat.le_refl n) hstr hu
 refine⟨⟨v1,a2,fun base l c w' ty0 hroom hst=>aj3 hsl hd' F hd0 (YS hv hl w) a1 hroom hst ty0⟩,⟨v2,b2,fun base l c old ty0 hroom hb hfo=>aco hsl hd' F hd0 (YS hv hl w) hroom hb hfo b1 hz ty0⟩⟩
end
end Kv
end
end
section
noncomputable section
namespace Kv
open Go.RowKit
variable {P:Program}
section
variable {ρ:Ren} {w w':World} {h:HP}
theorem jD {ty:Ty} {so sn:Src} {l n:Nat} {h:HP} {k:K} {res:AV×HP} (e:fresh ty so l n sn h k=some res):
  l+n≤100000000∧yZ (yZ (QK ty (l+n)) 0 l ty.cells (Kl ty so)) (l*ty.cells) n ty.cells sn≠ .dead∧k (.sf h.n 0 (l+n) ty.cells) (h.push (yZ (yZ (QK ty (l+n)) 0 l ty.cells (Kl ty so)) (l*ty.cells) n ty.cells sn))=some res:=by
 unfold fresh at e
 rw[zf]at e
 by_cases hb:Nat.add l n≤100000000
 ·rw[if_pos hb]at e
  obtain⟨h1,h2⟩:=ve e
  exact⟨hb,h1,h2⟩
 ·rw[if_neg hb]at e;cases e
theorem Yb {t t' e:TypeId} {ts:List TypeId} {i:TypeInfo} {d:TypeDesc} {ty:Ty} (F:TyF P e i d ty) {z:Value} (hz:i.zero=some z) (hr:HR ρ h w) {n l c:Nat} {so sn:Src} {x:Value} {base:Option Addr} {vo:List Value}
  (A:AX P ρ w t t' ts e z.cells ty n sn x) (hc:c<l+n) (hb:l+n≤100000000) (ho:Xw ρ l ty.cells so vo) (hfo:(Builtin.firstCells ty.cells l (.slice base l c)).run P { w with drawn:=w.drawn+1 } = .ok vo.toArray { w with drawn:=w.drawn+1 })
  (hd:yZ (yZ (QK ty (l+n)) 0 l ty.cells (Kl ty so)) (l*ty.cells) n ty.cells sn≠ .dead) (ty0:TypeId):
  ∃ρ' v' w',(Builtin.append_ ⟨t::t'::ts⟩ ty0 ⟨[.slice base l c,x]⟩).run P w= .ok v' w'∧Ext ρ h w ρ' (h.push (yZ (yZ (QK ty (l+n)) 0 l ty.cells (Kl ty so)) (l*ty.cells) n ty.cells sn)) w'∧VR ρ' (.sf h.n 0 (l+n) ty.cells) v':=by
 obtain⟨vn,s1,s2⟩:=A.new
 obtain⟨ca,h1,h2⟩:=s2 base l c vo.toArray ty0 hc hb hfo
 have hB:=aas F hz ho s1 h1 hd e
 refine⟨ρ.put h.n w.heap.size (ca*ty.cells),_,_,h2,Ext.push (w':=xg { w with drawn:=w.drawn+1 } (.cells (vo.toArray++vn.toArray++zc z.cells ((ca- (l+n))*z.cells.size)) e (0,0))) hr rfl rfl rfl rfl hB,⟨w.heap.size,ca*ty.cells,ca,Ren.put_self _ _ _ _,rfl,(Nat.zero_add _).symm,h1,F.pos⟩⟩
end
end Kv
end
end
section
noncomputable section
namespace Kv
open Go.RowKit
variable {P:Program}
section
variable {ρ:Ren} {w w':World} {h:HP}
theorem anW {t t' e:TypeId} {ts:List TypeId} {ty:Ty} {z:Array Value} (hr:HR ρ h w) {n l c i g κ o:Nat} {sn:Src} {x:Value}
  (A:AX P ρ w t t' ts e z ty n sn x) (hc:l+n≤c) (hi:ρ i=some (g,κ)) (hd:yZ (h.get i) (o+l*ty.cells) n ty.cells sn≠ .dead) (ty0:TypeId):
  ∃w',(Builtin.append_ ⟨t::t'::ts⟩ ty0 ⟨[.slice (some ⟨g,o,none⟩) l c,x]⟩).run P w= .ok (.slice (some ⟨g,o,none⟩) (l+n) c) w'∧Ext ρ h w ρ (h.set i (yZ (h.get i) (o+l*ty.cells) n ty.cells sn)) w':=by
 obtain⟨vn,s1,s2⟩:=A.inn
 obtain⟨ob,ho,hB⟩:=hr.obj hi
 have hlive:h.get i≠ .dead:=fun q=>by rw[q]at hd;exact hd rfl
 obtain⟨cs,tid,fr,rfl,k1,k2⟩:=hB.cells_of hlive (fun l y p q=>by rw[q]at hd;exact hd rfl)
 obtain⟨m1,m2⟩:=kL hB s1 hd
 refine⟨setB w g (.cells (jX cs (o+l*ty.cells) vn) tid fr),s2 _ l c _ ty0 hc ?_,Ext.setB hr hi hlive m2⟩
 show(storeCells ((⟨g,o,none⟩:Addr).add (l*ty.cells)) vn).run P w=_
 rw[vC]
 exact yH k1 k2 _ w cs (o+l*ty.cells) 0 ho k1 (by omega) s1.one
theorem Jk {b:Blk} {o n c:Nat} {s:Src} (hd:yZ b o n c s≠ .dead):aA2 (yZ b o n c s)=aA2 b:=by
 cases b with
 |dead=>exact absurd rfl hd
 |si l x p=>exact absurd rfl hd
 | «by» l x=>
  cases s with
  |b m y=>
   have e:yZ (.by l x) o n c (.b m y)=if o+n≤l then .by l (spb l x o n y)else .dead:=zf _ _ _ _
   rw[e]at hd⊢
   split
   ·rfl
   ·next h=>rw[if_neg h]at hd;exact absurd rfl hd
  |_=>exact absurd rfl hd
 | row u m t=>
  have key: ∀b',(b'= .dead∨ ∃t',b'= .row u m t')→b'≠ .dead→aA2 b'=u*m:=fun b' h hd=>by
   rcases h with h| ⟨t',rfl⟩
   ·exact absurd h hd
   ·rfl
  refine key _ ?_ hd
  have hcells: ∀l,yZ.cells o n u m t l= .dead∨ ∃t',yZ.cells o n u m t l= .row u m t':=fun l=>by
   unfold yZ.cells
   rw[zf]
   split
   ·exact .inl rfl
   ·split
    ·rw[zf];split
     ·exact .inr ⟨_,rfl⟩
     ·exact .inl rfl
    ·exact .inl rfl
  cases s with
  |bad=>exact .inl rfl
  | b k y=>
   unfold yZ
   simp only[zf]
   split
   ·exact .inl rfl
   ·split
    ·split
     ·exact .inr ⟨_,rfl⟩
     ·exact .inl rfl
    ·exact .inl rfl
  |t s i=>
   unfold yZ
   simp only[zf,zg,zN]
   repeat' split
   all_goals first |exact .inl rfl|exact .inr ⟨_,rfl⟩ |exact hcells _
  |c l=>
   unfold yZ
   simp only[zf,zg]
   repeat' split
   all_goals first |exact .inl rfl|exact .inr ⟨_,rfl⟩ |exact hcells _
end
end Kv
end
end
section
noncomputable section
namespace Kv
open Go.RowKit
variable {P:Program}
section
variable {ρ:Ren} {w w':World} {h:HP}
def AO (P:Program) (t t':TypeId) (ts:List TypeId) (e:TypeId) (z:Array Value) (ty:Ty) (s:AV) (n:Nat) (sn:Src) (h:HP) (v:AV) (h':HP):Prop:= ∀ρ w s' x' ty0,HR ρ h w→VR ρ s s'→AX P ρ w t t' ts e z ty n sn x'→
 ∃ρ' v' w',(Builtin.append_ ⟨t::t'::ts⟩ ty0 ⟨[s',x']⟩).run P w= .ok v' w'∧Ext ρ h w ρ' h' w'∧VR ρ' v v'
theorem ahz (l x o n c:Nat) (s:Src):yZ (.by l x) o n c s= .dead∨ ∃y,yZ (.by l x) o n c s= .by l y:=by
 cases s<;>first |exact .inl rfl|skip
 case b m y=>
  have e:yZ (.by l x) o n c (.b m y)= @Bool.rec (fun _=>Blk) .dead (.by l (spb l x o n y)) (Nat.ble (Nat.add o n) l):=rfl
  rw[e,zN]
  split
  ·exact .inr ⟨_,rfl⟩
  ·exact .inl rfl
theorem aoz {t t' e:TypeId} {ts:List TypeId} {i:TypeInfo} {d:TypeDesc} {ty:Ty} (F:TyF P e i d ty) {z:Value} (hz:i.zero=some z) {s:AV} {n:Nat} {sn:Src} {k:K} {res:AV×HP} (hf:acn ty s n sn h k=some res):
  ∃v h',k v h'=some res∧AO P t t' ts e z.cells ty s n sn h v h':=by
 unfold acn at hf
 rw[zg]at hf
 by_cases hn:n=0
 ·rw[if_pos hn]at hf
  subst hn
  obtain⟨h1,h2⟩:=abJ hf
  refine⟨_,_,h1,fun ρ w s' x' ty0 hr hs A=>?_⟩
  obtain⟨b,l,c,rfl,hlc⟩:=ag3 hs h2
  obtain⟨vn,s1,s2⟩:=A.inn
  have hv:vn=[]:=List.length_eq_zero_iff.1 (by rw[s1.length,Nat.mul_zero])
  subst hv
  refine⟨ρ,_,w,s2 b l c w ty0 hlc ?_,Ext.refl hr,hs⟩
  cases b<;>rfl
 ·rw [if_neg hn]at hf
  have h8:yh ty=true→ty.cells=1:=fun h=>by rw[qF h];rfl
  cases s<;>first | (cases hf;done) |skip
  case nils=>
   obtain⟨h0,h1,h2⟩:=jD hf
   refine⟨_,_,h2,fun ρ w s' x' ty0 hr hs A=>?_⟩
   have hs:s'= .slice none 0 0:=hs
   subst hs
   exact Yb F hz hr A (l:=0) (c:=0) (vo:=[]) (so:= .c []) (by omega) h0 ⟨rfl,rfl,rfl,.inr rfl⟩ rfl h1 ty0
  case sl i o l c=>
   have e0:ZA ty (.sl i o l c) n sn h k=if l+n≤c then gb (yZ (h.get i) (o+l*ty.cells) n ty.cells sn) h i (.sl i o (l+n) c) k else fresh ty (zQ h (.sl i o l c) l ty.cells (yh ty)) l n sn h k:=zf _ _ _ _
   rw[e0]at hf
   by_cases hc:l+n≤c
   ·rw[if_pos hc]at hf
    obtain⟨h1,h2⟩:=Yc hf
    refine⟨_,_,h2,fun ρ w s' x' ty0 hr hs A=>?_⟩
    obtain⟨g,κ,hi,rfl,hlc⟩:=hs
    obtain⟨w',r1,r2⟩:=anW hr A hc hi h1 ty0
    exact⟨ρ,_,w',r1,r2,g,κ,hi,rfl,hc⟩
   ·rw[if_neg hc]at hf
    obtain⟨h0,h1,h2⟩:=jD hf
    refine⟨_,_,h2,fun ρ w s' x' ty0 hr hs A=>?_⟩
    have hs0:=hs
    obtain⟨g,κ,hi,rfl,hlc⟩:=hs
    obtain⟨vo,a1,a2⟩:=YE (hr.drew (w':= { w with drawn:=w.drawn+1 }) rfl) h8 F.pos hs0 (l:=l) rfl (Nat.le_refl l) (fun l x e=>by cases e) (u8:=yh ty) (fun q=>by rw[q]at h1;apply h1;rw[show Kl ty .bad= .bad from rfl,Zo];rfl)
    exact Yb F hz hr A (by omega) h0 a2 a1 h1 ty0
  case sf i o l u=>
   have e0:ZA ty (.sf i o l u) n sn h k=if u=ty.cells then(if l+n≤JU (h.get i) o u then gb (yZ (h.get i) (o+l*u) n u sn) h i (.sf i o (l+n) u) k else if o=0 then fresh ty (zQ h (.sf i o l u) l u (yh ty)) l n sn (h.set i .dead) k else none)else none:=by
    show @Bool.rec (fun _=>R) _ _ _=_
    rw[zg,zf,zg];rfl
   rw[e0]at hf
   by_cases hu:u=ty.cells
   ·rw [if_pos hu]at hf
    subst hu
    by_cases hroom:l+n≤JU (h.get i) o ty.cells
    ·rw[if_pos hroom]at hf
     obtain⟨h1,h2⟩:=Yc hf
     refine⟨_,_,h2,fun ρ w s' x' ty0 hr hs A=>?_⟩
     obtain⟨g,κ,c,hi,rfl,hκ,hlc,hp⟩:=hs
     have hc:l+n≤c:=by
      obtain⟨vn,s1,_⟩:=A.inn
      obtain⟨ob,ho,hB⟩:=hr.obj hi
      have hlive:h.get i≠ .dead:=fun q=>by rw[q]at h1;exact h1 rfl
      obtain⟨cs,tid,fr,rfl,k1,k2⟩:=hB.cells_of hlive (fun l y p q=>by rw[q]at h1;exact h1 rfl)
      obtain⟨m1,m2⟩:=kL hB s1 h1
      rw[s1.length,hκ,Nat.mul_comm _ n]at m1
      have:(l+n)*ty.cells≤c*ty.cells:=by rw[Nat.add_mul];omega
      exact Nat.le_of_mul_le_mul_right this hp
     obtain⟨w',r1,r2⟩:=anW hr A hc hi h1 ty0
     exact⟨ρ,_,w',r1,r2,g,κ,c,hi,rfl,hκ,hc,hp⟩
    ·rw [if_neg hroom]at hf
     by_cases ho0:o=0
     ·rw [if_pos ho0]at hf
      subst ho0
      obtain⟨h0,h1,h2⟩:=jD hf
      rw[HP.set_n]at h2
      refine⟨_,_,h2,fun ρ w s' x' ty0 hr hs A=>?_⟩
      have hs0:=hs
      obtain⟨g,κ,c,hi,rfl,hκ,hlc,hp⟩:=hs
      have hd1:yZ (QK ty (l+n)) 0 l ty.cells (Kl ty (zQ h (.sf i 0 l ty.cells) l ty.cells (yh ty)))≠ .dead:=fun q=>by rw[q]at h1;exact h1 rfl
      have hbad:zQ h (.sf i 0 l ty.cells) l ty.cells (yh ty)≠ .bad:=fun q=>by rw[q]at hd1;exact hd1 (Zo _ _ _ _)
      have hlive:h.get i≠ .dead:=fun q=>hbad (by show zQ.go h l ty.cells (yh ty) i 0=_;unfold zQ.go;rw[q])
      by_cases hc:l+n≤c
      ·obtain⟨vn,s1,s2⟩:=A.inn
       obtain⟨ob,ho,hB⟩:=hr.obj hi
       obtain⟨cs,tid,fr,rfl,k1,k2⟩:=hB.cells_of hlive (fun l' y p q=>hbad (by show zQ.go h l ty.cells (yh ty) i 0=_;unfold zQ.go;rw[q]))
       have hκ':κ=c*ty.cells:=by omega
       have hmul:(l+n)*ty.cells≤c*ty.cells:=Nat.mul_le_mul_right _ hc
       rw[Nat.add_mul]at hmul
       obtain⟨vo,a1,a2⟩:=YE hr h8 F.pos hs0 (l:=l) rfl (Nat.le_refl l) (fun l x e=>by cases e) hbad
       have a3:=Zf (P:=P) (n:=l) (c:=ty.cells) (l:=l) (k:=c) ho (show 0+l*ty.cells≤cs.size by omega)
       rw[a1]at a3
       injection a3 with a3 _
       have a4:vo=cs.toList.take (l*ty.cells):=by
        have:=congrArg Array.toList a3
        simpa using this
       have hvn:=s1.length
       rw[Nat.mul_comm]at hvn
       have hB2:=aas F hz a2 s1 hc h1 tid
       have hext:aA2 (yZ (yZ (QK ty (l+n)) 0 l ty.cells (Kl ty (zQ h (.sf i 0 l ty.cells) l ty.cells (yh ty)))) (l*ty.cells) n ty.cells sn)=l*ty.cells+n*ty.cells:=by
        rw[Jk h1,Jk hd1,Qw F,←Nat.add_mul]
        split
        ·next q=>rw[h8 q,Nat.mul_one];rfl
        ·exact Nat.mul_comm _ _
       have hlen:vo.length=l*ty.cells:=by rw[a4,List.length_take,Array.length_toList];omega
       have hzz:(∃u' n' t',yZ (yZ (QK ty (l+n)) 0 l ty.cells (Kl ty (zQ h (.sf i 0 l ty.cells) l ty.cells (yh ty)))) (l*ty.cells) n ty.cells sn= .row u' n' t')→NZ fr κ:=fun hrow=>by
        obtain⟨u',n',t',er⟩:=hrow
        cases q:yh ty with
        | true=>
         rw[Qw F,if_pos q]at er
         rcases ahz (l+n) 0 0 l ty.cells (Kl ty (zQ h (.sf i 0 l ty.cells) l ty.cells (yh ty)))with e1| ⟨x1,e1⟩
         ·rw[e1]at er;cases er
         ·rw[e1]at er
          rcases ahz (l+n) x1 (l*ty.cells) n ty.cells sn with e2| ⟨x2,e2⟩<;>(rw[e2]at er;cases er)
        | false=>
         rw[q]at hbad
         have hgo:zQ.go h l ty.cells false i 0≠ .bad:=hbad
         cases hgi:h.get i with
         |dead=>exact absurd hgi hlive
         |si _ _ _=>exact absurd (by unfold zQ.go;rw[hgi]) hgo
         | «by» _ _=>exact absurd (by unfold zQ.go;rw[hgi]) hgo
         |row _ _ _=>
          rw[hgi]at hB
          obtain⟨_,_,_,e',_,h2,_⟩:=hB
          injection e' with _ _ e3
          rw[e3];exact h2
       have hpre:=BR.pre (c':=jX cs (0+l*ty.cells) vn) (tid':=tid) (fr':=fr) (κ':=κ) hB2 (by rw[YC (by omega),k1]) k2 hzz (by rw[hext];omega) (by
        rw[hext,jx,Array.toList_append,Array.toList_append,Nat.zero_add]
        unfold qx
        rw[←a4,←List.append_assoc,List.take_left' (by rw[List.length_append,hlen,hvn]),List.take_left' (by rw[List.length_append,hlen,hvn])])
       refine⟨ρ.put h.n g κ,_,setB w g (.cells (jX cs (0+l*ty.cells) vn) tid fr),s2 _ l c _ ty0 hc ?_,Ext.rename (w':=setB w g (.cells (jX cs (0+l*ty.cells) vn) tid fr)) hr hi hlive rfl rfl rfl rfl hpre,⟨g,κ,c,Ren.put_self _ _ _ _,rfl,hκ,hc,hp⟩⟩
       show(storeCells ((⟨g,0,none⟩:Addr).add (l*ty.cells)) vn).run P w=_
       rw[vC]
       exact yH k1 k2 _ w cs (0+l*ty.cells) 0 ho k1 (by omega) s1.one
      ·obtain⟨vo,a1,a2⟩:=YE (hr.drew (w':= { w with drawn:=w.drawn+1 }) rfl) h8 F.pos hs0 (l:=l) rfl (Nat.le_refl l) (fun l x e=>by cases e) hbad
       obtain⟨ρ',v',w',r1,r2,r3⟩:=Yb F hz (Ext.kill hr hi).hr A (by omega) h0 a2 a1 h1 ty0
       rw[HP.set_n]at r3
       exact⟨ρ',v',w',r1,(Ext.kill hr hi).trans r2,r3⟩
     ·rw[if_neg ho0]at hf;cases hf
   ·rw[if_neg hu]at hf;cases hf
end
end Kv
end
end
section
noncomputable section
namespace Kv
open Go.RowKit
variable {P:Program}
def JY (P:Program) (f:FuncId) (args:Array Value) (w:World) (K:Value→World→Prop):Prop:=
 match(callFunc f args).run P w with
 | .ok (.value v) w'=>K v w'
 | .ok (.enter g as) w'=>Calls P g as w' fun e w''=>match e with | .returned v=>K v w''|_=>False
 |_=>False
def qy (P:Program) (f:FuncId) (args:List AV) (h:HP) (v:AV) (h':HP):Prop:= ∀ρ args' w (K:Value→World→Prop),VRs ρ args args'→HR ρ h w→
 (∀ρ' v' w',Ext ρ h w ρ' h' w'→VR ρ' v v'→K v' w')→JY P f args'.toArray w K
def vx (P:Program) (call:Go.Proofs.YtcdiljebkpikbaaGreat.Kv.Call):Prop:= ∀f args h k res,call f args h k=some res→ ∃v h',k v h'=some res∧qy P f args h v h'
structure aNI (P:Program) (f:FuncId):Prop where
 body: ∃fn c,P.funcs[f]? =some fn∧fn.body=some c∧fn.name≠ "runtime.NumGoroutine"
 run: ∀p w,CallsD P f #[.pointer (some p)] .returning w fun e u' w'=>e= .returned (.tuple #[])∧u'= .returning∧w'=w
structure acj (P:Program) (S:Sm):Prop where
 s: ∀f g,S.S f=some g→ ∀args h v h',g args h=some (v,h')→qy P f args h v h'
 i: ∀f,S.I f=true→aNI P f
def x9 (P:Program) (ds:List Deferred):Prop:= ∀d∈ds,∃f p,aNI P f∧d= { target:= .fn (.func f) #[.pointer (some p)],args:= #[] }
section
variable {ρ:Ren} {w:World} {h:HP} {r:RG} {a:Act} {S:Sm}
theorem Xh {v:AV} {φ:Fn→List AV→List AV→R} {res:AV×HP} (e:ajf v φ=some res): ∃f a b,v= .fn f a b∧φ f a b=some res:=by cases v<;>first |exact⟨_,_,_,rfl,e⟩ | (cases e;done)
theorem ER.of_call {c:Go.Call} {dst:Option Tmp} {ty:TypeId} {pos:String} {after:Array Edge} {gd:Option (Nat×Bool)} {f:FuncId} {args:List AV} {v:AV} {h':HP} (hc:qy P f args h v h')
  (e: ∀ρ (a:Act),RR ρ r a→ ∃args',VRs ρ args args'∧ ∀w,(execOp a.eval ⟨dst,.call c,ty,pos,after,gd⟩).run P w=(callFunc f args'.toArray).run P w):ER P (x9 P) ⟨dst,.call c,ty,pos,after,gd⟩ r h v h':=fun ρ a w next Q rr hr hI hn=>by
 obtain⟨args',h1,h2⟩:=e ρ a rr
 have:=hc ρ args' w (fun v' w'=>next (a.put dst v') w') h1 hr (fun ρ' v' w' k1 k2=>hn ρ' v' w' a.defers k1 k2 hI)
 unfold Oper.wp
 rw[h2 w]
 unfold JY at this
 generalize (callFunc f args'.toArray).run P w=x at this⊢
 cases x with
 |halt x w'=>exact this.elim
 | ok n w'=>
  cases n<;>first |exact this.elim|skip
  case value v'=>exact this
  case enter g as=>
   refine Calls.mono this fun e w'' he=>?_
   cases e<;>first |exact he|exact he.elim
theorem aMT {f:FuncId} {c d:Array Value} (l:Array Value) (w:World):(Deferred.ofValue (.func (.func f) c d) l).run P w= .ok { target:= .fn (.func f) d,args:=c++l } w:=rfl
theorem aga (ev:Operand→Value) (x:Operand) (l:List Operand) (ts:Array TypeId) (dst:Option Tmp) (ty:TypeId) (pos:String) (after:Array Edge) (gd:Option (Nat×Bool)) {f:FuncId} {c d:Array Value} (hx:ev x= .func (.func f) c d) (w:World):
  (execOp ev ⟨dst,.call ⟨.value x,⟨l⟩,ts⟩,ty,pos,after,gd⟩).run P w=(callFunc f ((c++(l.map ev).toArray)++d)).run P w:=by
 have e:(⟨l⟩:Array Operand).map ev=(l.map ev).toArray:=by simp
 unfold execOp
 show((resolve ev ⟨.value x,⟨l⟩,ts⟩ ty)>>=fun d=>invoke d.target d.args).run P w=_
 have h1:(resolve ev ⟨.value x,⟨l⟩,ts⟩ ty).run P w= .ok { target:= .fn (.func f) d,args:=c++(l.map ev).toArray } w:=by
  unfold resolve
  simp only[hx,e]
  rfl
 rw[rb h1];rfl
end
end Kv
end
end
section
noncomputable section
namespace Kv
open Go.RowKit
variable {P:Program}
section
variable {ρ:Ren} {w:World} {h:HP} {r:RG} {a:Act} {S:Sm} {I:List Deferred→Prop}
theorem aoA {ty:Ty} {n:Nat} {sn:Src} {k:K} :acn ty .un n sn h k=none:=by
 unfold acn
 rw[zg]
 split<;>rfl
theorem aiy {ty:Ty} {s:AV} {n:Nat} {k:K} {res:AV×HP} (hn:n≠0) (hf:acn ty s n .bad h k=some res):False:=by
 unfold acn at hf
 rw[zg,if_neg hn]at hf
 have hb: ∀b o c,yZ b o n c .bad= .dead:=fun b o c=>Zo b o n c
 have hg: ∀so l h,fresh ty so l n .bad h k≠some res:=fun so l h e=>by
  obtain⟨_,h1,_⟩:=jD e
  exact h1 (hb _ _ _)
 cases s<;>first | (cases hf;done) |skip
 case nils=>exact hg _ _ _ hf
 case sl i o l c=>
  unfold ZA at hf
  simp only[zf,hb]at hf
  split at hf
  ·cases hf
  ·exact hg _ _ _ hf
 case sf i o l u=>
  unfold ZA at hf
  simp only[zf,zg,hb]at hf
  split at hf
  ·split at hf
   ·cases hf
   ·split at hf
    ·exact hg _ _ _ hf
    ·cases hf
  ·cases hf
theorem aiz {t:TypeId} {ts:List TypeId} (ev:Operand→Value) (s x:Operand) (dst:Option Tmp) (ty:TypeId) (pos:String) (after:Array Edge) (gd:Option (Nat×Bool)) {w':World} {v':Value} (hr:(Builtin.append_ ⟨t::ts⟩ ty ⟨[ev s,ev x]⟩).run P w= .ok v' w'):
  (execOp ev ⟨dst,.call ⟨.builtin .append,⟨[s,x]⟩,⟨t::ts⟩⟩,ty,pos,after,gd⟩).run P w= .ok (.value v') w':=by
 rw[k9]
 show((do pure (Next.value (←Builtin.append_ ⟨t::ts⟩ ty ⟨[ev s,ev x]⟩)):Sem Next)).run P w=_
 rw[rb hr];rfl
theorem acp {t t':TypeId} (s x:Operand) (ts:List TypeId) (dst:Option Tmp) (ty:TypeId) (pos:String) (after:Array Edge) (gd:Option (Nat×Bool)) {k:K} {res:AV×HP}
  (hf:(J3 P t t').f ((zx s).f r) ((zx x).f r) h k=some res):
  ∃v h',k v h'=some res∧ER P I ⟨dst,.call ⟨.builtin .append,⟨[s,x]⟩,⟨t::t'::ts⟩⟩,ty,pos,after,gd⟩ r h v h':=by
 unfold J3 at hf
 rw[zg]at hf
 by_cases hc:(uOf P t).cells=0
 ·rw[if_pos hc]at hf;cases hf
 ·rw [if_neg hc]at hf
  cases he:xH P t with
  |none=>unfold uOf at hc;rw[he]at hc;exact absurd rfl hc
  | some e=>
   have hu:uOf P t=zw P e:=by unfold uOf;rw[he]
   rw[hu]at hf hc
   have hn:zw P e≠ .no:=fun e=>by rw[e]at hc;exact hc rfl
   obtain⟨it,d,F⟩:=zW hn
   obtain⟨z,hz,_⟩:=F.zero
   have hsl:=xI he
   cases hd':P.underlying t' with
   |none=>rw[hd']at hf;cases hf
   | some d'=>
    rw[hd']at hf
    have fin: ∀n sn,acn (zw P e) ((zx s).f r) n sn h k=some res→(∀ρ (a:Act) w,RR ρ r a→HR ρ h w→AX P ρ w t t' ts e z.cells (zw P e) n sn (a.eval x))→ ∃v h',k v h'=some res∧ER P I ⟨dst,.call ⟨.builtin .append,⟨[s,x]⟩,⟨t::t'::ts⟩⟩,ty,pos,after,gd⟩ r h v h':=fun n sn hf hx=>by
     have hs:(zx s).f r≠ .un:=fun e=>by rw[e,aoA]at hf;cases hf
     obtain⟨v,h',h1,h2⟩:=aoz (t:=t) (t':=t') (ts:=ts) F hz hf
     refine⟨v,h',h1,ER.of_value fun ρ a w rr hr=>?_⟩
     obtain⟨ρ',v',w',k1,k2,k3⟩:=h2 ρ w (a.eval s) (a.eval x) ty hr (zr rr s hs) (hx ρ a w rr hr)
     exact⟨ρ',v',w',aiz a.eval s x dst ty pos after gd k1,k2,k3⟩
    by_cases hi: ∃k,d'= .int k
    ·obtain⟨ik,rfl⟩:=hi
     simp only at hf
     obtain⟨c,y,hx,hf,hsg⟩:=vj hf
     rw[zf]at hf
     by_cases hy:y≤100000
     ·rw[if_pos hy]at hf
      refine fin y _ hf fun ρ a w rr hr=>?_
      have hv:=zr rr x (by rw[hx];intro e;cases e)
      rw[hx]at hv
      obtain⟨ev,h1,h2⟩:=zA.1 hv
      rw[ev,zR h1 hsg]
      exact aAD hsl hd' F hy hz
     ·rw[if_neg hy]at hf;cases hf
    ·have hd0: ∀k,d'≠ .int k:=fun k e=>hi ⟨k,e⟩
     have hf: @Bool.rec (fun _=>R) none (Zc ((zx x).f r) (fun n=>acn (zw P e) ((zx s).f r) n (zQ h ((zx x).f r) n (zw P e).cells (yh (zw P e))) h k)) (ahp ((zx x).f r) (zw P e).cells)=some res:=by
      cases d'<;>first |exact hf|exact absurd rfl (hd0 _)
     rw[zN]at hf
     by_cases hok:ahp ((zx x).f r) (zw P e).cells=true
     ·rw[if_pos hok]at hf
      obtain⟨n,hl,hf⟩:=qH hf
      have hstr: ∀l y,(zx x).f r= .str l y→(zw P e).cells=1:=fun l y ey=>by rw[ey]at hok;exact(zu _ _).1 hok
      have hux:(zx x).f r≠ .un:=fun e=>by rw[e]at hl;cases hl
      by_cases hn0:n=0
      ·subst hn0
       have hf':acn (zw P e) ((zx s).f r) 0 (.c []) h k=some res:=hf
       refine fin 0 (.c []) hf' fun ρ a w rr hr=>?_
       have hv:=zr rr x hux
       have hS:Xw ρ 0 (zw P e).cells (.c []) []:=⟨rfl,rfl,rfl,.inr rfl⟩
       exact⟨⟨[],hS,fun base l c w' ty0 hroom hst=>aj3 hsl hd' F hd0 (YS hv hl w) (agM hv hl) hroom hst ty0⟩,⟨[],hS,fun base l c old ty0 hroom hb hfo=>aco hsl hd' F hd0 (YS hv hl w) hroom hb hfo (agM hv hl) hz ty0⟩⟩
      ·exact fin n _ hf fun ρ a w rr hr=>aLZ hr hsl hd' hd0 F hz (zr rr x hux) hl hstr (fun e=>by rw[e]at hf;exact aiy hn0 hf)
     ·rw[if_neg hok]at hf;cases hf
theorem aBA {l m:List Operand} (h: @Bool.rec (fun _=>Bool) false (xQ m) (xQ l)=true):xQ l=true∧xQ m=true:=by
 rw[zN]at h
 split at h
 ·next q=>exact⟨q,h⟩
 ·cases h
theorem ER.of_defer {c:Go.Call} {dst:Option Tmp} {ty:TypeId} {pos:String} {after:Array Edge} {gd:Option (Nat×Bool)} (e: ∀ρ (a:Act) w,RR ρ r a→HR ρ h w→ ∃d,(execOp a.eval ⟨dst,.defer c,ty,pos,after,gd⟩).run P w= .ok (.defer d) w∧(x9 P a.defers→x9 P (d::a.defers))):
  ER P (x9 P) ⟨dst,.defer c,ty,pos,after,gd⟩ r h (.tup []) h:=fun ρ a w next Q rr hr hI hn=>by
 obtain⟨d,h1,h2⟩:=e ρ a w rr hr
 unfold Oper.wp
 rw[h1]
 exact hn ρ undef w (d::a.defers) (Ext.refl hr) ⟨#[],rfl,rfl⟩ (h2 hI)
theorem aSv {call:Go.Proofs.YtcdiljebkpikbaaGreat.Kv.Call} (hS:acj P S) (hc:vx P call) (o:Oper) {k:K} {res:AV×HP} (hf:(qq P S o.op).f call r h k=some res):
  ∃v h',k v h'=some res∧ER P (x9 P) o r h v h':=by
 obtain⟨dst,op,ty,pos,after,gd⟩:=o
 simp only at hf
 cases op<;>first | (cases hf;done) |skip
 case store t x y=>
  simp only[qq,zg]at hf
  by_cases h0:(zw P t).cells=0
  ·rw[if_pos h0]at hf;cases hf
  ·rw[if_neg h0]at hf
   simp only[zl,zg]at hf
   exact ajF t x y dst ty pos after gd hf h0
 case next it b=>
  cases b
  ·cases hf
  ·simp only[qq,zl,zg]at hf
   exact ai8 (i:=0) .dead it dst ty pos after gd hf
 case defer c=>
  obtain⟨callee,⟨args⟩,ats⟩:=c
  cases callee<;>first | (cases hf;done) |skip
  case value f=>
   cases args<;>first | (cases hf;done) |skip
   case nil=>
    simp only[qq,zl]at hf
    obtain⟨fn,a0,b0,hx,hf⟩:=Xh hf
    cases fn<;>first | (cases hf;done) |skip
    case func g=>
     cases a0<;>first | (cases hf;done) |skip
     case nil=>
      obtain⟨i,o,rfl⟩: ∃i o,b0=[.ptr i o]:=by
       rcases b0 with _| ⟨b1,_| ⟨b2,b3⟩⟩
       ·cases hf
       ·cases b1<;>first |exact⟨_,_,rfl⟩ | (cases hf;done)
       ·cases b1<;>(cases hf)
      simp only[zN]at hf
      by_cases hi:S.I g=true
      ·rw[if_pos hi]at hf
       refine⟨_,_,hf,ER.of_defer fun ρ a w rr hr=>?_⟩
       have hv:=zr rr f (by rw[hx];intro e;cases e)
       rw[hx]at hv
       obtain⟨c',d',ev,h1,h2⟩:=hv
       obtain⟨v1,l1,e1,⟨b,κ,hi2,rfl⟩,e2⟩:=h2
       have e2:l1=[]:=e2
       subst e2
       have ec:c'= #[]:=Array.toList_eq_nil_iff.1 h1
       have ed:d'= #[.pointer (some ⟨b,o,none⟩)]:=by
        rw[←Array.toArray_toList (xs:=d'),e1]
       subst ec;subst ed
       refine⟨{ target:= .fn (.func g) #[.pointer (some ⟨b,o,none⟩)],args:= #[] },?_,fun hI d hd=>?_⟩
       ·unfold execOp
        show((resolve a.eval ⟨.value f,⟨[]⟩,ats⟩ ty)>>=fun d=>pure (Next.defer d)).run P w=_
        have h1:(resolve a.eval ⟨.value f,⟨[]⟩,ats⟩ ty).run P w= .ok { target:= .fn (.func g) #[.pointer (some ⟨b,o,none⟩)],args:= #[] } w:=by
         have e0:(⟨[]⟩:Array Operand).map a.eval= #[]:=by simp
         unfold resolve
         simp only[ev,e0]
         rfl
        rw[rb h1];rfl
       ·rcases List.mem_cons.1 hd with rfl|hd
        ·exact⟨g,_,hS.i g hi,rfl⟩
        ·exact hI d hd
      ·rw[if_neg hi]at hf;cases hf
 case call c=>
  obtain⟨callee,⟨args⟩,⟨ats⟩⟩:=c
  cases callee<;>first | (cases hf;done) |skip
  case value f=>
   have hok:xQ args=true:=by
    cases q:xQ args with
    |true=>rfl
    |false=>
     simp only[qq,zN,q]at hf
     cases hf
   have known: ∀(g:FuncId) (first captured:List AV) v h',(∀ρ (a:Act),RR ρ r a→ ∃c d:Array Value,a.eval f= .func (.func g) c d∧VRs ρ first c.toList∧VRs ρ captured d.toList)→qy P g (first ++(xk args).f r++captured) h v h'→
     ER P (x9 P) ⟨dst,.call ⟨.value f,⟨args⟩,⟨ats⟩⟩,ty,pos,after,gd⟩ r h v h':=fun g first captured v h' hv hR=>by
    refine ER.of_call hR fun ρ a rr=>?_
    obtain⟨c,d,ev,h1,h2⟩:=hv ρ a rr
    refine⟨c.toList++args.map a.eval++d.toList,(h1.append (Xz rr args hok)).append h2,fun w=>?_⟩
    rw[aga a.eval f args ⟨ats⟩ dst ty pos after gd ev w]
    congr 2
    apply Array.ext'
    simp
   have plain: ∀x:Operand,(∀g,x≠ .func g)→f=x→ajf ((zx x).f r) (fun f a b=>match f with | .func f=>call f (cat (cat a ((xk args).f r)) b) h k|_=>none)=some res→ ∃v h',k v h'=some res∧ER P (x9 P) ⟨dst,.call ⟨.value f,⟨args⟩,⟨ats⟩⟩,ty,pos,after,gd⟩ r h v h':=fun x _ ex hf=>by
    subst ex
    obtain⟨fn,a0,b0,hx,hf⟩:=Xh hf
    cases fn<;>first | (cases hf;done) |skip
    case func g=>
     simp only[aae]at hf
     obtain⟨v,h',k1,k2⟩:=hc _ _ _ _ _ hf
     refine⟨v,h',k1,known g a0 b0 v h' (fun ρ a rr=>?_) k2⟩
     have hv:=zr rr f (by rw[hx];intro e;cases e)
     rw[hx]at hv
     exact hv
   cases f
   case func g=>
    have hv: ∀ρ (a:Act),RR ρ r a→ ∃c d:Array Value,a.eval (.func g)= .func (.func g) c d∧VRs ρ [] c.toList∧VRs ρ [] d.toList:=fun ρ a rr=>⟨#[],#[],rfl,rfl,rfl⟩
    have hcall:call g ((xk args).f r) h k=some res→ ∃v h',k v h'=some res∧ER P (x9 P) ⟨dst,.call ⟨.value (.func g),⟨args⟩,⟨ats⟩⟩,ty,pos,after,gd⟩ r h v h':=fun hf=>by
     obtain⟨v,h',k1,k2⟩:=hc _ _ _ _ _ hf
     exact⟨v,h',k1,known g [] [] v h' hv (by simpa using k2)⟩
    cases hs:S.S g with
    |none=>
     simp only[qq,zl,zN,hok,hs]at hf
     exact hcall hf
    | some gg=>
     simp only[qq,zl,zN,hok,hs]at hf
     have hf:(match gg ((xk args).f r) h with |some (v,h)=>k v h|none=>call g ((xk args).f r) h k)=some res:=hf
     cases hg:gg ((xk args).f r) h with
     |none=>rw[hg]at hf;exact hcall hf
     |some vh=>
      rw[hg]at hf
      exact⟨vh.1,vh.2,hf,known g [] [] vh.1 vh.2 hv (by simpa using hS.s g gg hs _ _ _ _ hg)⟩
   all_goals
    simp only[qq,zl,zN,hok]at hf
    exact plain _ (fun g e=>by cases e) rfl hf
  case builtin b=>
   cases b<;>first | (cases hf;done) |skip
   case append=>
    rcases args with _| ⟨s,_| ⟨x,_| ⟨z,l⟩⟩⟩<;>first | (cases hf;done) |skip
    rcases ats with _| ⟨t,_| ⟨t',ts⟩⟩<;>first | (cases hf;done) |skip
    simp only[qq,zl]at hf
    exact acp s x ts dst ty pos after gd hf
   case copy=>
    rcases args with _| ⟨s,_| ⟨x,_| ⟨z,l⟩⟩⟩<;>first | (cases hf;done) |skip
    rcases ats with _| ⟨t,ts⟩<;>first | (cases hf;done) |skip
    simp only[qq,zl]at hf
    cases he:xH P t with
    |none=>unfold uOf at hf;rw[he]at hf;cases hf
    |some e=>
     unfold uOf at hf;rw[he]at hf
     exact aAQ he s x ts dst ty pos after gd hf
   case clear=>
    rcases args with _| ⟨s,_| ⟨z,l⟩⟩<;>first | (cases hf;done) |skip
    rcases ats with _| ⟨t,ts⟩<;>first | (cases hf;done) |skip
    simp only[qq,zl]at hf
    cases he:xH P t with
    |none=>unfold uOf at hf;rw[he]at hf;cases hf
    |some e=>
     unfold uOf at hf;rw[he]at hf
     exact aiF he s ts dst ty pos after gd hf
end
end Kv
end
end
section
noncomputable section
namespace Kv
open Go.RowKit
variable {P:Program}
section
variable {ρ:Ren} {w:World} {h:HP} {r:RG} {a:Act} {S:Sm} {I:List Deferred→Prop}
theorem aMp {v:AV} (φ:AV→R) (hv:v≠ .un):frc v φ=φ v:=by
 cases v<;>first |rfl|exact absurd rfl hv|skip
 case int k x=>cases x<;>rfl
theorem Zm {v:AV} {φ:AV→R} {res:AV×HP} (e:frc v φ=some res):v≠ .un∧φ v=some res:=by
 have hv:v≠ .un:=fun h=>by subst h;cases e
 exact⟨hv,by rw[←aMp φ hv];exact e⟩
theorem aor (o:Op):way P o=if isE o=true then 2 else if isA P o=true then 1 else 0:=by
 unfold way;rw[zN,zN]
theorem aai (o:Oper):YK P S o=if isE o.op=true then qq P S o.op else if isA P o.op=true then⟨fun _ r h k=>(qD P o.op).f r h k⟩else⟨fun _ r h k=>frc ((zt P o.op).f r h) (fun v=>k v h)⟩:=by
 unfold YK
 rw[aor]
 by_cases h1:isE o.op=true
 ·rw[if_pos h1,if_pos h1];rfl
 ·rw[if_neg h1,if_neg h1]
  by_cases h2:isA P o.op=true
  ·rw[if_pos h2,if_pos h2];simp only[zl]
  ·rw[if_neg h2,if_neg h2];simp only[zl]
theorem ER.of_q {o:Oper} (hu:(zt P o.op).f r h≠ .un):ER P I o r h ((zt P o.op).f r h) h:=ER.of_value fun ρ a w rr hr=>by
 obtain⟨v,h1,h2⟩:=aR7 rr hr o hu
 exact⟨ρ,v,w,h1,Ext.refl hr,h2⟩
theorem ER.of_a {o:Oper} {b:Blk} {v:AV} (A:AR P o r h.n b v):ER P I o r h v (h.push b):=ER.of_value fun ρ a w rr hr=>by
 obtain⟨ob,κ,v',w',h1,h2,h3,h4,h5,h6,h7⟩:=A ρ a w rr
 have hx:=Ext.push hr h2 h3 h4 h5 h6
 exact⟨_,v',w',h1,hx,h7 _ hx.le (Ren.put_self _ _ _ _)⟩
theorem o_ok {call:Go.Proofs.YtcdiljebkpikbaaGreat.Kv.Call} (hS:acj P S) (hc:vx P call) (o:Oper) {k:K} {res:AV×HP} (hf:(YK P S o).f call r h k=some res):
  ∃v h',k v h'=some res∧ER P (x9 P) o r h v h':=by
 rw[aai]at hf
 by_cases h1:isE o.op=true
 ·rw[if_pos h1]at hf
  exact aSv hS hc o hf
 ·rw[if_neg h1]at hf
  by_cases h2:isA P o.op=true
  ·rw[if_pos h2]at hf
   obtain⟨b,v,_,k1,k2⟩:=aSl o hf
   exact⟨_,_,k1,.of_a k2⟩
  ·rw[if_neg h2]at hf
   have hf:frc ((zt P o.op).f r h) (fun v=>k v h)=some res:=hf
   obtain⟨hu,k1⟩:=Zm hf
   exact⟨_,_,k1,.of_q hu⟩
def Ze (o:Option Tmp) (r:RG) (v:AV):RG:=match o with |none=>r|some k=>ajz r k v
theorem Qp (o:Option Tmp) (r:RG) (v:AV):(aCt o).f r v=Ze o r v:=by cases o<;>rfl
theorem RR.put {dst:Option Tmp} {v:AV} {v':Value} (rr:RR ρ r a) (hv:VR ρ v v') (hd: ∀d,dst=some d→d<a.tmps.size∧d<512):RR ρ (Ze dst r v) (a.put dst v'):=by
 cases dst with
 |none=>exact rr
 | some d=>
  obtain⟨h1,h2⟩:=hd d rfl
  intro k hk
  show VR ρ (xj (ajz r d v) k) ((a.tmps.setIfInBounds d v').getD k undef)
  rw[vK hk h2]
  by_cases e:k=d
  ·subst e
   rw[if_pos rfl]
   simp[Array.getD_eq_getD_getElem?,h1,hv]
  ·rw[if_neg e]
   have:=rr k hk
   simp only[Array.getD_eq_getD_getElem?,Array.getElem?_setIfInBounds_ne (Ne.symm e)]at this⊢
   exact this
theorem jK (a:Act) (dst:Option Tmp) (v:Value):(a.put dst v).tmps.size=a.tmps.size:=by cases dst<;>simp[Act.put]
theorem yF (a:Act) (dst:Option Tmp) (v:Value):(a.put dst v).defers=a.defers:=by cases dst<;>rfl
theorem aov {v:AV} {v':Value} (hv:VR ρ v v'):(∀b,v= .bl b→v'= .bool b)∧((∀b,v≠ .bl b)→ ∀b,v'≠ .bool b):=by
 refine⟨fun b e=>by subst e;exact hv,fun hn b e=>?_⟩
 subst e
 cases v
 case bl c=>exact hn _ rfl
 all_goals first
  |exact hv.elim
  | (have hv:_=_:=hv;cases hv;done)
  | (obtain⟨_,e,_⟩:=hv;cases e;done)
  | (obtain⟨_,_,e,_⟩:=hv;cases e;done)
  | (obtain⟨_,_,_,e,_⟩:=hv;cases e;done)
  | (obtain⟨_,_,_,_,e,_⟩:=hv;cases e;done)
  | (obtain⟨_,_,e⟩:=hv;cases e;done)
  | (obtain⟨_,_,_,e⟩:=hv;cases e;done)
  | (have hv:=hv.1;cases hv;done)
theorem ajc (v:AV) (φ:Bool→Bool):aMM v φ=match v with | .bl b=>φ b|_=>false:=by cases v<;>rfl
theorem ahm: ∀(l:List Oper) (k:Nat),aMK l k=l[k]?
 | [],k=>rfl
 |o::l,0=>rfl
 |o::l,k+1=>ahm l k
def yl (ops:List Oper) (g:Option (Nat×Bool)) (r:RG):Bool:=(YQ ops g).f r
theorem Zw {ops:List Oper} (rr:RR ρ r a) (hd: ∀o∈ops,∀d,o.dst=some d→d<a.tmps.size∧d<512) (o:Oper):(YQ ops o.guard).f r=Region.wanted o (yielded ops.toArray a.tmps):=by
 unfold Region.wanted
 cases hg:o.guard with
 |none=>rfl
 | some jb=>
  obtain⟨j,b⟩:=jb
  simp only
  unfold YQ yielded
  simp only[ahm,List.getElem?_toArray]
  cases hj:ops[j]? with
  |none=>simp
  | some p=>
   simp only[Option.bind_some]
   cases hpd:p.dst with
   |none=>simp
   | some t=>
    simp only[Option.bind_some,zl]
    obtain⟨h1,h2⟩:=hd p (List.mem_of_getElem? hj) t hpd
    have hv:=rr t h2
    have e:a.tmps[t]? =some (a.tmps.getD t undef):=by simp[Array.getD_eq_getD_getElem?,h1]
    rw[e]
    generalize a.tmps.getD t undef=v' at *
    change VR ρ ((agS t).f r) v' at hv
    generalize (agS t).f r=v at *
    rw[ajc]
    obtain⟨k1,k2⟩:=aov hv
    cases v
    case bl c=>
     rw[k1 c rfl]
     simp only[zN]
     cases c<;>cases b<;>rfl
    all_goals
     have k3:=k2 (fun b e=>by cases e)
     cases v'<;>first |exact absurd rfl (k3 _) | (cases b<;>rfl)
structure St (P:Program) (ρ:Ren) (N:Nat) (r:RG) (h:HP) (a:Act) (w:World):Prop where
 rr:RR ρ r a
 sz:a.tmps.size=N
 hr:HR ρ h w
 df:x9 P a.defers
def LR (P:Program) (N:Nat) (wp:(Exit→Act→World→Prop)→Act→World→Prop) (r:RG) (h:HP) (ex:Exit) (r':RG) (h':HP):Prop:= ∀ρ a w Q,St P ρ N r h a w→
 (∀ρ' a' w',Ext ρ h w ρ' h' w'→St P ρ' N r' h' a' w'→Q ex a' w')→wp Q a w
theorem St.op {N:Nat} (s:St P ρ N r h a w) {o:Oper} {v:AV} {h':HP} (e:ER P (x9 P) o r h v h') (hd: ∀d,o.dst=some d→d<N∧d<512) {next:Act→World→Prop} {Q:Exit→Act→World→Prop}
  (hn: ∀ρ' a' w',Ext ρ h w ρ' h' w'→St P ρ' N (Ze o.dst r v) h' a' w'→next a' w'):o.wp P a w next Q:=
 e ρ a w next Q s.rr s.hr s.df fun ρ' v' w' ds x hv hI=>hn ρ' _ w' x ⟨RR.put (a:=({ a with defers:=ds } :Act)) (fun k hk=>(s.rr k hk).mono x.le) hv (fun d e=>⟨by show d<a.tmps.size;rw[s.sz];exact(hd d e).1,(hd d e).2⟩),by rw[jK];exact s.sz,x.hr,by rw[yF];exact hI⟩
theorem St.skip {N:Nat} (s:St P ρ N r h a w) {o:Oper} (hd: ∀d,o.dst=some d→d<N∧d<512):St P ρ N (Ze o.dst r (.tup [])) h (a.put o.dst undef) w:=
 ⟨RR.put s.rr (v:= .tup []) (v':=undef) ⟨#[],rfl,rfl⟩ (fun d e=>⟨by rw[s.sz];exact(hd d e).1,(hd d e).2⟩),by rw[jK];exact s.sz,s.hr,by rw[yF];exact s.df⟩
theorem abo (ops l:List Oper) (o:Oper) (call:Go.Proofs.YtcdiljebkpikbaaGreat.Kv.Call) (r:RG) (h:HP) (k:RG→HP→R):(Jh P S ops (o::l)).f call r h k=if yl ops o.guard r=true then(YK P S o).f call r h (fun v h=>(Jh P S ops l).f call (Ze o.dst r v) h k)else(Jh P S ops l).f call (Ze o.dst r (.tup [])) h k:=by
 have e:Jh P S ops (o::l)= @Bx.rec _ (fun _=>Bx RC) (fun f=> @Bx.rec _ (fun _=>Bx RC) (fun g=> @Bx.rec _ (fun _=>Bx RC) (fun s=>(match o.guard with
  |none=>⟨fun call r h k=>f call r h (fun v h=>g call (s r v) h k)⟩
  |some _=> @Bx.rec _ (fun _=>Bx RC) (fun w=>⟨fun call r h k=> @Bool.rec (fun _=>_) (g call (s r (.tup [])) h k) (f call r h (fun v h=>g call (s r v) h k)) (w r)⟩) (YQ ops o.guard))) (aCt o.dst)) (Jh P S ops l)) (YK P S o):=rfl
 rw[e]
 simp only[zl]
 unfold yl
 cases hg:o.guard with
 |none=>
  rw[show(YQ ops none).f r=true from rfl,if_pos rfl]
  simp only[Qp]
 |some g=>simp only[zl,Qp,zN]
theorem aRY {call:Go.Proofs.YtcdiljebkpikbaaGreat.Kv.Call} (hS:acj P S) (hc:vx P call) {N:Nat} {ops:List Oper} (hd: ∀o∈ops,∀d,o.dst=some d→d<N∧d<512): ∀(l pre:List Oper) (r:RG) (h:HP) {k:RG→HP→R} {res:AV×HP},pre++l=ops→(Jh P S ops l).f call r h k=some res→
  ∃r' h',k r' h'=some res∧LR P N (fun Q=>wpOps P ops.toArray Q (List.range' pre.length l.length)) r h .normal r' h'
 | [],pre,r,h,k,res,_,hf=>⟨r,h,hf,fun ρ a w Q s hq=>hq ρ a w (Ext.refl s.hr) s⟩
 | o::l,pre,r,h,k,res,he,hf=>by
  have hpre:(pre++[o])++l=ops:=by rw[←he];simp
  have hmem:o∈ops:=by rw[←he];simp
  have hget:(ops.toArray)[pre.length]? =some o:=by rw[←he];simp
  rw[abo]at hf
  have hstep: ∀Q a w,wpOps P ops.toArray Q (List.range' pre.length (o::l).length) a w↔(if Region.wanted o (yielded ops.toArray a.tmps)then o.wp P a w (wpOps P ops.toArray Q (List.range' (pre.length+1) l.length)) Q∨(o.asks P a w∧LetsOut Q)else wpOps P ops.toArray Q (List.range' (pre.length+1) l.length) (a.put o.dst undef) w):=fun Q a w=>by
   rw[List.length_cons,List.range'_succ]
   show(match(ops.toArray)[pre.length]? with |none=>_|some o=>_)↔_
   rw[hget]
  have hlen:(pre++[o]).length=pre.length+1:=by simp
  by_cases hw:yl ops o.guard r=true
  ·rw[if_pos hw]at hf
   obtain⟨v,h1,k1,k2⟩:=o_ok hS hc o hf
   obtain⟨r',h',k3,k4⟩:=aRY hS hc hd l (pre++[o]) _ _ hpre k1
   rw[hlen]at k4
   refine⟨r',h',k3,fun ρ a w Q s hq=>(hstep Q a w).2 ?_⟩
   rw[if_pos (by rw[←Zw s.rr (fun o ho d e=>⟨by rw[s.sz];exact(hd o ho d e).1,(hd o ho d e).2⟩) o];exact hw)]
   exact .inl (s.op k2 (hd o hmem) fun ρ1 a1 w1 x1 s1=>k4 ρ1 a1 w1 Q s1 fun ρ2 a2 w2 x2 s2=>hq ρ2 a2 w2 (x1.trans x2) s2)
  ·rw[if_neg hw]at hf
   obtain⟨r',h',k3,k4⟩:=aRY hS hc hd l (pre++[o]) _ _ hpre hf
   rw[hlen]at k4
   refine⟨r',h',k3,fun ρ a w Q s hq=>(hstep Q a w).2 ?_⟩
   rw[if_neg (by rw[←Zw s.rr (fun o ho d e=>⟨by rw[s.sz];exact(hd o ho d e).1,(hd o ho d e).2⟩) o];exact hw)]
   exact k4 ρ _ w Q (s.skip (hd o hmem)) hq
end
end Kv
end
end
end Go.Proofs.YtcdiljebkpikbaaGreat
