/- Parts of the proof: Kzc Kzd Kze Kzg. -/
import Derived.Defers
import Derived.Recover
import Derived.Laws.Pointers
import Derived.Laws.Externs
import Derived.Test.YtcdiljebkpikbaaGreatS10
import Derived.Test.YtcdiljebkpikbaaGreatS11
set_option linter.all false
set_option maxRecDepth 100000
set_option maxHeartbeats 64000000
namespace Go.Proofs.YtcdiljebkpikbaaGreat
section
noncomputable section
namespace Kv
open Go.RowKit
variable {P:Program}
section
variable {ρ:Ren} {h:HP} {w w':World}
theorem Ext.move (hr:HR ρ h w) {i g κ:Nat} (hi:ρ i=some (g,κ)) (hl:h.get i≠ .dead) {g' κ':Nat} {o:Obj} {b:Blk} (hg:g'=g∨w.heap.size≤g') (hs:w.heap.size≤w'.heap.size) (hold: ∀k,k<w.heap.size→k≠g→w'.heap[k]? =w.heap[k]?) (ho:w'.heap[g']? =some o)
  (e1:w'.os=w.os) (e2:w'.output=w.output) (e3:w'.tape=w.tape) (hb:BR ρ κ' b o):Ext ρ h w (ρ.put h.n g' κ') ((h.set i .dead).push b) w':=by
 have hin:=(hr.at_ i g κ hi).1
 have hgl:=hr.lt hi
 have hnn:=hr.none (Nat.le_refl h.n)
 have hle:=Ren.put_le (b:=g') (κ:=κ') hnn
 have hwf:=HP.set_wf i .dead hr.wf
 have hget: ∀j,((h.set i .dead).push b).get j=if j=h.n then b else if j=i then .dead else h.get j:=fun j=>by
  rw[HP.get_push b hwf,HP.set_n,HP.get_set .dead hr.wf hin]
 have hput: ∀j p,ρ.put h.n g' κ' j=some p→(j=h.n∧p=(g',κ'))∨(j≠h.n∧ρ j=some p):=fun j p hj=>by
  unfold Ren.put at hj
  by_cases q:j=h.n
  ·rw[if_pos q]at hj;injection hj with hj;exact .inl ⟨q,hj.symm⟩
  ·rw[if_neg q]at hj;exact .inr ⟨q,hj⟩
 have hlive: ∀j,j≠h.n→((h.set i .dead).push b).get j≠ .dead→j≠i∧h.get j≠ .dead:=fun j q hd=>by
  rw[hget,if_neg q]at hd
  by_cases ej:j=i
  ·rw[if_pos ej]at hd;exact absurd rfl hd
  ·rw[if_neg ej]at hd;exact⟨ej,hd⟩
 have far: ∀j k κ2,j≠i→h.get j≠ .dead→ρ j=some (k,κ2)→k≠g':=fun j k κ2 hji hd hj e=>by
  rcases hg with rfl|hg
  ·exact hji (hr.inj j i k κ2 κ hj (by rw[e];exact hi) hd hl)
  ·have:=hr.lt hj;omega
 refine⟨hle,⟨HP.push_wf b hwf,fun j k κ2 hj=>?_,fun j1 j2 k κ1 κ2 h1 h2 d1 d2=>?_,fun j=>?_⟩,fun j p h1 h2=>?_,by rw[HP.push_n,HP.set_n];omega,hs,fun k hk hd=>hold k hk fun ek=>hl (hd i κ (by rw[ek];exact hi)),fun j k κ2 hj hne hk=>?_,e1,e2,e3⟩
 ·rw [HP.push_n,HP.set_n,hget]
  rcases hput j _ hj with⟨q,p⟩ | ⟨q,p⟩
  ·injection p with p1 p2
   subst p1;subst p2
   rw[if_pos q]
   exact⟨by omega,o,ho,hb.mono hle⟩
  ·obtain⟨h1,o',h2,h3⟩:=hr.at_ j k κ2 p
   rw[if_neg q]
   refine⟨by omega,?_⟩
   by_cases ej:j=i
   ·rw[if_pos ej]
    exact⟨_,Array.getElem?_eq_getElem (Nat.lt_of_lt_of_le (hr.lt p) hs),trivial⟩
   ·rw[if_neg ej]
    by_cases hd:h.get j= .dead
    ·rw[hd]
     exact⟨_,Array.getElem?_eq_getElem (Nat.lt_of_lt_of_le (hr.lt p) hs),trivial⟩
    ·refine⟨o',?_,h3.mono hle⟩
     rw[hold k (hr.lt p) (fun e=>ej (hr.inj j i k κ2 κ p (by rw[e];exact hi) hd hl))]
     exact h2
 ·rcases hput j1 _ h1 with⟨q1,p1⟩ | ⟨q1,p1⟩
  ·rcases hput j2 _ h2 with⟨q2,p2⟩ | ⟨q2,p2⟩
   ·omega
   ·injection p1 with p1 _
    obtain⟨m1,m2⟩:=hlive j2 q2 d2
    exact absurd p1 (far j2 k κ2 m1 m2 p2)
  ·obtain⟨m1,m2⟩:=hlive j1 q1 d1
   rcases hput j2 _ h2 with⟨q2,p2⟩ | ⟨q2,p2⟩
   ·injection p2 with p2 _
    exact absurd p2 (far j1 k κ1 m1 m2 p1)
   ·exact hr.inj j1 j2 k κ1 κ2 p1 p2 m2 (hlive j2 q2 d2).2
 ·rw[HP.push_n,HP.set_n,hget]
  by_cases q:j=h.n
  ·rw[if_pos q]
   refine .inr ⟨_,κ',o,fun j' p hj=>?_,hb.mono hle⟩
   rcases hput j' p hj with⟨q',_⟩ | ⟨_,p'⟩
   ·omega
   ·have:=hr.dom j' p p';omega
  ·rw[if_neg q]
   by_cases ej:j=i
   ·rw[if_pos ej];exact .inl rfl
   ·rw[if_neg ej];exact(hr.low j).mono (Nat.le_succ _)
 ·rcases hput j _ h1 with⟨q,_⟩ | ⟨q,p'⟩
  ·omega
  ·rw[p']at h2;cases h2
 ·rcases hput j _ hj with⟨q,p⟩ | ⟨q,p⟩
  ·injection p with p1 p2
   subst p1
   rcases hg with rfl|hg
   ·exact⟨i,κ,hi,hl⟩
   ·omega
  ·exact⟨j,κ2,p,(hlive j q hne).2⟩
theorem V6 (s:RT AV): ∀(n i k:Nat) (t:RT AV) (z:Nat),t.wf z→k+n≤z→ ∀m,m<z→(cpU s n i k t).get m=if k≤m∧m<k+n then s.get (i+(m-k))else t.get m
 |0,i,k,t,z,_,_,m,_=>by rw[if_neg (by omega)];rfl
 | n+1,i,k,t,z,hw,hk,m,hm=>by
  rw[X2,V6 s n (i+1) (k+1) _ z (RT.wf_set _ t z k hw) (by omega) m hm,RT.get_set _ t z k m hw (by omega) hm]
  by_cases h1:k+1≤m∧m<k+1+n
  ·rw[if_pos h1,if_pos (by omega),show i+1+(m- (k+1))=i+(m-k)by omega]
  ·rw[if_neg h1]
   by_cases h2:m=k
   ·rw[if_pos h2,if_pos (by omega),show i+(m-k)=i by omega]
   ·rw[if_neg h2,if_neg (by omega)]
theorem aaj (s:RT AV): ∀(n i k:Nat) (t:RT AV) (z:Nat),t.wf z→(cpU s n i k t).wf z
 |0,_,_,_,_,h=>h
 |n+1,i,k,t,z,h=>by rw[X2];exact aaj s n _ _ _ z (RT.wf_set _ t z k h)
def aMv (z:AV) (t s:RT AV) (l p:Nat):RT AV:=cpU t (l-p) p (p+1) ((cpU t p 0 0 (.mk z (dep (l+1)))).set p (s.get 0))
theorem ai0 (z:AV) (t s:RT AV) {l p m:Nat} (hp:p<l) (hm:m<l+1):(aMv z t s l p).get m=if m<p then t.get m else if m=p then s.get 0 else t.get (m-1):=by
 have hd:=aak (l+1)
 have w0:=RT.mk_wf z (dep (l+1))
 have w1:=aaj t p 0 0 _ _ w0
 have w2:=RT.wf_set (s.get 0) _ _ p w1
 unfold aMv
 rw[V6 t (l-p) p (p+1) _ _ w2 (by omega) m (by omega),RT.get_set _ _ _ p m w1 (by omega) (by omega),V6 t p 0 0 _ _ w0 (by omega) m (by omega)]
 by_cases h1:m<p
 ·rw[if_neg (by omega),if_neg (by omega),if_pos (by omega),if_pos h1,show 0+(m-0)=m by omega]
 ·by_cases h2:m=p
  ·rw[if_neg (by omega),if_pos h2,if_neg h1,if_pos h2]
  ·rw[if_pos (by omega),if_neg h1,if_neg h2,show p+(m- (p+1))=m-1 by omega]
theorem aBf (z:AV) (t s:RT AV) (l p:Nat):(aMv z t s l p).wf (2^dep (l+1)):=aaj _ _ _ _ _ _ (RT.wf_set _ _ _ _ (aaj _ _ _ _ _ _ (RT.mk_wf _ _)))
theorem aaL {v:Value} (h:air v=true):v.oneCell'=true:=by cases v<;>first |rfl| (cases h;done)
theorem aMw {n k l p κ κ2 κ':Nat} {t s:RT AV} {cur arr cur':Array Value} {T T2 T':TypeId} {z:AV} (hB:BR ρ κ (.row 3 n t) (.cells cur T (0,0))) (hB2:BR ρ κ2 (.row 3 k s) (.cells arr T2 (0,0))) (hln:l≤n) (hk:1≤k) (hp:p<l) (hsz:cur'.size=κ') (hlen:(l+1)*3≤κ')
  (hc:cur'.toList.take ((l+1)*3)=cur.toList.take (p*3)++arr.toList.take 3++(cur.toList.drop (p*3)).take ((l-p)*3)):BR ρ κ' (.row 3 (l+1) (aMv z t s l p)) (.cells cur' T' (0,0)):=by
 obtain⟨c1,ty1,fr1,e,h1,h2,h3,h4,h5,h6⟩:=hB
 injection e with e1 e2 e3
 subst e1
 obtain⟨c2,ty2,fr2,e',g1,g2,g3,g4,g5,g6⟩:=hB2
 injection e' with e1 e2 e3
 subst e1
 have hcl:cur.toList.length=κ:=by rw[Array.length_toList];exact h1
 have hal:arr.toList.length=κ2:=by rw[Array.length_toList];exact g1
 have hA:(cur.toList.take (p*3)).length=p*3:=by rw[List.length_take];omega
 have hX:(arr.toList.take 3).length=3:=by rw[List.length_take];omega
 refine⟨_,_,_,rfl,hsz,rfl,by omega,by omega,⟨_,aBf z t s l p,aak _⟩,fun m hm=>?_⟩
 have e0:(cur'.toList.drop (m*3)).take 3=((cur'.toList.take ((l+1)*3)).drop (m*3)).take 3:=by
  rw[List.drop_take,List.take_take,Nat.min_eq_left (by omega)]
 rw[e0,hc,ai0 z t s hp hm]
 by_cases q1:m<p
 ·rw[if_pos q1,List.append_assoc,List.drop_append_of_le_length (by omega),List.take_append_of_le_length (by rw[List.length_drop];omega),List.drop_take,List.take_take,Nat.min_eq_left (by omega)]
  exact h6 m (by omega)
 ·rw[if_neg q1]
  by_cases q2:m=p
  ·rw[if_pos q2,q2,List.append_assoc,List.drop_left' hA,List.take_left' hX]
   have:=g6 0 (by omega)
   rwa[Nat.zero_mul,List.drop_zero]at this
  ·rw[if_neg q2]
   have e1:m*3=(cur.toList.take (p*3)++arr.toList.take 3).length+(m-1-p)*3:=by rw[List.length_append,hA,hX];omega
   rw[e1,List.drop_length_add_append,List.drop_take,List.take_take,Nat.min_eq_left (by omega),List.drop_drop,show p*3+(m-1-p)*3=(m-1)*3 by omega]
   exact h6 (m-1) (by omega)
theorem abB {f:FuncId} {fn:Func} {c0:Code} {z:AV} (e1:P.funcs[f]? =some fn) (e2:fn.body=some c0) (e3:fn.name≠ "runtime.NumGoroutine")
  (hf: ∀ {w:World} {T T2:TypeId} {cur arr:Array Value} {X:List Value} {g vb c i n:Nat},w.heap[g]? =some (.cells cur T (0,0))→cur.size=c*3→w.heap[vb]? =some (.cells arr T2 (0,0))→arr.toList.take 3=X→X.length=3→(∀v∈cur.toList.take (n*3),v.oneCell'=true)→(∀v∈X,v.oneCell'=true)→vb≠g→i<n→n≤c→n≤100000→
   Calls P f #[.slice (some ⟨g,0,none⟩) n c,.int .i64 i,.slice (some ⟨vb,0,none⟩) 1 1] w fun e w'=> ∃(g':Nat) (T':TypeId) (c':Nat) (cur':Array Value),e= .returned (.slice (some ⟨g',0,none⟩) (n+1) c')∧n+1≤c'∧(g'=g∨w.heap.size≤g')∧w'.heap[g']? =some (.cells cur' T' (0,0))∧cur'.size=c'*3∧cur'.toList.take ((n+1)*3)=cur.toList.take (i*3)++X++(cur.toList.drop (i*3)).take ((n-i)*3)∧Kp [g] w w'):
  ∀args h v h',Qb z args h=some (v,h')→qy P f args h v h':=fun args h v h' e=>by
 unfold Qb at e
 split at e
 ·rename_i i o l w3 p j q m c
  rw[zN]at e
  split at e
  ·rename_i hcond
   obtain⟨c1,hcond⟩:=zq hcond
   obtain⟨c2,hcond⟩:=zq hcond
   obtain⟨c3,hcond⟩:=zq hcond
   obtain⟨c4,hcond⟩:=zq hcond
   obtain⟨c5,hcond⟩:=zq hcond
   obtain⟨c6,hcond⟩:=zq hcond
   obtain⟨c7,c8⟩:=zq hcond
   have c1:=(zu _ _).1 c1
   have c2:p+1≤l:=(zy _ _).1 c2
   have c3:=(zu _ _).1 c3
   have c4:=(zy _ _).1 c4
   have c5:=(zu _ _).1 c5
   have c6:=(zu _ _).1 c6
   have c7:=(zu _ _).1 c7
   have c8:i≠j:=fun q=>by subst q;rw[(zu i i).2 rfl]at c8;cases c8
   subst c1;subst c3;subst c5;subst c6;subst c7
   split at e
   ·rename_i u n t u2 k s hgi hgj
    rw[zN]at e
    split at e
    ·rename_i hcond
     obtain⟨d1,hcond⟩:=zq hcond
     obtain⟨d2,hcond⟩:=zq hcond
     obtain⟨d3,d4⟩:=zq hcond
     have d1:=(zu _ _).1 d1
     have d2:=(zu _ _).1 d2
     have d3:=(zy _ _).1 d3
     have d4:=(zy _ _).1 d4
     subst d1;subst d2
     injection e with e
     injection e with q1 q2
     subst q1;subst q2
     intro ρ args' w K hv hr hK
     obtain⟨v1,l1,rfl,⟨g,κ,cc,hi,rfl,hκ,hlc,_⟩,v2,l2,rfl,hv2,v3,l3,rfl,⟨gv,κv,hj,rfl,_⟩,hl⟩:=hv
     have hl:l3=[]:=hl
     subst hl
     obtain⟨rfl,hp1,_⟩:=zA.1 hv2
     obtain⟨ob,ho,hB⟩:=hr.obj hi
     obtain⟨ob2,ho2,hB2⟩:=hr.obj hj
     rw[hgi]at hB
     rw[hgj]at hB2
     obtain⟨cur,T,fr,rfl,k1,k2,k3,k4,k5,k6⟩:=id hB
     obtain⟨arr,T2,fr2,rfl,m1,m2,m3,m4,m5,m6⟩:=id hB2
     have k2:fr=(0,0):=k2
     have m2:fr2=(0,0):=m2
     subst k2;subst m2
     have hne:gv≠g:=fun q=>c8 (hr.inj i j g κ κv hi (by rw[←q];exact hj) (by rw[hgi];intro q;cases q) (by rw[hgj];intro q;cases q))
     have hp2:toI 3 p=(p:Int):=zR hp1 (fun _=>by show p<9223372036854775808;omega)
     have hcur:cur.size=cc*3:=by omega
     have hX:(arr.toList.take 3).length=3:=by rw[List.length_take,Array.length_toList];omega
     have one: ∀x∈cur.toList.take (l*3),x.oneCell'=true:=fun x hx=>by
      obtain⟨a,ha⟩:=List.mem_iff_getElem?.1 hx
      have hal:=(List.getElem?_eq_some_iff.1 ha).1
      rw[List.length_take]at hal
      rw[List.getElem?_take_of_lt (by omega)]at ha
      refine aaL ((k6 (a / 3) (by omega)).one x (List.mem_iff_getElem?.2 ⟨a%3,?_⟩))
      rw[List.getElem?_take_of_lt (Nat.mod_lt _ (by omega)),List.getElem?_drop,show a / 3*3+a%3=a by omega]
      exact ha
     have oneX: ∀x∈arr.toList.take 3,x.oneCell'=true:=fun x hx=>by
      have:=m6 0 (by omega)
      rw[Nat.zero_mul,List.drop_zero]at this
      exact aaL (this.one x hx)
     rw[hp2]
     refine JY.calls e1 e2 e3 ((hf (w:=w) (X:=arr.toList.take 3) ho hcur ho2 rfl hX one oneX hne (by omega) hlc c4).mono fun e w' he=>?_)
     obtain⟨g',T',c',cur',rfl,n1,n2,n3,n4,n5,n6⟩:=he
     refine⟨_,rfl,?_⟩
     have hbr:BR ρ (c'*3) (.row 3 (l+1) (aMv z t s l p)) (.cells cur' T' (0,0)):=aMw hB hB2 d3 d4 (by omega) n4 (Nat.mul_le_mul_right _ n1) n5
     have x:=Ext.move (w':=w') hr hi (by rw[hgi];intro q;cases q) n2 n6.size (fun b hb hbg=>n6.block b hb (by simpa using hbg)) n3 n6.os n6.output n6.tape hbr
     exact hK _ _ w' x ⟨g',c'*3,c',Ren.put_self _ _ _ _,rfl,by omega,n1,by omega⟩
    ·cases e
   ·cases e
  ·cases e
 ·cases e
end
end Kv
end
end
section
set_option autoImplicit false
open Go.RowKit Go.Lib
theorem aiY (p:Addr) (w:World):CallsD Tryz.prog 496 #[.pointer (some p)] .returning w fun e u' w'=>e= .returned (.tuple #[])∧u'= .returning∧w'=w:=by
 refine callsD_of_wpS Tryz.func496 rfl fun c₀ cs hu=>?_
 apply wpS_seq
 apply wpS_region
 simp[wpOpsS,go_sem,recoverD,hu,Tryz.ntmps496,Exit.thenS]
 refine wpS_of_wp ?_
 go_wp2
 cases c₀
 simp_all [bodyPostS,results,Tryz.results496]
theorem aiZ (p:Addr) (w:World):CallsD Tryz.prog 359 #[.pointer (some p)] .returning w fun e u' w'=>e= .returned (.tuple #[])∧u'= .returning∧w'=w:=by
 refine callsD_of_wpS Tryz.func359 rfl fun c₀ cs hu=>?_
 apply wpS_seq
 apply wpS_region
 simp[wpOpsS,go_sem,recoverD,hu,Tryz.ntmps359,Exit.thenS]
 refine wpS_of_wp ?_
 go_wp2
 cases c₀
 simp_all [bodyPostS,results,Tryz.results359]
theorem Kd (p:Addr) (w:World):CallsD Tryz.prog 157 #[.pointer (some p)] .returning w fun e u' w'=>e= .returned (.tuple #[])∧u'= .returning∧w'=w:=by
 refine callsD_of_wpS Tryz.func157 rfl fun c₀ cs hu=>?_
 apply wpS_seq
 apply wpS_region
 simp[wpOpsS,go_sem,recoverD,hu,Tryz.ntmps157,Exit.thenS]
 refine wpS_of_wp ?_
 go_wp2
 cases c₀
 simp_all [bodyPostS,results,Tryz.results157]
theorem aiQ (b:Nat) (w:World):(callFunc 86 #[.float .f64 b]).run Tryz.prog w= .ok (.value (.int .u64 b)) w:=by
 rw[run_callFunc_extern (e:=Extern.MathFloatBits.float64bits) Tryz.func86 (by kernel_rfl) (by kernel_rfl) (by kernel_rfl) (by kernel_rfl)]
 rfl
theorem aiR (b:Int) (w:World):(callFunc 138 #[.int .u64 b]).run Tryz.prog w= .ok (.value (.float .f64 b.toNat)) w:=by
 rw[run_callFunc_extern (e:=Extern.MathFloatBits.float64frombits) Tryz.func138 (by kernel_rfl) (by kernel_rfl) (by kernel_rfl) (by kernel_rfl)]
 rfl
theorem aA3 (a b:ByteArray) (w:World):(callFunc 451 #[.string a,.string b]).run Tryz.prog w= .ok (.value (.int .i64 (Lib.compareBytes a.data.toList b.data.toList))) w:=by
 rw[run_callFunc_extern Tryz.func451 (by kernel_rfl) (by kernel_rfl) (by kernel_rfl) (e:=Extern.BytealgCompare.compare) (by kernel_rfl),Lib.run_compareString]
 rfl
theorem ai1 {w:World} {T T2:TypeId} {cur arr:Array Value} {X:List Value} {g vb c i n:Nat} (hb:w.heap[g]? =some (.cells cur T (0,0))) (hcs:cur.size=c*3) (hvb:w.heap[vb]? =some (.cells arr T2 (0,0))) (hXa:arr.toList.take 3=X) (hX:X.length=3) (hone: ∀v∈cur.toList.take (n*3),v.oneCell'=true) (hX1: ∀v∈X,v.oneCell'=true) (hne:vb≠g) (hi:i<n) (hnc:n≤c) (hn:n≤100000):
  Calls Tryz.prog 268 #[.slice (some ⟨g,0,none⟩) n c,.int .i64 i,.slice (some ⟨vb,0,none⟩) 1 1] w fun e w'=> ∃(g':Nat) (T':TypeId) (c':Nat) (cur':Array Value),e= .returned (.slice (some ⟨g',0,none⟩) (n+1) c')∧n+1≤c'∧(g'=g∨w.heap.size≤g')∧w'.heap[g']? =some (.cells cur' T' (0,0))∧cur'.size=c'*3∧cur'.toList.take ((n+1)*3)=cur.toList.take (i*3)++X++(cur.toList.drop (i*3)).take ((n-i)*3)∧Kp [g] w w':=by
 rcases Nat.lt_or_ge c (n+1)with hc|hc
 ·refine(agY (T:=T) (T2:=T2) (arr:=arr) hb hcs hvb hXa hX hone hX1 hi hnc hc hn).mono ?_
  rintro e w' ⟨G,cur',rfl,k1,k2,k3,k4,k5⟩
  exact⟨_,_,G,cur',rfl,k1,.inr (Nat.le_refl _),k2,k3,k4,Kp.of_below k5⟩
 ·refine(abA (T:=T) (T2:=T2) (arr:=arr) hb hcs hvb hXa hX hone hX1 hne hi hc hn).mono ?_
  rintro e w' ⟨rfl,⟨cur',k1,k2,k3⟩,k4⟩
  exact⟨_,_,c,cur',rfl,hc,.inl rfl,k1,k2,k3,k4⟩
end
section
set_option maxRecDepth 100000
noncomputable section
namespace Kv
open Go.RowKit Go.Lib
theorem ze:Tryz.prog.follows .mixedOrders=true:=by kernel_rfl
theorem zd:ach Tryz.prog:=fun f fn h _ e=>by
 have h1:(Tryz.prog.funcs.toList.all fun fn=> !(fn.name== "runtime.NumGoroutine"))=true:=by decide+kernel
 have h2:=List.all_eq_true.1 h1 fn (by rw[←Array.getElem?_toList]at h;exact List.mem_of_getElem? h)
 rw[e]at h2
 simp at h2
def sel (l:List (Nat×(List AV→HP→Option (AV×HP)))) (f:Nat):Option (List AV→HP→Option (AV×HP)):=
 List.rec (motive:=fun _=>Option _) none (fun a _ ih=> @Bool.rec (fun _=>_) ih (some a.2) (Nat.beq f a.1)) l
theorem ahX {f:Nat} {g:List AV→HP→Option (AV×HP)} : ∀l,sel l f=some g→ ∃p∈l,p.1=f∧p.2=g
 | [],h=>by cases h
 |p::l,h=>by
  have h: @Bool.rec (fun _=>Option (List AV→HP→Option (AV×HP))) (sel l f) (some p.2) (Nat.beq f p.1)=some g:=h
  rw[zg]at h
  split at h
  ·next q=>injection h with h;exact⟨p,List.mem_cons_self,q.symm,h⟩
  ·obtain⟨q,h1,h2⟩:=ahX l h;exact⟨q,List.mem_cons_of_mem _ h1,h2⟩
def aRV (l:List Nat) (f:Nat):Bool:=List.rec (motive:=fun _=>Bool) false (fun a _ ih=> @Bool.rec (fun _=>_) ih true (Nat.beq f a)) l
theorem aaA {f:Nat} : ∀l,aRV l f=true→f∈l
 | [],h=>by cases h
 |p::l,h=>by
  have h: @Bool.rec (fun _=>Bool) (aRV l f) true (Nat.beq f p)=true:=h
  rw[zg]at h
  split at h
  ·next q=>rw[q];exact List.mem_cons_self
  ·exact List.mem_cons_of_mem _ (aaA l h)
def Sb:Sm:=⟨sel [(86,aRy),(138,aNt),(451,aNu),(330,aNp),(268,Qb (.agg [.str 0 0,.str 0 0,.int 3 0]))],aRV [496,359,157]⟩
theorem Ke {f:FuncId} (hb: ∃fn c,Tryz.prog.funcs[f]? =some fn∧fn.body=some c∧fn.name≠ "runtime.NumGoroutine") (hr: ∀p w,CallsD Tryz.prog f #[.pointer (some p)] .returning w fun e u' w'=>e= .returned (.tuple #[])∧u'= .returning∧w'=w):aNI Tryz.prog f:=
 ⟨hb,hr⟩
theorem af4 {fn:Func} (h:fn.body.isSome=true): ∃c,fn.body=some c:=by
 cases e:fn.body with
 |none=>rw[e]at h;cases h
 |some c=>exact⟨c,rfl⟩
theorem jF (f:FuncId) (h:(match Tryz.prog.funcs[f]? with |some fn=>fn.body.isSome|none=>false)=true): ∃fn c,Tryz.prog.funcs[f]? =some fn∧fn.body=some c∧fn.name≠ "runtime.NumGoroutine" :=by
 cases e:Tryz.prog.funcs[f]? with
 |none=>rw[e]at h;cases h
 |some fn=>
  rw[e]at h
  obtain⟨c,hc⟩:=af4 h
  exact⟨fn,c,rfl,hc,zd f fn e h⟩
theorem ajK: ∀args h v h',aNp args h=some (v,h')→qy Tryz.prog 330 args h v h':=by
 obtain⟨fn,c,e1,e2,e3⟩:=jF 330 (by decide+kernel)
 exact aAT e1 e2 e3 (fun r s w hr hs=>ai5 r s w hr hs)
theorem ajL: ∀args h v h',Qb (.agg [.str 0 0,.str 0 0,.int 3 0]) args h=some (v,h')→qy Tryz.prog 268 args h v h':=by
 obtain⟨fn,c,e1,e2,e3⟩:=jF 268 (by decide+kernel)
 exact abB e1 e2 e3 ai1
theorem aic: ∀args h v h',aRy args h=some (v,h')→qy Tryz.prog 86 args h v h':=aAZ aiQ
theorem aid: ∀args h v h',aNt args h=some (v,h')→qy Tryz.prog 138 args h v h':=aA0 aiR
theorem ajJ: ∀args h v h',aNu args h=some (v,h')→qy Tryz.prog 451 args h v h':=fun args h v h' e=>by
 refine aA1 (P:=Tryz.prog) (f:=451) ?_ args h v h' e
 intro a b w
 rw[aA3 a b w]
theorem zn:acj Tryz.prog Sb where
 s:=fun f g hg=>by
  unfold Sb at hg
  dsimp only at hg
  obtain⟨p,hp,rfl,rfl⟩:=ahX _ hg
  simp only[List.mem_cons,List.not_mem_nil,or_false]at hp
  rcases hp with rfl|rfl|rfl|rfl|rfl
  ·exact aic
  ·exact aid
  ·exact ajJ
  ·exact ajK
  ·exact ajL
 i:=fun f h=>by
  unfold Sb at h
  dsimp only at h
  have hp:=aaA _ h
  simp only[List.mem_cons,List.not_mem_nil,or_false]at hp
  rcases hp with rfl|rfl|rfl
  ·exact Ke (jF _ (by decide+kernel)) aiY
  ·exact Ke (jF _ (by decide+kernel)) aiZ
  ·exact Ke (jF _ (by decide+kernel)) Kd
theorem EL.nil {P:Program} : ∀e∈([]:List Ent),zk P e:=fun _ h=>by cases h
theorem EL.cons {P:Program} {e:Ent} {l:List Ent} (h:zk P e) (hl: ∀e∈l,zk P e): ∀x∈e::l,zk P x:=fun x hx=>by
 rcases List.mem_cons.1 hx with rfl|hx
 ·exact h
 ·exact hl x hx
theorem agA {P:Program} {e:Ent} (he:zk P e) {fn:Func} {c:Code} (e1:P.funcs[e.f]? =some fn) (e2:fn.body=some c) (e3:fn.name≠ "runtime.NumGoroutine") {ρ:Ren} {args':List Value} {w:World} (hv:VRs ρ e.a args') (hr:HR ρ e.h w):
  Calls P e.f args'.toArray w fun r w'=> ∃ρ' v',r= .returned v'∧Ext ρ e.h w ρ' e.h' w'∧VR ρ' e.v v':=by
 have:=he.c ρ args' w (fun v' w'=> ∃ρ',Ext ρ e.h w ρ' e.h' w'∧VR ρ' e.v v') hv hr (fun ρ' v' w' x h=>⟨ρ',x,h⟩)
 unfold JY at this
 rw[jL e1 e2 e3]at this
 refine this.mono fun r w' h=>?_
 cases r with
 |returned v=>obtain⟨ρ',x,h⟩:=h;exact⟨ρ',v,rfl,x,h⟩
 |panicked c=>exact h.elim
 |outgrown=>exact h.elim
theorem aBa {d n:Nat} {p:PT} {w:World} (hs:p.shape d=true) (hw:(ai3 d p n).wf) (hl: ∀i,(ai3 d p n).get i= .dead):HR (fun _=>none) (ai3 d p n) w:=
 ⟨hw,fun i b κ h=>(by cases h),fun i j b κ κ' h=>(by cases h),fun i=> .inl (hl i)⟩
theorem wf_d (d n:Nat) (h:n≤2^d):(ai3 d .d n).wf:=⟨RT.mk_wf _ _,h⟩
theorem aRJ (d n i:Nat):(ai3 d .d n).get i= .dead:=by
 rw[HP.get_eq]
 split
 ·exact RT.mk_get _ _ _
 ·rfl
end Kv
end
end
section
set_option maxRecDepth 100000
noncomputable section
namespace Kv
open Go.RowKit
mutual
def aCe:AV→Option Value
 | .fl x=>some (.float .f64 x)
 | .nilp=>some (.pointer none)
 | .nils=>some (.slice none 0 0)
 | .nilf=>some .nilFunc
 | .nili=>some .nilIface
 | .tup l=>(abq l).map fun l=> .tuple l.toArray
 | .agg l=>(abq l).map fun l=> .agg l.toArray
 | .str l x=>some (.string ⟨((bys l x).map UInt8.ofNat).toArray⟩)
 | .bl b=>some (.bool b)
 | .int c x=>some (.int (zh c) (toI c x))
 |_=>none
def abq:List AV→Option (List Value)
 | []=>some []
 |a::l=>match aCe a,abq l with
  |some v,some vs=>some (v::vs)
  |_,_=>none
end
mutual
theorem agn {ρ:Ren} : ∀(a:AV) (v v':Value),aCe a=some v→VR ρ a v'→v'=v
 | .fl x,v,v',h,k=>by injection h with h;rw[←h];exact k
 | .nilp,v,v',h,k=>by injection h with h;rw[←h];exact k
 | .nils,v,v',h,k=>by injection h with h;rw[←h];exact k
 | .nilf,v,v',h,k=>by injection h with h;rw[←h];exact k
 | .nili,v,v',h,k=>by injection h with h;rw[←h];exact k
 | .bl b,v,v',h,k=>by injection h with h;rw[←h];exact k
 | .int c x,v,v',h,k=>by injection h with h;rw[←h];exact k.1
 | .str l x,v,v',h,⟨s,e,k⟩=>by
  injection h with h
  rw[←h,e]
  congr 1
  have h1:s.data.toList=(bys l x).map UInt8.ofNat:=by
   rw[←k.1,List.map_map]
   have:(UInt8.ofNat∘UInt8.toNat)=id:=funext fun u=>by simp
   rw[this,List.map_id]
  rw[←h1]
 | .tup l,v,v',h,⟨l',e,k⟩=>by
  simp only[aCe,Option.map_eq_some_iff]at h
  obtain⟨vs,h1,h2⟩:=h
  have:=X0 l vs l'.toList h1 k
  rw[e,←h2,←this]
 | .agg l,v,v',h,⟨l',e,k,_⟩=>by
  simp only[aCe,Option.map_eq_some_iff]at h
  obtain⟨vs,h1,h2⟩:=h
  have:=X0 l vs l'.toList h1 k
  rw[e,←h2,←this]
 | .se,v,v',h,k=>by cases h
 | .ifc _ _,v,v',h,k=>by cases h
 | .fn _ _ _,v,v',h,k=>by cases h
 | .un,v,v',h,k=>by cases h
 | .sf _ _ _ _,v,v',h,k=>by cases h
 | .sl _ _ _ _,v,v',h,k=>by cases h
 | .ba _ _,v,v',h,k=>by cases h
 | .ptr _ _,v,v',h,k=>by cases h
theorem X0 {ρ:Ren} : ∀(a:List AV) (v v':List Value),abq a=some v→VRs ρ a v'→v'=v
 | [],v,v',h,k=>by injection h with h;rw[←h];exact k
 | a::l,v,v',h,⟨x,y,e,k,r⟩=>by
  unfold abq at h
  cases h1:aCe a with
  |none=>rw[h1]at h;cases h
  | some v1=>
   cases h2:abq l with
   |none=>rw[h1,h2]at h;cases h
   |some v2=>
    rw[h1,h2]at h
    injection h with h
    rw[e,←h,agn a v1 x h1 k,X0 l v2 y h2 r]
end
theorem abm {e:Ent} (he:zk Tryz.prog e) (hp:e.p= .d) (hn:e.n=0) (hb:(match Tryz.prog.funcs[e.f]? with |some fn=>fn.body.isSome|none=>false)=true) {args':List Value} (hv: ∀ρ,VRs ρ e.a args') (W:World):
  Calls Tryz.prog e.f args'.toArray W fun r W'=>(∃ρ' v',r= .returned v'∧VR ρ' e.v v'∧HR ρ' e.h' W')∧Below W.heap.size W W':=by
 obtain⟨fn,c,e1,e2,e3⟩:=jF e.f hb
 have hh:e.h=ai3 e.d .d 0:=by unfold Ent.h;rw[hp,hn]
 have hr:HR (fun _=>none) e.h W:=by
  rw[hh]
  exact aBa rfl (wf_d _ _ (Nat.zero_le _)) (fun i=>aRJ _ _ i)
 refine(agA he e1 e2 e3 (hv _) hr).mono fun r W' h=>?_
 obtain⟨ρ',v',rfl,x,k⟩:=h
 exact⟨⟨ρ',v',rfl,k,x.hr⟩,x.below fun i b κ q=>by cases q⟩
theorem plain_run {e:Ent} {v:Value} (he:zk Tryz.prog e) (hp:e.p= .d) (hn:e.n=0) (hb:(match Tryz.prog.funcs[e.f]? with |some fn=>fn.body.isSome|none=>false)=true) {args':List Value} (hv: ∀ρ,VRs ρ e.a args') (hc:aCe e.v=some v) (W:World):
  Calls Tryz.prog e.f args'.toArray W fun r W'=>r= .returned v∧Below W.heap.size W W':=by
 refine(abm he hp hn hb hv W).mono fun r W' h=>?_
 obtain⟨⟨ρ',v',rfl,k,_⟩,hbl⟩:=h
 exact⟨by rw[agn _ _ _ hc k],hbl⟩
end Kv
end
end
end Go.Proofs.YtcdiljebkpikbaaGreat
