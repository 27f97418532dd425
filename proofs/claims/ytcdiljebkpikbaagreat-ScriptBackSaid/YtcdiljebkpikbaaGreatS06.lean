/- Parts of the proof: Kvv Kvw Kvx Kvy Kvz Kwa Kwb. -/
import Derived.Test.YtcdiljebkpikbaaGreatS05
set_option linter.all false
set_option maxRecDepth 100000
set_option maxHeartbeats 64000000
namespace Go.Proofs.YtcdiljebkpikbaaGreat
section
noncomputable section
namespace Kv
open Go.RowKit
variable {P:Program}
section
variable {ρ:Ren} {w:World} {h:HP} {r:RG} {a:Act}
def AR (P:Program) (o:Oper) (r:RG) (n:Nat) (b:Blk) (v:AV):Prop:= ∀ρ a w,RR ρ r a→ ∃ob κ v' w',(execOp a.eval o).run P w= .ok (.value v') w'∧w'.heap=w.heap.push ob∧w'.os=w.os∧w'.output=w.output∧w'.tape=w.tape∧BR ρ κ b ob∧
 ∀ρ',RLe ρ ρ'→ρ' n=some (w.heap.size,κ)→VR ρ' v v'
theorem ve {b:Blk} {h:HP} {v:AV} {k:K} {res:AV×HP} (e:gp b h v k=some res):b≠ .dead∧k v (h.push b)=some res:=by
 cases b<;>first | (cases e;done) |exact⟨(fun e=>by cases e),e⟩
def xg (w:World) (o:Obj):World:= { w with heap:=w.heap.push o }
theorem vV (t:TypeId) (c:Array Value) (w:World):(newRow t c).run P w= .ok ⟨w.heap.size,0,none⟩ (xg w (.cells c t (0,0))):=rfl
theorem yJ {t:TypeId} {i:TypeInfo} {d:TypeDesc} {ty:Ty} (F:TyF P t i d ty): ∃z,i.zero=some z∧z.cells.size=ty.cells∧ ∀ρ,UR ρ ty.cells ty.zero z.cells.toList:=by
 obtain⟨z,h1,_,h3⟩:=F.zero
 exact⟨z,h1,by have:=(h3 fun _=>none).len;rwa[Array.length_toList]at this,h3⟩
def zc (z:Array Value) (n:Nat):Array Value:=(Array.range n).map (z[· %z.size]!)
theorem yY (z:Array Value) (n:Nat):(zc z n).size=n:=by simp[zc]
theorem JS (z:Array Value) (n:Nat) {k:Nat} (hk:k<n) (hz:0<z.size):(zc z n).toList[k]? =z.toList[k%z.size]? :=by
 have hm:=Nat.mod_lt k hz
 rw[Array.getElem?_toList,Array.getElem?_toList,Array.getElem?_eq_getElem (by rw[yY];exact hk),Array.getElem?_eq_getElem hm]
 simp[zc,hm]
theorem QI (z:Array Value) (hz:0<z.size) (n i:Nat) (hi:i<n):((zc z (n*z.size)).toList.drop (i*z.size)).take z.size=z.toList:=by
 apply List.ext_getElem?
 intro k
 by_cases hk:k<z.size
 ·have h1:(i+1)*z.size≤n*z.size:=Nat.mul_le_mul_right _ hi
  rw[Nat.add_mul]at h1
  rw[List.getElem?_take_of_lt hk,List.getElem?_drop,JS _ _ (by omega) hz,Nat.add_comm,Nat.add_mul_mod_self_right,Nat.mod_eq_of_lt hk]
 ·rw[List.getElem?_eq_none (by simp;omega),List.getElem?_eq_none (by simp;omega)]
theorem qF {ty:Ty} (h:yh ty=true):ty= .sc (.int 4 0):=by
 unfold yh at h
 split at h
 ·split at h
  ·next k x=>
   rw[zg]at h
   split at h
   ·next e=>subst e;rw[(zu _ _).1 h]
   ·cases h
  ·cases h
 ·cases h
theorem aNm: ∀k,bys k 0=List.replicate k 0
 |0=>rfl
 |k+1=>by
  have:=zo (k+1) 0
  rw[List.eq_replicate_iff]
  refine⟨this,fun b hb=>?_⟩
  obtain⟨i,hi⟩:=List.getElem?_of_mem hb
  have hl:=(List.getElem?_eq_some_iff.1 hi).1
  rw[VZ _ _ _ (by omega)]at hi
  injection hi with hi
  rw[←hi];simp
theorem Qw {t:TypeId} {i:TypeInfo} {d:TypeDesc} {ty:Ty} (F:TyF P t i d ty) (n:Nat):QK ty n=if yh ty=true then .by n 0 else .row ty.cells n (.mk ty.zero (dep n)):=by
 unfold QK
 rw[zg,if_neg (by have:=F.pos;omega),zN]
theorem ahN (n:Nat):QK .no n= .dead:=rfl
theorem ahO {t:TypeId} {i:TypeInfo} {d:TypeDesc} {ty:Ty} (F:TyF P t i d ty) (ρ:Ren) (n:Nat) {z:Value} (hz:i.zero=some z) (tid:TypeId):BR ρ (n*ty.cells) (QK ty n) (.cells (zc z.cells (n*ty.cells)) tid (0,0)):=by
 obtain⟨z',e,hs,hu⟩:=yJ F
 rw[hz]at e;injection e with e;subst e
 have hNF:NF (0,0) (n*ty.cells):=fun o _=>by simp
 have hpos:=F.pos
 rw[Qw F]
 by_cases h8:yh ty=true
 ·rw[if_pos h8]
  have hty:ty= .sc (.int 4 0):=qF h8
  subst hty
  have h1:z.cells.toList=[Value.int .u8 (0:Nat)]:=by
   have:=(hu ρ).vs
   obtain⟨x,y,e1,e2,e3⟩:=this
   have e3:y=[]:=e3
   rw[e1,e3,(zA.1 e2).1];rfl
  have hc:(Ty.sc (.int 4 0)).cells=1:=rfl
  rw[hc]at hs hNF⊢
  rw[Nat.mul_one]at hNF⊢
  refine⟨_,_,_,rfl,yY _ _,hNF,Nat.le_refl _,Nat.pow_pos (by omega),?_⟩
  unfold byC
  rw[aNm,List.map_replicate,List.eq_replicate_iff]
  have hl:(zc z.cells n).toList.length=n:=by rw[Array.length_toList,yY]
  refine⟨by rw[List.length_take,hl,Nat.min_self],fun b hb=>?_⟩
  obtain⟨k,hk⟩:=List.getElem?_of_mem (List.mem_of_mem_take hb)
  have hkl:=(List.getElem?_eq_some_iff.1 hk).1
  rw[JS _ _ (by omega) (by omega),h1,hs,Nat.mod_one]at hk
  injection hk with hk
  exact hk.symm
 ·rw[if_neg h8]
  refine⟨_,_,_,rfl,yY _ _,rfl,hpos,by rw[Nat.mul_comm];exact Nat.le_refl _,⟨2^dep n,RT.mk_wf _ _,aak n⟩,fun k hk=>?_⟩
  rw[RT.mk_get,←hs,QI _ (by omega) _ _ hk,hs]
  exact hu ρ
theorem aB1 (o:Nat) (v:AV):st .dead o v= .dead:=rfl
theorem Xr (u i:Nat) (x:Operand) (l:List (Nat×Operand)) (r:RG) (b:Blk):(qv u ((i,x)::l)).f r b=(qv u l).f r (if size ((zx x).f r)=u then st b (i*u) ((zx x).f r)else .dead):=by
 rw[qv]
 simp only[zl,zg];rfl
theorem jO (u:Nat) (r:RG): ∀ps,(qv u ps).f r .dead= .dead
 | []=>rfl
 | (i,x)::l=>by
  rw[Xr,aB1,ite_self];exact jO u r l
theorem QG (rr:RR ρ r a) {u κ:Nat} {tid:TypeId} {fr:Nat×Nat} : ∀(ps:List (Nat×Operand)) (b:Blk) (c:Array Value),BR ρ κ b (.cells c tid fr)→(qv u ps).f r b≠ .dead→
  ∃c',Instr.fill (fun i=>some (i*u,u)) c (ps.map fun (i,x)=>(i,a.eval x))=some c'∧BR ρ κ ((qv u ps).f r b) (.cells c' tid fr)
 | [],b,c,hB,_=>⟨c,rfl,hB⟩
 | (i,x)::l,b,c,hB,hd=>by
  rw[Xr]at hd⊢
  by_cases h1:size ((zx x).f r)=u
  ·rw[if_pos h1]at hd⊢
   have h2:st b (i*u) ((zx x).f r)≠ .dead:=fun e=>by rw[e,jO]at hd;exact hd rfl
   have hx:(zx x).f r≠ .un:=fun e=>by rw[e]at h2;exact h2 (st_un b _)
   obtain⟨c1,tid1,fr1,e1,k1,k2,k3,k4,k5,k6⟩:=aM9 hB (zr rr x hx) h2
   injection e1 with e1 e2 e3
   subst e1;subst e2;subst e3
   obtain⟨m1,m2,m3,m4⟩:=Xx (zr rr x hx) k6
   rw[Array.length_toList]at m2 k3
   obtain⟨c',n1,n2⟩:=QG rr l _ _ k5 hd
   refine⟨c',?_,n2⟩
   rw[List.map_cons]
   unfold Instr.fill
   simp only
   rw[if_neg (by simp only[ne_eq,Bool.or_eq_true,decide_eq_true_eq,not_or];omega)]
   rw[ZB _ _ _ (by omega)]
   exact n1
  ·rw[if_neg h1,jO]at hd;exact absurd rfl hd
where
 st_un (b:Blk) (o:Nat):st b o .un= .dead:=by
  cases b with
  |dead=>rfl
  |si l x p=>rfl
  |row u n t=>
   rcases aoj u n t o .un with h| ⟨_,h2,_⟩
   ·exact h
   ·exact absurd rfl h2
  | «by» l x=>rfl
theorem Kt (ρ:Ren) {n b κ:Nat} {ρ':Ren} (h:ρ' n=some (b,κ)):VR ρ' (.ptr n 0) (.pointer (some ⟨b,0,none⟩)):=⟨b,κ,h,rfl⟩
theorem aNl (ty:Ty) (l:List AV):ain ty (.tup l)= .dead:=by
 cases ty with
 |sc v=>rfl
 |no=>rfl
 |ba n=>rfl
 |ag n l=>rfl
theorem aAI (ty:Ty):ain ty .un= .dead:=by
 cases ty with
 |sc v=>rfl
 |no=>rfl
 |ba n=>rfl
 |ag n l=>rfl
theorem xI {t e:TypeId} (h:xH P t=some e):P.underlying t=some (.slice e):=by
 unfold xH at h
 split at h
 ·next he=>injection h with h;rw[he,h]
 ·cases h
theorem aaB {t:TypeId} (h:Qc P t=true):P.underlying t=some .string:=by
 unfold Qc at h
 split at h
 ·next he=>exact he
 ·cases h
theorem Ys {v:AV} {φ:Nat→Nat→R} {res:AV×HP} (h:JA v φ=some res): ∃l x,v= .str l x:=by cases v<;>first |exact⟨_,_,rfl⟩ | (cases h;done)
theorem vj {v:AV} {φ:Nat→R} {res:AV×HP} (h:Jy v φ=some res): ∃c x,v= .int c x∧φ x=some res∧(y9 c=true→x<hfN c):=by
 unfold Jy at h
 split at h
 ·next c x=>
  rw[zN,zN]at h
  by_cases h1:y9 c=true
  ·rw[if_pos h1]at h
   by_cases h2:Nat.ble (hfN c) x=true
   ·rw[if_pos h2]at h;cases h
   ·rw[if_neg h2]at h;exact⟨c,x,rfl,h,fun _=>Nat.lt_of_not_le fun k=>h2 ((zy _ _).2 k)⟩
  ·rw[if_neg h1,if_neg (by intro k;cases k)]at h;exact⟨c,x,rfl,h,fun e=>absurd e h1⟩
 ·cases h
theorem aMF {t e:TypeId} {i:TypeInfo} {d:TypeDesc} {ty:Ty} (F:TyF P e i d ty) (hsl:P.underlying t=some (.slice e)) {z:Value} (hz:i.zero=some z) {l c:Nat} (hlc:l≤c) (hcb:c≤100000) (k1 k2:IntKind) (w:World):
  (Instr.makeSlice t (.int k1 (l:Nat)) (.int k2 (c:Nat))).run P w= .ok (.slice (some ⟨w.heap.size,0,none⟩) l c) (xg w (.cells (zc z.cells (c*ty.cells)) e (0,0))):=by
 have wr: ∀n:Nat,n≤100000→IntKind.i64.wrap (n:Int)=n:=fun n hn=>by
  unfold IntKind.wrap
  have h1:(n:Int)%(2^64:Int)=n:=by omega
  show(if(true&&decide (((n:Int)%(2^64:Int))≥(2^63:Int)))=true then _ else(n:Int)%(2^64:Int))=_
  rw[h1,if_neg (by simp;omega)]
 have hby:=F.bytes
 have hm:(i.bytes:Int)*(c:Nat)≤2^48:=by
  have:i.bytes*c≤1048576*100000:=Nat.mul_le_mul hby hcb
  omega
 unfold Instr.makeSlice
 rw[rb (zb hsl w)]
 simp only
 rw[rb (a:=(l:Int)) (w':=w) rfl,rb (a:=(c:Int)) (w':=w) rfl,rb (zV F.hi w)]
 simp only[wr l (by omega),wr c hcb]
 rw[if_neg (by simp;omega)]
 have hroom:(askRoom ((c:Int).toNat*i.bytes)).run P w= .ok () w:=by
  unfold askRoom;split<;>rfl
 have fin: ∀zz:Array Value,(Array.range (c*ty.cells)).map (zz[· %zz.size]!)=zc z.cells (c*ty.cells)→(do
   let a←newRow e ((Array.range (c*ty.cells)).map (zz[· %zz.size]!))
   pure (Value.slice (some a) l c):Sem Value).run P w= .ok (.slice (some ⟨w.heap.size,0,none⟩) l c) (xg w (.cells (zc z.cells (c*ty.cells)) e (0,0))):=fun zz hz=>by
  rw[hz,rb (vV _ _ _)];rfl
 rw[rb hroom,rb (yk F.hi w),F.size]
 simp only[Int.toNat_natCast]
 split
 ·next q=>rw[rb (rp _ _)];exact fin #[] (by rw[q];simp[zc])
 ·rw[rb (yc F.hi hz w),rb (rp _ _)];exact fin _ rfl
theorem af9 (e:TypeId) (s:ByteArray) (w:World): ∃ca w',(Conv.stringToBytes e s).run P w= .ok (.slice (some ⟨w.heap.size,0,none⟩) s.size ca) w'∧s.size≤ca∧w'.heap=w.heap.push (.cells ((s.data.map fun b=> .int .u8 b.toNat)++Array.replicate (ca-s.size) (.int .u8 0)) e (ca,ca+1))∧w'.os=w.os∧w'.output=w.output∧w'.tape=w.tape:=by
 have hc: ∃ca,s.size≤ca∧(choose (.appendCap s.size 0 e)).run P w= .ok ca { w with drawn:=w.drawn+1 } :=⟨_,Nat.le_add_right _ _,rfl⟩
 obtain⟨ca,h1,h2⟩:=hc
 refine⟨ca,World.freeze (xg { w with drawn:=w.drawn+1 } (.cells ((s.data.map fun b=> .int .u8 b.toNat)++Array.replicate (ca-s.size) (.int .u8 0)) e (0,0))) ⟨w.heap.size,ca,none⟩ 1,?_,h1,?_,rfl,rfl,rfl⟩
 ·have hsz:((s.data.map fun b=>Value.int .u8 b.toNat)++Array.replicate (ca-s.size) (Value.int .u8 0)).size=ca:=by
   have:s.data.size=s.size:=rfl
   simp;omega
  unfold Conv.stringToBytes
  rw[rb h2]
  simp only
  rw[rb (vV _ _ _)]
  have hm: ∀(c:Array Value) (w:World),c.size=ca→(markStringish ⟨w.heap.size,0,none⟩).run P (xg w (.cells c e (0,0)))= .ok () (World.freeze (xg w (.cells c e (0,0))) ⟨w.heap.size,ca,none⟩ 1):=fun c w hc=>by
   have hsh:(shape w.heap.size).run P (xg w (.cells c e (0,0)))= .ok (some (e,ca)) (xg w (.cells c e (0,0))):=by
    have:(xg w (.cells c e (0,0))).shape? w.heap.size=some (e,ca):=by
     unfold World.shape? xg
     simp[hc]
    show Result.ok ((xg w (.cells c e (0,0))).shape? w.heap.size) _=_
    rw[this]
   unfold markStringish
   rw[rb hsh];rfl
  rw[rb (hm _ _ hsz)];rfl
 ·unfold World.freeze xg
  rw[if_neg (by omega)]
  apply Array.ext
  ·simp
  ·intro i h1 h2
   simp only[Array.size_modify,Array.size_push]at h1
   by_cases e:i=w.heap.size
   ·subst e
    rw[Array.getElem_modify_self]
    simp
   ·have h3:i<w.heap.size+1:=h1
    have h4:i<w.heap.size:=by omega
    rw[Array.getElem_modify_of_ne (fun k=>e (by first |exact k|exact k.symm))]
    rw[Array.getElem_push_lt h4,Array.getElem_push_lt h4]
theorem aSl (o:Oper) {k:K} {res:AV×HP} (hf:(qD P o.op).f r h k=some res): ∃b v,b≠ .dead∧k v (h.push b)=some res∧AR P o r h.n b v:=by
 obtain⟨dst,op,ty,pos,after,gd⟩:=o
 simp only at hf
 cases op
 case alloc t=>
  obtain⟨h1,h2⟩:=ve hf
  refine⟨_,_,h1,h2,fun ρ a w rr=>?_⟩
  have hn:zw P t≠ .no:=fun e=>by rw[e]at h1;exact h1 rfl
  obtain⟨i,d,F⟩:=zW hn
  obtain⟨z,z1,z2,z3⟩:=F.zero
  refine⟨.cells z.cells t (0,0),z.cells.size,_,xg w (.cells z.cells t (0,0)),?_,rfl,rfl,rfl,rfl,af5 F (z2 ρ) h1 t,fun ρ' _ hp=>Kt ρ hp⟩
  unfold execOp
  simp only
  rw[rb (a:= .pointer (some ⟨w.heap.size,0,none⟩)) (w':=xg w (.cells z.cells t (0,0)))]
  ·rfl
  ·unfold Instr.alloc
   rw[rb (yc F.hi z1 w)];rfl
 case box t x=>
  have e:(qD P (.box t x)).f r h k=gp (ain (zw P t) ((zx x).f r)) h (.ptr h.n 0) k:=by simp only[qD,zl]
  rw[e]at hf
  obtain⟨h1,h2⟩:=ve hf
  refine⟨_,_,h1,h2,fun ρ a w rr=>?_⟩
  have hn:zw P t≠ .no:=fun e=>by rw[e]at h1;exact h1 rfl
  obtain⟨i,d,F⟩:=zW hn
  have hx:(zx x).f r≠ .un:=fun e=>by rw[e]at h1;exact h1 (aAI _)
  refine⟨.cells (a.eval x).cells t (0,0),(a.eval x).cells.size,_,xg w (.cells (a.eval x).cells t (0,0)),rfl,rfl,rfl,rfl,rfl,af5 F (zr rr x hx) h1 t,fun ρ' _ hp=>Kt ρ hp⟩
 case range t x=>
  have e:(qD P (.range t x)).f r h k=if Qc P t=true then JA ((zx x).f r) (fun l y=>gp (.si l y 0) h (.ptr h.n 0) k)else none:=by
   simp only[qD,zN]
   split<;>simp only[zl]
  rw[e]at hf
  by_cases hs:Qc P t=true
  ·rw[if_pos hs]at hf
   obtain⟨l,y,hl⟩:=Ys hf
   rw[hl]at hf
   obtain⟨h1,h2⟩:=ve (b:= .si l y 0) hf
   refine⟨_,_,h1,h2,fun ρ a w rr=>?_⟩
   obtain⟨s,hs1,hs2⟩:VR ρ (.str l y) (a.eval x):=hl▸zr rr x (by rw[hl];intro e;cases e)
   refine⟨.stringIter s 0,0,.pointer (some ⟨w.heap.size,0,none⟩),xg w (.stringIter s 0),?_,rfl,rfl,rfl,rfl,⟨s,rfl,hs2⟩,fun ρ' _ hp=>Kt ρ hp⟩
   unfold execOp
   simp only
   rw[rb (a:= .pointer (some ⟨w.heap.size,0,none⟩)) (w':=xg w (.stringIter s 0))]
   ·rfl
   ·unfold Instr.range
    rw[rb (zb (aaB hs) w),hs1]
    rfl
  ·rw[if_neg hs]at hf;cases hf
 case buildSlice t l ps=>
  unfold qD at hf
  simp only at hf
  split at hf
  ·next e he=>
   rw[zf,show l.mul (zw P e).cells=l*(zw P e).cells from rfl]at hf
   by_cases hb:l*(zw P e).cells≤16777216
   ·rw [if_pos hb]at hf
    simp only[zl]at hf
    obtain⟨h1,h2⟩:=ve hf
    refine⟨_,_,h1,h2,fun ρ a w rr=>?_⟩
    have hn:zw P e≠ .no:=fun q=>by rw[q,ahN,jO]at h1;exact h1 rfl
    obtain⟨i,d,F⟩:=zW hn
    obtain⟨z,z1,z2,z3⟩:=yJ F
    obtain⟨c',c1,c2⟩:=QG rr ps.toList _ _ (ahO F ρ l z1 e) h1
    have hsl:P.underlying t=some (.slice e):=xI he
    refine⟨_,l*(zw P e).cells,.slice (some ⟨w.heap.size,0,none⟩) l l,xg w (.cells c' e (0,0)),?_,rfl,rfl,rfl,rfl,c2,fun ρ' _ hp=>⟨_,_,hp,rfl,Nat.le_refl _⟩⟩
    unfold execOp
    simp only
    rw[rb (a:= .slice (some ⟨w.heap.size,0,none⟩) l l) (w':=xg w (.cells c' e (0,0)))]
    ·rfl
    ·unfold Instr.buildSlice
     rw[rb (zb hsl w)]
     simp only
     rw[rb (yk F.hi w),F.size]
     have hpl:(ps.map fun (i,x)=>(i,a.eval x)).toList=ps.toList.map fun (i,x)=>(i,a.eval x):=by simp
     have fin: ∀zz:Array Value,(Array.range (l*(zw P e).cells)).map (zz[· %zz.size]!)=zc z.cells (l*(zw P e).cells)→(match Instr.fill (fun i=>some (i*(zw P e).cells,(zw P e).cells)) ((Array.range (l*(zw P e).cells)).map (zz[· %zz.size]!)) (ps.map fun (i,x)=>(i,a.eval x)).toList with
       |some cells=>(do let r←newRow e cells;pure (Value.slice (some r) l l))
       |x=>stuck "buildSlice: a part of the wrong size" :Sem Value).run P w= .ok (.slice (some ⟨w.heap.size,0,none⟩) l l) (xg w (.cells c' e (0,0))):=fun zz hz=>by
      rw[hz,hpl,c1]
      simp only
      rw[rb (vV _ _ _)];rfl
     rw[if_neg (by omega)]
     split
     ·next q=>rw[rb (rp _ _)];exact fin #[] (by rw[q];simp[zc])
     ·rw[rb (yc F.hi z1 w),rb (rp _ _)];exact fin _ rfl
   ·rw[if_neg hb]at hf;cases hf
  ·cases hf
 case makeSlice t x y=>
  unfold qD at hf
  simp only at hf
  split at hf
  ·next e he=>
   simp only[zl]at hf
   obtain⟨jl,l,hl,hf,sl⟩:=vj hf
   obtain⟨jc,c,hc,hf,sc⟩:=vj hf
   rw[zf,zf]at hf
   by_cases hlc:l≤c
   ·rw[if_pos hlc]at hf
    by_cases hcb:c≤100000
    ·rw[if_pos hcb]at hf
     obtain⟨h1,h2⟩:=ve hf
     refine⟨_,_,h1,h2,fun ρ a w rr=>?_⟩
     have hn:zw P e≠ .no:=fun q=>by rw[q,ahN]at h1;exact h1 rfl
     obtain⟨i,d,F⟩:=zW hn
     obtain⟨z,z1,z2,z3⟩:=yJ F
     have hsl:P.underlying t=some (.slice e):=xI he
     have hx:VR ρ (.int jl l) (a.eval x):=hl▸zr rr x (by rw[hl];intro e;cases e)
     have hy:VR ρ (.int jc c) (a.eval y):=hc▸zr rr y (by rw[hc];intro e;cases e)
     obtain⟨ex,lx,_⟩:=zA.1 hx
     obtain⟨ey,ly,_⟩:=zA.1 hy
     rw[zR lx sl]at ex
     rw[zR ly sc]at ey
     refine⟨_,c*(zw P e).cells,.slice (some ⟨w.heap.size,0,none⟩) l c,xg w (.cells (zc z.cells (c*(zw P e).cells)) e (0,0)),?_,rfl,rfl,rfl,rfl,ahO F ρ c z1 e,fun ρ' _ hp=>⟨_,_,hp,rfl,hlc⟩⟩
     unfold execOp
     simp only
     rw[ex,ey]
     rw[rb (a:= .slice (some ⟨w.heap.size,0,none⟩) l c) (w':=xg w (.cells (zc z.cells (c*(zw P e).cells)) e (0,0)))]
     ·rfl
     ·exact aMF F hsl z1 hlc hcb _ _ w
    ·rw[if_neg hcb]at hf;cases hf
   ·rw[if_neg hlc]at hf;cases hf
  ·cases hf
 case convert s t x=>
  have e:(qD P (.convert s t x)).f r h k=if(if Qc P s=true then isB (xH P t) P else false)=true then JA ((zx x).f r) (fun l y=>gp (.by l y) h (.sf h.n 0 l 1) k)else none:=by
   simp only[qD,zN]
   by_cases hk:(if Qc P s=true then isB (xH P t) P else false)=true
   ·rw[if_pos hk,if_pos hk]
   ·rw[if_neg hk,if_neg hk]
  rw[e]at hf
  by_cases hs:Qc P s=true
  ·rw [if_pos hs]at hf
   by_cases hb:isB (xH P t) P=true
   ·rw [if_pos hb]at hf
    obtain⟨l,y,hl⟩:=Ys hf
    rw[hl]at hf
    obtain⟨h1,h2⟩:=ve (b:= .by l y) hf
    refine⟨_,_,h1,h2,fun ρ a w rr=>?_⟩
    obtain⟨b,hb1,hb2⟩:VR ρ (.str l y) (a.eval x):=hl▸zr rr x (by rw[hl];intro e;cases e)
    unfold isB at hb
    split at hb
    ·next el he=>
     have hz:=xC hb2
     obtain⟨ca,w',hr,h3,h4,h5,h6,h7⟩:=af9 (P:=P) el b w
     refine⟨_,ca,.slice (some ⟨w.heap.size,0,none⟩) b.size ca,w',?_,h4,h5,h6,h7,⟨_,_,_,rfl,?_,fun o ho=>?_,by omega,hb2.2,?_⟩,fun ρ' _ hp=>⟨_,_,ca,hp,by rw[hz],by omega,by omega,by omega⟩⟩
     ·unfold execOp
      simp only
      rw[rb (a:= .slice (some ⟨w.heap.size,0,none⟩) b.size ca) (w':=w')]
      ·rfl
      ·unfold Go.convert
       rw[rb (zb (aaB hs) w),rb (zb (xI he) w),hb1]
       simp only
       rw[rb (zb ((vN el).1 hb) w)]
       exact hr
     ·have:b.data.size=b.size:=rfl
      rw[Array.size_append,Array.size_map,Array.size_replicate];omega
     ·simp only[Bool.and_eq_false_iff,decide_eq_false_iff_not];omega
     ·have:(b.data.map fun c=>Value.int .u8 (c.toNat:Nat)).toList=byC l y:=by
       unfold byC
       rw[Array.toList_map,←hb2.1,List.map_map];rfl
      rw[Array.toList_append,this,List.take_append_of_le_length (by rw[zG];omega),List.take_of_length_le (by rw[zG];omega)]
    ·cases hb
   ·rw[if_neg hb]at hf;cases hf
  ·rw[if_neg hs]at hf;cases hf
 all_goals cases hf
end
end Kv
end
end
section
noncomputable section
namespace Kv
open Go.RowKit
variable {P:Program}
def ER (P:Program) (I:List Deferred→Prop) (o:Oper) (r:RG) (h:HP) (v:AV) (h':HP):Prop:= ∀ρ (a:Act) w next Q,RR ρ r a→HR ρ h w→I a.defers→
 (∀ρ' v' w' ds,Ext ρ h w ρ' h' w'→VR ρ' v v'→I ds→next (({ a with defers:=ds } :Act).put o.dst v') w')→o.wp P a w next Q
section
variable {ρ:Ren} {w:World} {h:HP} {r:RG} {a:Act} {I:List Deferred→Prop}
theorem ER.of_value {o:Oper} {v:AV} {h':HP} (e: ∀ρ (a:Act) w,RR ρ r a→HR ρ h w→ ∃ρ' v' w',(execOp a.eval o).run P w= .ok (.value v') w'∧Ext ρ h w ρ' h' w'∧VR ρ' v v'):ER P I o r h v h':=fun ρ a w next Q rr hr hI hn=>by
 obtain⟨ρ',v',w',h1,h2,h3⟩:=e ρ a w rr hr
 unfold Oper.wp
 rw[h1]
 exact hn ρ' v' w' a.defers h2 h3 hI
theorem ER.of_skip {o:Oper} {h':HP} (e: ∀ρ (a:Act) w,RR ρ r a→HR ρ h w→ ∃ρ' w',(execOp a.eval o).run P w= .ok .skip w'∧Ext ρ h w ρ' h' w'):ER P I o r h (.tup []) h':=fun ρ a w next Q rr hr hI hn=>by
 obtain⟨ρ',w',h1,h2⟩:=e ρ a w rr hr
 unfold Oper.wp
 rw[h1]
 exact hn ρ' undef w' a.defers h2 ⟨#[],rfl,rfl⟩ hI
theorem Yr {v:AV} {φ:Nat→Nat→R} {res:AV×HP} (e:Jz v φ=some res): ∃i o,v= .ptr i o∧φ i o=some res:=by cases v<;>first |exact⟨_,_,rfl,e⟩ | (cases e;done)
theorem Yc {b:Blk} {h:HP} {i:Nat} {v:AV} {k:K} {res:AV×HP} (e:gb b h i v k=some res):b≠ .dead∧k v (h.set i b)=some res:=by
 cases b<;>first | (cases e;done) |exact⟨(fun e=>by cases e),e⟩
theorem HR.obj (hr:HR ρ h w) {i g κ:Nat} (hi:ρ i=some (g,κ)): ∃ob,w.heap[g]? =some ob∧BR ρ κ (h.get i) ob:=(hr.at_ i g κ hi).2
theorem Ext.setB (hr:HR ρ h w) {i g κ:Nat} (hi:ρ i=some (g,κ)) (hl:h.get i≠ .dead) {o:Obj} {b:Blk} (hb:BR ρ κ b o):Ext ρ h w ρ (h.set i b) (setB w g o):=
 Ext.put (w':=Kv.setB w g o) hr hi hl rfl rfl rfl rfl hb
theorem aB2 {b:Blk} {o:Nat} {v:AV} (hd:st b o v≠ .dead):b≠ .dead:=fun e=>by subst e;exact hd rfl
theorem ajF (t:TypeId) (x y:Operand) (dst:Option Tmp) (ty:TypeId) (pos:String) (after:Array Edge) (gd:Option (Nat×Bool)) {k:K} {res:AV×HP}
  (hf:Jz ((zx x).f r) (fun i o=>if size ((zx y).f r)=(zw P t).cells then gb (st (h.get i) o ((zx y).f r)) h i (.tup []) k else none)=some res) (hc:(zw P t).cells≠0):
  ∃v h',k v h'=some res∧ER P I ⟨dst,.store t x y,ty,pos,after,gd⟩ r h v h':=by
 obtain⟨i,o,hx,hf⟩:=Yr hf
 by_cases hs:size ((zx y).f r)=(zw P t).cells
 ·rw[if_pos hs]at hf
  obtain⟨h1,h2⟩:=Yc hf
  refine⟨_,_,h2,ER.of_skip fun ρ a w rr hr=>?_⟩
  have hn:zw P t≠ .no:=fun e=>by rw[e]at hc;exact hc rfl
  obtain⟨it,d,F⟩:=zW hn
  obtain⟨g,κ,hi,ex⟩:VR ρ (.ptr i o) (a.eval x):=hx▸zr rr x (by rw[hx];intro e;cases e)
  have hu:(zx y).f r≠ .un:=fun e=>by rw[e]at h1;exact h1 (QG.st_un _ _)
  have hy:=zr rr y hu
  obtain⟨ob,ho,hB⟩:=hr.obj hi
  obtain⟨c,tid,fr,rfl,k2,k3,k4,k5,k6,k7⟩:=aM9 hB hy h1
  obtain⟨m1,m2,m3,m4⟩:=Xx hy k7
  refine⟨ρ,setB w g (.cells (jX c o (a.eval y).cells.toList) tid fr),?_,Ext.setB hr hi (aB2 h1) k6⟩
  have hrun:(Instr.storeAt t (a.eval x) (a.eval y)).run P w= .ok () (setB w g (.cells (jX c o (a.eval y).cells.toList) tid fr)):=by
   unfold Instr.storeAt
   rw[ex,rb (a:=(⟨g,o,none⟩:Addr)) (w':=w) rfl]
   unfold storeVar
   rw[rb (yk F.hi w),F.size]
   rw[Array.length_toList]at m2
   rw[if_neg (by omega)]
   exact yH k2 k3 _ w c o 0 ho k2 (by omega) k5
  unfold execOp
  simp only
  rw[rb hrun];rfl
 ·rw[if_neg hs]at hf;cases hf
theorem aaW {g:Nat} {s:ByteArray} {p:Nat} (h:w.heap[g]? =some (.stringIter s p)):(getObj g).run P w= .ok (.stringIter s p) w:=by
 unfold getObj
 simp only[Sem.run,h]
theorem ajl {g:Nat} {s:ByteArray} {p:Nat} {o:Obj} (h:w.heap[g]? =some (.stringIter s p)):(setObj g o).run P w= .ok () (setB w g o):=by
 unfold setObj
 simp only[Sem.run,h];rfl
theorem aCz {l x j:Nat} {s:ByteArray} (hs:SR l x s) (hj:j<l):(s.get! j).toNat=byt l x j:=by
 have hz:=xC hs
 have hlt:j<s.data.size:=by show j<s.size;omega
 have e3:(s.data.toList.map UInt8.toNat)[j]? =(bys l x)[j]? :=by rw[hs.1]
 rw[XX hj,List.getElem?_map,Array.getElem?_toList,Array.getElem?_eq_getElem hlt]at e3
 injection e3 with e3
 rw[←e3]
 show(s.data[j]!).toNat=_
 rw[getElem!_pos s.data j hlt]
theorem ai8 {i:Nat} (b:Blk) (x:Operand) (dst:Option Tmp) (ty:TypeId) (pos:String) (after:Array Edge) (gd:Option (Nat×Bool)) {k:K} {res:AV×HP}
  (hf:Jz ((zx x).f r) (fun i o=>if o=0 then ai7 (h.get i) h i k else none)=some res):
  ∃v h',k v h'=some res∧ER P I ⟨dst,.next x true,ty,pos,after,gd⟩ r h v h':=by
 obtain⟨i,o,hx,hf⟩:=Yr hf
 by_cases ho:o=0
 ·rw [if_pos ho]at hf
  subst ho
  cases hb:h.get i with
  |dead=>rw[hb]at hf;cases hf
  |row u n t=>rw[hb]at hf;cases hf
  | «by» l x=>rw[hb]at hf;cases hf
  | si l y p=>
   rw[hb]at hf
   have e:ai7 (.si l y p) h i k=if Nat.ble l p=true then k (.tup [.bl false]) h else if(if Nat.ble 128 (byt l y p)=true then true else Nat.ble 1000000000 p)=true then none else k (.tup [.bl true,.int 3 p,.int 2 (byt l y p)]) (h.set i (.si l y (p+1))):=by
    unfold ai7
    simp only[zN]
   rw[e]at hf
   have hop: ∀ρ (a:Act) w,RR ρ r a→HR ρ h w→ ∃g κ s,ρ i=some (g,κ)∧a.eval x= .pointer (some ⟨g,0,none⟩)∧w.heap[g]? =some (.stringIter s p)∧SR l y s:=fun ρ a w rr hr=>by
    obtain⟨g,κ,hi,ex⟩:VR ρ (.ptr i 0) (a.eval x):=hx▸zr rr x (by rw[hx];intro e;cases e)
    obtain⟨ob,ho,hB⟩:=hr.obj hi
    rw[hb]at hB
    obtain⟨s,e,hs⟩:=hB
    exact⟨g,κ,s,hi,ex,by rw[ho,e],hs⟩
   by_cases hl:Nat.ble l p=true
   ·rw[if_pos hl]at hf
    refine⟨_,_,hf,ER.of_value fun ρ a w rr hr=>?_⟩
    obtain⟨g,κ,s,hi,ex,hg,hs⟩:=hop ρ a w rr hr
    have hz:=xC hs
    have hlp:=(zy _ _).1 hl
    refine⟨ρ,.tuple #[.bool false],w,?_,Ext.refl hr,⟨_,rfl,_,_,rfl,rfl,rfl⟩⟩
    have hrun:(Instr.next (a.eval x) true ty).run P w= .ok (.tuple #[.bool false]) w:=by
     unfold Instr.next
     rw[ex]
     simp only
     rw[rb (a:=Obj.stringIter s p) (w':=w) (aaW hg)]
     simp only
     rw[if_neg (by omega)];rfl
    unfold execOp
    simp only
    rw[rb hrun];rfl
   ·rw [if_neg hl]at hf
    by_cases h8:(if Nat.ble 128 (byt l y p)=true then true else Nat.ble 1000000000 p)=true
    ·rw[if_pos h8]at hf;cases hf
    ·rw[if_neg h8]at hf
     have h9:byt l y p<128∧p<1000000000:=by
      by_cases h1:Nat.ble 128 (byt l y p)=true
      ·rw[if_pos h1]at h8;exact absurd rfl h8
      ·rw[if_neg h1]at h8
       rw[zy]at h1 h8
       omega
     have hlp:p<l:=Nat.lt_of_not_le fun k=>hl ((zy _ _).2 k)
     refine⟨_,_,hf,ER.of_value fun ρ a w rr hr=>?_⟩
     obtain⟨g,κ,s,hi,ex,hg,hs⟩:=hop ρ a w rr hr
     have hz:=xC hs
     have hdec:Utf8.decode s p=(byt l y p,1):=by
      have h0:(s.get! p).toNat=byt l y p:=aCz hs hlp
      unfold Utf8.decode
      simp only[Nat.add_zero,h0]
      rw[if_pos h9.1]
     refine⟨ρ,.tuple #[.bool true,goInt p,.int .i32 (byt l y p:Nat)],setB w g (.stringIter s (p+1)),?_,Ext.setB hr hi (by rw[hb];intro e;cases e) (b:= .si l y (p+1)) ⟨s,rfl,hs⟩,⟨_,rfl,_,_,rfl,rfl,_,_,rfl,?_,_,_,rfl,?_,rfl⟩⟩
     ·have hrun:(Instr.next (a.eval x) true ty).run P w= .ok (.tuple #[.bool true,goInt p,.int .i32 (byt l y p:Nat)]) (setB w g (.stringIter s (p+1))):=by
       unfold Instr.next
       rw[ex]
       simp only
       rw[rb (a:=Obj.stringIter s p) (w':=w) (aaW hg)]
       simp only
       rw[if_pos (by omega),hdec]
       simp only
       rw[rb (a:=()) (w':=setB w g (.stringIter s (p+1))) (ajl hg)];rfl
      unfold execOp
      simp only
      rw[rb hrun];rfl
     ·have e:JT p= .int 3 p:=by
       show @Bool.rec (fun _=>AV) .un (.int 3 p) (Nat.ble p 1000000000)=_
       rw[zf,if_pos (by omega)]
      have:=vg (ρ:=ρ) (n:=p) (by rw[e];intro h;cases h)
      rwa[e]at this
     ·have h1:byt l y p<mdN 2:=Nat.lt_of_lt_of_le h9.1 (by decide)
      refine zA.2 ⟨?_,h1,by omega⟩
      rw[zR h1 (fun _=>Nat.lt_of_lt_of_le h9.1 (by decide))];rfl
 ·rw[if_neg ho]at hf;cases hf
end
end Kv
end
end
section
noncomputable section
namespace Kv
open Go.RowKit
variable {P:Program}
section
variable {ρ:Ren} {κ:Nat} {tid:TypeId} {fr:Nat×Nat}
theorem BR.row_at {u n:Nat} {t:RT AV} {c:Array Value} (hB:BR ρ κ (.row u n t) (.cells c tid fr)):c.size=κ∧0<u∧u*n≤κ∧ ∀i,i<n→UR ρ u (t.get i) (yx c.toList u i):=by
 obtain⟨c',tid',fr',e,h1,h2,h3,h4,_,h6⟩:=hB
 injection e with e1 e2 e3
 subst e1
 exact⟨h1,h3,h4,h6⟩
theorem YD (c:Array Value) (o:Nat) (v w:List Value) (h:o+v.length+w.length≤c.size):jX (jX c o v) (o+v.length) w=jX c o (v++w):=by
 apply Array.ext'
 rw[jx,jx,jx]
 apply List.ext_getElem?
 intro i
 have hl:c.toList.length=c.size:=Array.length_toList
 have hl2:(qx c.toList o v).length=c.size:=by rw[vr (by omega),hl]
 rw[xZ (by omega),xZ (by omega),xZ (by rw[List.length_append];omega),List.length_append]
 by_cases h1:i<o
 ·rw[if_pos (by omega),if_pos h1,if_pos h1]
 ·by_cases h2:i<o+v.length
  ·rw[if_pos h2,if_neg h1,if_pos h2,if_neg h1,if_pos (by omega),List.getElem?_append_left (by omega)]
  ·by_cases h3:i<o+v.length+w.length
   ·rw[if_neg h2,if_pos h3,if_neg h1,if_pos (by omega),List.getElem?_append_right (by omega)]
    congr 1;omega
   ·rw[if_neg h2,if_neg h3,if_neg h1,if_neg h2,if_neg h1,if_neg (by omega)]
theorem aNF (c:Array Value) {u i j:Nat} {o:Nat} (ho:o / u=i) (hj:o%u=j):o=i*u+j:=by
 subst ho;subst hj;exact(Nat.div_add_mod' o u).symm
theorem aCD {u l x j n y:Nat} {cs:List Value} (h:UR ρ u (.ba l x) cs) (hj:j+n≤l) (hy:y<256^n):l=u∧UR ρ u (.ba l (spb l x j n y)) (qx cs j (byC n y)):=by
 have hla:=VRs.length _ _ h.vs
 have hl:l=u:=by
  rw[←h.len,←hla]
  show l=(xE l x).length
  rw[yw,List.length_map,zo]
 subst hl
 have hc:=yL h.vs
 subst hc
 have hs:byC l (spb l x j n y)=qx (byC l x) j (byC n y):=by
  unfold byC qx
  rw[V0 hj hy]
  simp only[List.map_append,List.map_take,List.map_drop,List.length_map,zo]
 refine⟨rfl,?_⟩
 rw[←hs]
 exact aiw (ah8 hj hy)
theorem aaf {u m o n:Nat} {t:RT AV} {l:List AV} {c:Array Value} {vs:List Value} (hB:BR ρ κ (.row u m t) (.cells c tid fr)) (hv:VRs ρ l vs) (hs:l.all sca=true) (hn:vs.length=n) (hd:yZ.cells o n u m t l≠ .dead):
  o+vs.length≤κ∧BR ρ κ (yZ.cells o n u m t l) (.cells (jX c o vs) tid fr):=by
 obtain⟨h1,h2,h3,h4⟩:=hB.row_at
 have e:yZ.cells o n u m t l=if m≤o / u then .dead else(match t.get (o / u)with
  | .agg a=>if o%u+n≤a.length then .row u m (t.set (o / u) (.agg (qx a (o%u) l)))else .dead
  |_=> .dead):=by
  unfold yZ.cells
  rw[zf,show o.div u=o / u from rfl]
  by_cases h:m≤o / u
  ·rw[if_pos h,if_pos h]
  ·rw[if_neg h,if_neg h]
   generalize t.get (o / u)=z
   cases z<;>first |rfl| (simp only;rw[zf,xU,QF];rfl)
 rw[e]at hd⊢
 by_cases hm:m≤o / u
 ·rw[if_pos hm]at hd;exact absurd rfl hd
 ·rw [if_neg hm]at hd⊢
  have hU:=h4 (o / u) (by omega)
  split at hd
  ·next a ha=>
   rw[ha]at hU
   by_cases hj:o%u+n≤a.length
   ·rw[if_pos hj]at hd⊢
    have hal:a.length=u:=by rw[←hU.len];exact VRs.length _ _ hU.vs
    have hUn:UR ρ u (.agg (qx a (o%u) l)) (qx (yx c.toList u (o / u)) (o%u) vs):=by
     have hll:=VRs.length _ _ hv
     have hsp:(qx a (o%u) l).length=u:=by rw[vr (by omega),hal]
     have:=QN (ρ:=ρ) (VRs.spl (o:=o%u) hU.vs hv) (j0 (o:=o%u) hU.sc hs)
     change UR ρ (qx a (o%u) l).length _ _ at this
     rwa[hsp]at this
    have hR:=Yz hB (by omega) (by omega) hUn
    rw[Nat.div_add_mod']at hR
    refine⟨?_,hR⟩
    have hm1:(o / u+1)*u≤m*u:=Nat.mul_le_mul_right _ (by omega)
    rw[Nat.add_mul,Nat.mul_comm m]at hm1
    have:=Nat.div_add_mod' o u
    omega
   ·rw[if_neg hj]at hd;exact absurd rfl hd
  ·exact absurd rfl hd
theorem X2 (s:RT AV) (n i k:Nat) (t:RT AV):cpU s (n+1) i k t=cpU s n (i+1) (k+1) (t.set k (s.get i)):=rfl
theorem anP {u m:Nat} {s:RT AV} : ∀(n i k:Nat) (t:RT AV) (c:Array Value) (vs:List Value),BR ρ κ (.row u m t) (.cells c tid fr)→vs.length=u*n→k+n≤m→(∀j,j<n→UR ρ u (s.get (i+j)) (yx vs u j))→
  BR ρ κ (.row u m (cpU s n i k t)) (.cells (jX c (k*u) vs) tid fr)
 |0,i,k,t,c,vs,hB,hl,hk,hU=>by
  have:vs=[]:=List.length_eq_zero_iff.1 (by simpa using hl)
  subst this
  rw[Zt];exact hB
 | n+1,i,k,t,c,vs,hB,hl,hk,hU=>by
  obtain⟨h1,h2,h3,h4⟩:=hB.row_at
  rw[X2]
  have hl':vs.length=u*n+u:=by rw[hl,Nat.mul_succ]
  have h0:=hU 0 (by omega)
  have hc0:yx vs u 0=vs.take u:=by simp[yx]
  rw[hc0,Nat.add_zero]at h0
  have hlt:(vs.take u).length=u:=by rw[List.length_take];omega
  have hck:(yx c.toList u k).length=u:=jk (n:=m) (by omega) (by rw[Array.length_toList,h1];exact h3)
  have hR:=Yz (j:=0) (vs:=vs.take u) hB (show k<m by omega) (by omega) (by rw[Zu (by omega)];exact h0)
  rw[Nat.add_zero]at hR
  have hI:=anP n (i+1) (k+1) _ _ (vs.drop u) hR (by rw[List.length_drop];omega) (by omega) (fun j hj=>by
   have:=hU (j+1) (by omega)
   have e:yx (vs.drop u) u j=yx vs u (j+1):=by
    unfold yx
    rw[List.drop_drop,Nat.add_mul,Nat.one_mul,Nat.add_comm]
   rw[e,show i+1+j=i+(j+1)by omega];exact this)
  have hmk:(k+(n+1))*u≤m*u:=Nat.mul_le_mul_right _ hk
  rw[Nat.add_mul,Nat.add_mul,Nat.mul_comm m,Nat.mul_comm n]at hmk
  have e2:=YD c (k*u) (vs.take u) (vs.drop u) (by rw[hlt,List.length_drop];omega)
  rw[hlt,List.take_append_drop]at e2
  rw[show(k+1)*u=k*u+u by rw[Nat.add_mul,Nat.one_mul],e2]at hI
  exact hI
theorem ahy {m:Nat} : ∀(l:List AV) (k:Nat) (t:RT AV) (c:Array Value) (vs:List Value),BR ρ κ (.row 1 m t) (.cells c tid fr)→VRs ρ l vs→l.all sca=true→k+l.length≤m→
  BR ρ κ (.row 1 m (aNA l k t)) (.cells (jX c k vs) tid fr)
 | [],k,t,c,vs,hB,hv,_,_=>by
  have hv:vs=[]:=hv
  subst hv
  rw[Zt];exact hB
 |a::l,k,t,c,vs,hB,hv,hs,hk=>by
  obtain⟨h1,h2,h3,h4⟩:=hB.row_at
  obtain⟨x,y,rfl,hx,hy⟩:=hv
  rw[List.all_cons,Bool.and_eq_true]at hs
  have hk':k+(l.length+1)≤m:=hk
  have hll:=VRs.length _ _ hy
  have hck:(yx c.toList 1 k).length=1:=jk (n:=m) (by omega) (by rw[Array.length_toList,h1];exact h3)
  have hR:=Yz (j:=0) (vs:=[x]) hB (show k<m by omega) (by simp) (by rw[Zu (by rw[hck];rfl)];exact KJ hx hs.1)
  rw[Nat.mul_one,Nat.add_zero]at hR
  have hI:=ahy l (k+1) _ _ y hR hy hs.2 (by omega)
  have e2:=YD c k [x] y (by simp;omega)
  rw[show(k+1)=k+[x].length from rfl,e2]at hI
  exact hI
theorem an3 {s:RT AV} : ∀(n i:Nat) (vs:List Value),vs.length=n→(∀k,k<n→UR ρ 1 (s.get (i+k)) (yx vs 1 k))→(lsU s n i).all sca=true→VRs ρ (lsU s n i) vs
 |0,i,vs,hl,_,_=>by
  have:vs=[]:=List.length_eq_zero_iff.1 hl
  subst this
  rfl
 | n+1,i,vs,hl,hU,hs=>by
  have hs:(s.get i::lsU s n (i+1)).all sca=true:=hs
  rw[List.all_cons,Bool.and_eq_true]at hs
  cases vs with
  |nil=>cases hl
  | cons v vs=>
   have h0:=hU 0 (by omega)
   have hc0:yx (v::vs) 1 0=[v]:=by simp[yx]
   rw[hc0,Nat.add_zero]at h0
   have m1:=an3 n (i+1) vs (by simpa using hl) (fun k hk=>by
    have:=hU (k+1) (by omega)
    have e:yx (v::vs) 1 (k+1)=yx vs 1 k:=by simp[yx]
    rw[e]at this
    rw[show i+1+k=i+(k+1)by omega];exact this) hs.2
   have h9:=h0.vs
   rw[jN hs.1]at h9
   obtain⟨x,y,e,n1,_⟩:=h9
   injection e with e1 e2
   subst e1
   exact⟨v,vs,rfl,n1,m1⟩
theorem kL {blk:Blk} {o n c:Nat} {s:Src} {cs:Array Value} {vs:List Value} (hB:BR ρ κ blk (.cells cs tid fr)) (hs:Xw ρ n c s vs) (hd:yZ blk o n c s≠ .dead):
  o+vs.length≤κ∧BR ρ κ (yZ blk o n c s) (.cells (jX cs o vs) tid fr):=by
 have hlen:=hs.length
 cases blk with
 |dead=>exact absurd rfl hd
 |si l x p=>exact absurd rfl hd
 | «by» l x=>
  cases s with
  | b m y=>
   obtain⟨rfl,rfl,rfl,hy⟩:=hs
   have e:yZ (.by l x) o m 1 (.b m y)=if o+m≤l then .by l (spb l x o m y)else .dead:=zf _ _ _ _
   rw[e]at hd⊢
   by_cases h:o+m≤l
   ·rw[if_pos h]
    obtain⟨c',tid',fr',e,h1,h2,h3,h4,h5⟩:=hB
    exact⟨by rw[zG];omega,af6 ⟨c',tid',fr',e,h1,h2,h3,h4,h5⟩ h hy⟩
   ·rw[if_neg h]at hd;exact absurd rfl hd
  |bad=>exact absurd rfl hd
  |t s i=>exact absurd rfl hd
  |c l=>exact absurd rfl hd
 | row u m t=>
  obtain⟨h1,h2,h3,h4⟩:=hB.row_at
  have hdm:=Nat.div_add_mod' o u
  have JU: ∀q,o / u+q≤m→o / u*u+q*u≤κ:=fun q hq=>by
   have:=Nat.mul_le_mul_right u hq
   rw[Nat.add_mul,Nat.mul_comm m]at this
   omega
  cases s with
  |bad=>exact absurd rfl hd
  | b k y=>
   obtain⟨rfl,rfl,rfl,hy⟩:=hs
   have e:yZ (.row u m t) o k 1 (.b k y)=if m≤o / u then .dead else(match t.get (o / u)with
    | .ba l x=>if o%u+k≤l then .row u m (t.set (o / u) (.ba l (spb l x (o%u) k y)))else .dead
    |_=> .dead):=by
    show @Bool.rec (fun _=>Blk) _ _ _=_
    rw[zf,show o.div u=o / u from rfl]
    by_cases h:m≤o / u
    ·rw[if_pos h,if_pos h]
    ·rw[if_neg h,if_neg h]
     generalize t.get (o / u)=z
     cases z<;>first |rfl| (simp only;rw[zf];rfl)
   rw[e]at hd⊢
   by_cases hm:m≤o / u
   ·rw[if_pos hm]at hd;exact absurd rfl hd
   ·rw[if_neg hm]at hd⊢
    have hU:=h4 (o / u) (by omega)
    split at hd
    ·next l x hg=>
     rw[hg]at hU
     by_cases hj:o%u+k≤l
     ·rw[if_pos hj]at hd⊢
      obtain⟨rfl,hU'⟩:=aCD hU hj hy
      have hR:=Yz hB (by omega) (by rw[zG];omega) hU'
      rw[hdm]at hR
      have:=JU 1 (by omega)
      exact⟨by rw[zG];omega,hR⟩
     ·rw[if_neg hj]at hd;exact absurd rfl hd
    ·exact absurd rfl hd
  | t s i=>
   obtain⟨hc,hl,hU⟩:=hs
   have e:yZ (.row u m t) o n c (.t s i)=if u=c then(if o / u+n≤m then(if o%u=0 then .row u m (cpU s n i (o / u) t)else .dead)else .dead)else(if c=1 then(if(lsU s n i).all sca=true then yZ.cells o n u m t (lsU s n i)else .dead)else .dead):=by
    show @Bool.rec (fun _=>Blk) _ _ _=_
    rw[zg,zf,zg,zg,zN,vD];rfl
   rw[e]at hd⊢
   by_cases huc:u=c
   ·subst huc
    rw[if_pos rfl]at hd⊢
    by_cases hm:o / u+n≤m
    ·rw[if_pos hm]at hd⊢
     by_cases h0:o%u=0
     ·rw[if_pos h0]
      have hR:=anP n i (o / u) t cs vs hB hl hm hU
      rw[show o / u*u=o by omega]at hR
      have:=JU n hm
      exact⟨by rw[hl,Nat.mul_comm u];omega,hR⟩
     ·rw[if_neg h0]at hd;exact absurd rfl hd
    ·rw[if_neg hm]at hd;exact absurd rfl hd
   ·rw[if_neg huc]at hd⊢
    by_cases hc1:c=1
    ·rw[if_pos hc1]at hd⊢
     subst hc1
     by_cases k2:(lsU s n i).all sca=true
     ·rw[if_pos k2]at hd⊢
      exact aaf hB (an3 n i vs (by omega) hU k2) k2 (by omega) hd
     ·rw[if_neg k2]at hd;exact absurd rfl hd
    ·rw[if_neg hc1]at hd;exact absurd rfl hd
  | c l=>
   obtain⟨k1,k2,k3,k4⟩:=hs
   have e:yZ (.row u m t) o n c (.c l)=if c=1 then(if u=1 then(if o+n≤m then .row u m (aNA l o t)else .dead)else yZ.cells o n u m t l)else .dead:=by
    show @Bool.rec (fun _=>Blk) _ _ _=_
    rw[zg,zg,zf];rfl
   rw[e]at hd⊢
   by_cases hc1:c=1
   ·rw[if_pos hc1]at hd⊢
    subst hc1
    have hll:=VRs.length _ _ k1
    by_cases hu1:u=1
    ·rw[if_pos hu1]at hd⊢
     subst hu1
     by_cases hm:o+n≤m
     ·rw[if_pos hm]
      exact⟨by omega,ahy l o t cs vs hB k1 k2 (by omega)⟩
     ·rw[if_neg hm]at hd;exact absurd rfl hd
    ·rw[if_neg hu1]at hd⊢
     exact aaf hB k1 k2 (by omega) hd
   ·rw[if_neg hc1]at hd;exact absurd rfl hd
end
end Kv
end
end
section
noncomputable section
namespace Kv
open Go.RowKit
variable {P:Program}
section
variable {ρ:Ren} {w:World} {h:HP} {r:RG} {a:Act} {I:List Deferred→Prop}
theorem qH {v:AV} {φ:Nat→R} {res:AV×HP} (e:Zc v φ=some res): ∃l,ag9 v=some l∧φ l=some res:=by
 obtain⟨l,h1,h2⟩:=ahq (v:=v) (φ:=φ) (by rw[e];intro h;cases h)
 exact⟨l,h1,by rw[←h2];exact e⟩
theorem aaJ {v:AV} {φ:Nat→Nat→Nat→R} {res:AV×HP} (e:aBB v φ=some res): ∃i o l,ag9 v=some l∧φ i o l=some res∧ ∀ρ' v',VR ρ' v v'→ ∃g κ c,ρ' i=some (g,κ)∧v'= .slice (some ⟨g,o,none⟩) l c:=by
 cases v<;>first
  | (cases e;done)
  |exact⟨_,_,_,rfl,e,fun ρ' v' h=>by obtain⟨b,κ,h1,h2,_⟩:=h;exact⟨b,κ,_,h1,h2⟩⟩
  |exact⟨_,_,_,rfl,e,fun ρ' v' h=>by obtain⟨b,κ,c,h1,h2,_⟩:=h;exact⟨b,κ,c,h1,h2⟩⟩
theorem abc {z:Array Value} (n:Nat) (h:z.toList=[Value.int .u8 (0:Nat)]):(zc z n).toList=byC n 0:=by
 have hs:z.size=1:=by rw[←Array.length_toList,h];rfl
 unfold byC
 rw[aNm,List.map_replicate,List.eq_replicate_iff]
 have hl:(zc z n).toList.length=n:=by rw[Array.length_toList,yY]
 refine⟨hl,fun b hb=>?_⟩
 obtain⟨k,hk⟩:=List.getElem?_of_mem hb
 have hkl:=(List.getElem?_eq_some_iff.1 hk).1
 rw[JS _ _ (by omega) (by omega),h,hs,Nat.mod_one]at hk
 injection hk with hk
 exact hk.symm
theorem BR.cells_of {κ:Nat} {b:Blk} {ob:Obj} (hB:BR ρ κ b ob) (hd:b≠ .dead) (hs: ∀l y p,b≠ .si l y p): ∃cs tid fr,ob= .cells cs tid fr∧cs.size=κ∧NF fr κ:=by
 cases b with
 |dead=>exact absurd rfl hd
 |si l y p=>exact absurd rfl (hs l y p)
 |row u n t=>obtain⟨c,ty,fr,e,h1,h2,_⟩:=hB;exact⟨c,ty,fr,e,h1,h2.nf⟩
 | «by» l x=>obtain⟨c,ty,fr,e,h1,h2,_⟩:=hB;exact⟨c,ty,fr,e,h1,h2⟩
theorem KH {t:TypeId} {i:TypeInfo} {d:TypeDesc} {ty:Ty} (F:TyF P t i d ty) (ρ:Ren) (n:Nat) {z:Value} (hz:i.zero=some z):Xw ρ n ty.cells (aNe ty n) (zc z.cells (n*ty.cells)).toList:=by
 obtain⟨z',e,hs,hu⟩:=yJ F
 rw[hz]at e;injection e with e;subst e
 unfold aNe
 rw[zN]
 by_cases h8:yh ty=true
 ·rw[if_pos h8]
  have hty:=qF h8
  subst hty
  have h1:z.cells.toList=[Value.int .u8 (0:Nat)]:=by
   obtain⟨x,y,e1,e2,e3⟩:=(hu ρ).vs
   have e3:y=[]:=e3
   rw[e1,e3,(zA.1 e2).1];rfl
  have hc:(Ty.sc (.int 4 0)).cells=1:=rfl
  rw[hc,Nat.mul_one]
  exact⟨rfl,rfl,abc n h1,Nat.pow_pos (by omega)⟩
 ·rw[if_neg h8]
  refine⟨F.pos,by rw[Array.length_toList,yY,Nat.mul_comm],fun k hk=>?_⟩
  rw[RT.mk_get]
  have:=QI z.cells (by have:=F.pos;omega) n k hk
  rw[hs]at this
  unfold yx
  rw[this];exact hu ρ
theorem xh (z:Array Value) (n:Nat):Builtin.zeroCells z n=zc z (n*z.size):=rfl
theorem aiF {t e:TypeId} (he:xH P t=some e) (x:Operand) (ts:List TypeId) (dst:Option Tmp) (ty:TypeId) (pos:String) (after:Array Edge) (gd:Option (Nat×Bool)) {k:K} {res:AV×HP}
  (hf:(agf (zw P e)).f ((zx x).f r) h k=some res):
  ∃v h',k v h'=some res∧ER P I ⟨dst,.call ⟨.builtin .clear,⟨[x]⟩,⟨t::ts⟩⟩,ty,pos,after,gd⟩ r h v h':=by
 unfold agf at hf
 rw[zg]at hf
 by_cases hc:(zw P e).cells=0
 ·rw[if_pos hc]at hf;cases hf
 ·rw [if_neg hc]at hf
  simp only[zN]at hf
  by_cases hns:ai9 ((zx x).f r)=true
  ·rw[if_pos hns]at hf
   obtain⟨n,hl,hf⟩:=qH hf
   have hn:zw P e≠ .no:=fun e=>by rw[e]at hc;exact hc rfl
   obtain⟨it,d,F⟩:=zW hn
   obtain⟨z,z1,z2,z3⟩:=yJ F
   have hx:(zx x).f r≠ .un:=fun e=>by rw[e]at hl;cases hl
   by_cases hn0:Nat.beq n 0=true
   ·rw[if_pos hn0]at hf
    have hn0:=(zu _ _).1 hn0
    subst hn0
    refine⟨_,_,hf,ER.of_value fun ρ a w rr hr=>⟨ρ,.tuple #[],w,?_,Ext.refl hr,⟨_,rfl,rfl⟩⟩⟩
    obtain⟨b,c,ev⟩:=vB (zr rr x hx) hl (fun l y e=>by rw[e]at hns;cases hns)
    rw[k9]
    have hrun:(Builtin.clear_ ⟨t::ts⟩ ty ⟨[a.eval x]⟩).run P w= .ok (.tuple #[]) w:=by
     unfold Builtin.clear_
     show((underlying t)>>=_).run P w=_
     rw[rb (zb (xI he) w),ev]
     cases b<;>rfl
    show((do pure (Next.value (←Builtin.clear_ ⟨t::ts⟩ ty ⟨[a.eval x]⟩)):Sem Next)).run P w=_
    rw[rb hrun];rfl
   ·rw[if_neg hn0]at hf
    obtain⟨i,o,l,hl2,hf,hv⟩:=aaJ hf
    obtain⟨h1,h2⟩:=Yc hf
    refine⟨_,_,h2,ER.of_value fun ρ a w rr hr=>?_⟩
    obtain⟨g,κ,c,hi,ev⟩:=hv ρ _ (zr rr x hx)
    have hln:l=n:=by rw[hl]at hl2;injection hl2 with q;exact q.symm
    subst hln
    obtain⟨ob,ho,hB⟩:=hr.obj hi
    have hlive:h.get i≠ .dead:=fun q=>by rw[q]at h1;exact h1 rfl
    obtain⟨cs,tid,fr,rfl,k1,k2⟩:=hB.cells_of hlive (fun l y p q=>by rw[q]at h1;exact h1 rfl)
    obtain⟨m1,m2⟩:=kL hB (KH F ρ l z1) h1
    refine⟨ρ,.tuple #[],setB w g (.cells (jX cs o (zc z.cells (l*(zw P e).cells)).toList) tid fr),?_,Ext.setB hr hi hlive m2,⟨_,rfl,rfl⟩⟩
    rw[k9]
    have hrun:(Builtin.clear_ ⟨t::ts⟩ ty ⟨[a.eval x]⟩).run P w= .ok (.tuple #[]) (setB w g (.cells (jX cs o (zc z.cells (l*(zw P e).cells)).toList) tid fr)):=by
     unfold Builtin.clear_
     show((underlying t)>>=_).run P w=_
     have hl0:l≠0:=fun q=>hn0 ((zu _ _).2 q)
     obtain⟨l',rfl⟩: ∃l',l=l'+1:=⟨l-1,by omega⟩
     rw[rb (zb (xI he) w),ev]
     show((zeroValue e)>>=fun z=>(storeCells ⟨g,o,none⟩ (Builtin.zeroCells z.cells (l'+1)).toList)>>=fun _=>pure (Value.tuple #[])).run P w=_
     rw[rb (yc F.hi z1 w),xh,z2]
     rw[rb (yH k1 k2 _ w cs o 0 ho k1 (by omega) (KH F ρ _ z1).one)]
     rfl
    show((do pure (Next.value (←Builtin.clear_ ⟨t::ts⟩ ty ⟨[a.eval x]⟩)):Sem Next)).run P w=_
    rw[rb hrun];rfl
  ·rw[if_neg hns]at hf;cases hf
theorem Zo (b:Blk) (o n c:Nat):yZ b o n c .bad= .dead:=by cases b<;>rfl
theorem agM {v:AV} {v':Value} {l c:Nat} (hv:VR ρ v v') (hl:ag9 v=some l):(Builtin.firstCells c 0 v').run P w= .ok #[] w:=by
 have hs: ∀b k m,v'= .slice b k m→(Builtin.firstCells c 0 v').run P w= .ok #[] w:=fun b k m e=>by
  subst e
  cases b with
  |none=>rfl
  |some a=>
   unfold Builtin.firstCells
   simp only
   rw[Nat.zero_mul];rfl
 by_cases hstr: ∃l x,v= .str l x
 ·obtain⟨l',x,rfl⟩:=hstr
  obtain⟨s,rfl,h⟩:=hv
  unfold Builtin.firstCells
  simp only
  rw[rp]
  congr 1
  simp
 ·obtain⟨b,k,e⟩:=vB hv hl (fun l x e=>hstr ⟨l,x,e⟩)
  exact hs _ _ _ e
theorem aAQ {t e:TypeId} (he:xH P t=some e) (x y:Operand) (ts:List TypeId) (dst:Option Tmp) (ty:TypeId) (pos:String) (after:Array Edge) (gd:Option (Nat×Bool)) {k:K} {res:AV×HP}
  (hf:(aAP (zw P e)).f ((zx x).f r) ((zx y).f r) h k=some res):
  ∃v h',k v h'=some res∧ER P I ⟨dst,.call ⟨.builtin .copy,⟨[x,y]⟩,⟨t::ts⟩⟩,ty,pos,after,gd⟩ r h v h':=by
 unfold aAP at hf
 rw[zg]at hf
 by_cases hc:(zw P e).cells=0
 ·rw[if_pos hc]at hf;cases hf
 ·rw [if_neg hc]at hf
  simp only[zN]at hf
  by_cases hns:ai9 ((zx x).f r)=true
  ·rw [if_pos hns]at hf
   by_cases hys:ahp ((zx y).f r) (zw P e).cells=true
   ·rw [if_pos hys]at hf
    obtain⟨m,hlx,hf⟩:=qH hf
    obtain⟨n,hly,hf⟩:=qH hf
    have hn:zw P e≠ .no:=fun e=>by rw[e]at hc;exact hc rfl
    obtain⟨it,d,F⟩:=zW hn
    have hx:(zx x).f r≠ .un:=fun e=>by rw[e]at hlx;cases hlx
    have hy:(zx y).f r≠ .un:=fun e=>by rw[e]at hly;cases hly
    have hmin:Nat.min n m=if Nat.ble m n=true then m else n:=by
     show min n m=_
     by_cases q:Nat.ble m n=true
     ·rw[if_pos q];have:=(zy _ _).1 q;omega
     ·rw[if_neg q];have: ¬m≤n:=fun z=>q ((zy _ _).2 z);omega
    rw[←hmin]at hf
    have hmn:Nat.min n m≤n:=Nat.min_le_left _ _
    have hmm:Nat.min n m≤m:=Nat.min_le_right _ _
    generalize hq:Nat.min n m=q at *
    have hstr: ∀l z,(zx y).f r= .str l z→(zw P e).cells=1:=fun l z ey=>by rw[ey]at hys;exact(zu _ _).1 hys
    have h8:yh (zw P e)=true→(zw P e).cells=1:=fun h=>by rw[qF h];rfl
    have fin: ∀(a:Act) (w w':World) (b:Option Addr) (c:Nat) (cells:Array Value),a.eval x= .slice b m c→(Builtin.lenOf (a.eval y)).run P w= .ok n w→(Builtin.firstCells (zw P e).cells q (a.eval y)).run P w= .ok cells w→
      (match b with |some a=>storeCells a cells.toList|none=>pure ():Sem Unit).run P w= .ok () w'→(execOp a.eval ⟨dst,.call ⟨.builtin .copy,⟨[x,y]⟩,⟨t::ts⟩⟩,ty,pos,after,gd⟩).run P w= .ok (.value (goInt (q:Nat))) w':=fun a w w' b c cells ex hlen hfc hst=>by
     rw[k9]
     have hrun:(Builtin.copy_ ⟨t::ts⟩ ty ⟨[a.eval x,a.eval y]⟩).run P w= .ok (goInt (q:Nat)) w':=by
      unfold Builtin.copy_
      show((underlying t)>>=_).run P w=_
      rw[rb (zb (xI he) w),ex]
      show((Builtin.lenOf (a.eval y))>>=_).run P w=_
      rw[rb hlen]
      show((sizeOf e)>>=_).run P w=_
      rw[rb (yk F.hi w),F.size,show Nat.min n m=q from hq]
      show((Builtin.firstCells (zw P e).cells q (a.eval y))>>=_).run P w=_
      rw[rb hfc]
      cases b with
      |none=>injection hst with _ h;subst h;rfl
      |some ad=>
       show((storeCells ad cells.toList)>>=_).run P w=_
       rw[rb hst];rfl
     show((do pure (Next.value (←Builtin.copy_ ⟨t::ts⟩ ty ⟨[a.eval x,a.eval y]⟩)):Sem Next)).run P w=_
     rw[rb hrun];rfl
    by_cases hq0:Nat.beq q 0=true
    ·rw[if_pos hq0]at hf
     have hq0:=(zu _ _).1 hq0
     refine⟨_,_,hf,ER.of_value fun ρ a w rr hr=>⟨ρ,goInt (q:Nat),w,?_,Ext.refl hr,?_⟩⟩
     ·obtain⟨b,c,ev⟩:=vB (zr rr x hx) hlx (fun l y e=>by rw[e]at hns;cases hns)
      refine fin a w w b c #[] ev (YS (zr rr y hy) hly w) ?_ ?_
      ·rw[hq0];exact agM (zr rr y hy) hly
      ·cases b<;>rfl
     ·rw[hq0];exact vg (ρ:=ρ) (n:=0) (by intro h;cases h)
    ·rw [if_neg hq0]at hf
     obtain⟨i,o,l,hl2,hf,hv⟩:=aaJ hf
     by_cases hqb:Nat.ble q 1000000000=true
     ·rw[if_pos hqb]at hf
      have hqb:=(zy _ _).1 hqb
      obtain⟨h1,h2⟩:=Yc hf
      refine⟨_,_,h2,ER.of_value fun ρ a w rr hr=>?_⟩
      obtain⟨g,κ,c,hi,ev⟩:=hv ρ _ (zr rr x hx)
      have hln:l=m:=by rw[hlx]at hl2;injection hl2 with q;exact q.symm
      subst hln
      obtain⟨ob,ho,hB⟩:=hr.obj hi
      have hlive:h.get i≠ .dead:=fun q=>by rw[q]at h1;exact h1 rfl
      obtain⟨cs,tid,fr,rfl,k1,k2⟩:=hB.cells_of hlive (fun l y p q=>by rw[q]at h1;exact h1 rfl)
      obtain⟨vs,s1,s2⟩:=YE hr h8 F.pos (zr rr y hy) hly hmn hstr (u8:=yh (zw P e)) (fun q=>by rw[q]at h1;exact h1 (Zo _ _ _ _))
      obtain⟨m1,m2⟩:=kL hB s2 h1
      refine⟨ρ,goInt (q:Nat),setB w g (.cells (jX cs o vs) tid fr),?_,Ext.setB hr hi hlive m2,?_⟩
      ·exact fin a w _ _ c _ ev (YS (zr rr y hy) hly w) s1 (yH k1 k2 _ w cs o 0 ho k1 (by omega) s2.one)
      ·have e:JT q= .int 3 q:=by
        show @Bool.rec (fun _=>AV) .un (.int 3 q) (Nat.ble q 1000000000)=_
        rw[zf,if_pos hqb]
       have:=vg (ρ:=ρ) (n:=q) (by rw[e];intro h;cases h)
       rwa[e]at this
     ·rw[if_neg hqb]at hf;cases hf
   ·rw[if_neg hys]at hf;cases hf
  ·rw[if_neg hns]at hf;cases hf
end
end Kv
end
end
section
noncomputable section
namespace Kv
open Go.RowKit
variable {P:Program}
section
variable {ρ:Ren} {w:World} {h:HP} {r:RG} {a:Act} {I:List Deferred→Prop}
theorem aBW {t:TypeId} {i:TypeInfo} {d:TypeDesc} {ty:Ty} (F:TyF P t i d ty) (ρ:Ren) {n c:Nat} (hn:n≤c) {z:Value} (hz:i.zero=some z) (tid:TypeId):BR ρ (c*ty.cells) (QK ty n) (.cells (zc z.cells (c*ty.cells)) tid (0,0)):=by
 obtain⟨z',e,hs,hu⟩:=yJ F
 rw[hz]at e;injection e with e;subst e
 have hNF:NF (0,0) (c*ty.cells):=fun o _=>by simp
 have hpos:=F.pos
 rw[Qw F]
 by_cases h8:yh ty=true
 ·rw[if_pos h8]
  have hty:=qF h8
  subst hty
  have h1:z.cells.toList=[Value.int .u8 (0:Nat)]:=by
   obtain⟨x,y,e1,e2,e3⟩:=(hu ρ).vs
   have e3:y=[]:=e3
   rw[e1,e3,(zA.1 e2).1];rfl
  have hc:(Ty.sc (.int 4 0)).cells=1:=rfl
  rw[hc]at hs hNF⊢
  rw[Nat.mul_one]at hNF⊢
  refine⟨_,_,_,rfl,yY _ _,hNF,hn,Nat.pow_pos (by omega),?_⟩
  rw[abc c h1]
  unfold byC
  rw[aNm,aNm,←List.map_take,List.take_replicate,Nat.min_eq_left hn]
 ·rw[if_neg h8]
  have hm:n*ty.cells≤c*ty.cells:=Nat.mul_le_mul_right _ hn
  refine⟨_,_,_,rfl,yY _ _,rfl,hpos,by rw[Nat.mul_comm];exact hm,⟨2^dep n,RT.mk_wf _ _,aak n⟩,fun k hk=>?_⟩
  rw[RT.mk_get,←hs,QI _ (by omega) _ _ (by omega),hs]
  exact hu ρ
theorem Kb (z:Array Value) (hz:0<z.size) {l n c:Nat} {old new:List Value} (ho:old.length=z.size*l) (hn:new.length=z.size*n) (hc:l+n≤c):
  jX (jX (zc z (c*z.size)) 0 old) (l*z.size) new=old.toArray++new.toArray++zc z ((c- (l+n))*z.size):=by
 have hm:(l+n)*z.size≤c*z.size:=Nat.mul_le_mul_right _ hc
 have hsub:(c- (l+n))*z.size=c*z.size- (l+n)*z.size:=Nat.sub_mul _ _ _
 rw[Nat.add_mul]at hm hsub
 rw[Nat.mul_comm]at ho hn
 have h0:=YD (zc z (c*z.size)) 0 old new (by rw[yY];omega)
 rw[Nat.zero_add,ho]at h0
 rw[h0]
 apply Array.ext'
 rw[jx]
 simp only[Array.toList_append]
 unfold qx
 rw[List.take_zero,List.nil_append,Nat.zero_add]
 congr 1
 apply List.ext_getElem?
 intro k
 rw[List.getElem?_drop,List.length_append,ho,hn]
 have hL:(zc z (c*z.size)).toList.length=c*z.size:=by rw[Array.length_toList,yY]
 have hR:(zc z ((c- (l+n))*z.size)).toList.length=(c- (l+n))*z.size:=by rw[Array.length_toList,yY]
 by_cases hk:k<(c- (l+n))*z.size
 ·rw[JS _ _ (by omega) hz,JS _ _ hk hz]
  congr 1
  rw[show l*z.size+n*z.size+k=k+(l+n)*z.size by rw[Nat.add_mul];omega,Nat.add_mul_mod_self_right]
 ·rw[List.getElem?_eq_none (by omega),List.getElem?_eq_none (by omega)]
end
end Kv
end
end
section
noncomputable section
namespace Kv
open Go.RowKit
variable {P:Program}
section
variable {ρ:Ren} {w:World} {h:HP} {r:RG} {a:Act} {I:List Deferred→Prop}
theorem Jn (need:Nat): ∀(k c:Nat),c≤2*need+192→Builtin.growBy need k c≤2*need+192
 |0,c,h=>h
 |k+1,c,h=>by
  unfold Builtin.growBy
  by_cases hc:c≥need
  ·rw[if_pos hc];exact h
  ·rw[if_neg hc];exact Jn need k _ (by omega)
theorem ahi {need old:Nat} (h:old<need):Builtin.nextslicecap need old≤2*need+192:=by
 unfold Builtin.nextslicecap
 by_cases h1:need>2*old
 ·rw[if_pos h1];omega
 ·rw[if_neg h1]
  by_cases h2:old<256
  ·rw[if_pos h2];omega
  ·rw[if_neg h2];exact Jn need 4 old (by omega)
theorem aBy {t:TypeId} {i:TypeInfo} {d:TypeDesc} {ty:Ty} (F:TyF P t i d ty) {s:Src} {n:Nat} {vs:List Value} (hs:Xw ρ n ty.cells s vs):Xw ρ n ty.cells (Kl ty s) vs:=by
 unfold Kl
 split
 ·obtain⟨h1,h2,h3,h4⟩:=hs
  have h1:vs=[]:=h1
  subst h1
  have hn:n=0:=by
   have h3:0=ty.cells*n:=h3
   rcases Nat.mul_eq_zero.1 h3.symm with h|h
   ·have:=F.pos;omega
   ·exact h
  subst hn
  rw[zN]
  by_cases h8:yh ty=true
  ·rw[if_pos h8]
   have hty:=qF h8
   subst hty
   exact⟨rfl,rfl,rfl,by decide⟩
  ·rw[if_neg h8]
   exact⟨F.pos,rfl,fun k hk=>absurd hk (by omega)⟩
 ·exact hs
def aA2:Blk→Nat
 | .row u n _=>u*n
 | .by l _=>l
 |_=>0
theorem BR.pre {κ κ':Nat} {b:Blk} {c c':Array Value} {tid tid':TypeId} {fr fr':Nat×Nat} (hB:BR ρ κ b (.cells c tid fr)) (hs:c'.size=κ') (hf:NF fr' κ') (hz:(∃u n t,b= .row u n t)→NZ fr' κ') (hl:aA2 b≤κ') (he:c'.toList.take (aA2 b)=c.toList.take (aA2 b)):BR ρ κ' b (.cells c' tid' fr'):=by
 cases b with
 |dead=>trivial
 |si l y p=>obtain⟨s,e,_⟩:=hB;cases e
 | «by» l x=>
  obtain⟨c1,ty1,fr1,e,h1,h2,h3,h4,h5⟩:=hB
  injection e with e1 e2 e3
  subst e1
  exact⟨_,_,_,rfl,hs,hf,hl,h4,he.trans h5⟩
 | row u n t=>
  obtain⟨c1,ty1,fr1,e,h1,h2,h3,h4,h5,h6⟩:=hB
  injection e with e1 e2 e3
  subst e1
  refine⟨_,_,_,rfl,hs,hz ⟨u,n,t,rfl⟩,h3,hl,h5,fun i hi=>?_⟩
  have hm:(i+1)*u≤n*u:=Nat.mul_le_mul_right _ hi
  rw[Nat.add_mul,Nat.mul_comm n]at hm
  have hk: ∀l:List Value,(l.drop (i*u)).take u=((l.take (u*n)).drop (i*u)).take u:=fun l=>by
   rw[List.drop_take,List.take_take,Nat.min_eq_left (by omega)]
  have he:c'.toList.take (u*n)=c.toList.take (u*n):=he
  rw[hk,he,←hk]
  exact h6 i hi
end
end Kv
end
end
section
noncomputable section
namespace Kv
open Go.RowKit
variable {P:Program}
section
variable {w w':World}
theorem aj3 {t t' e:TypeId} {ts:List TypeId} {d':TypeDesc} {i:TypeInfo} {d:TypeDesc} {ty:Ty} (hsl:P.underlying t=some (.slice e)) (hd':P.underlying t'=some d') (F:TyF P e i d ty) (hd0: ∀k,d'≠ .int k)
  {base:Option Addr} {l c n:Nat} {x:Value} {cells:Array Value} (hlen:(Builtin.lenOf x).run P w= .ok n w) (hfc:(Builtin.firstCells ty.cells n x).run P w= .ok cells w) (hroom:l+n≤c)
  (hst:(match base with |some a=>storeCells (a.add (l*ty.cells)) cells.toList|none=>pure ():Sem Unit).run P w= .ok () w') (ty0:TypeId):
  (Builtin.append_ ⟨t::t'::ts⟩ ty0 ⟨[.slice base l c,x]⟩).run P w= .ok (.slice base (l+n) c) w':=by
 unfold Builtin.append_
 show((underlying t)>>=_).run P w=_
 rw[rb (zb hsl w)]
 show((sizeOf e)>>=_).run P w=_
 rw[rb (yk F.hi w),F.size]
 show((underlying t')>>=_).run P w=_
 rw[rb (zb hd' w)]
 rw[rb (a:=false) (w':=w) (by cases d'<;>first |rfl|exact absurd rfl (hd0 _))]
 simp only[Bool.not_false,if_true,Bool.false_eq_true,if_false]
 show((Builtin.lenOf x)>>=_).run P w=_
 rw[rb hlen]
 simp only[if_pos hroom]
 show((Builtin.firstCells ty.cells n x)>>=_).run P w=_
 rw[rb hfc]
 cases base with
 |none=>injection hst with _ h;subst h;rfl
 |some ad=>
  show((storeCells (ad.add (l*ty.cells)) cells.toList)>>=_).run P w=_
  rw[rb hst];rfl
theorem aco {t t' e:TypeId} {ts:List TypeId} {d':TypeDesc} {i:TypeInfo} {d:TypeDesc} {ty:Ty} (hsl:P.underlying t=some (.slice e)) (hd':P.underlying t'=some d') (F:TyF P e i d ty) (hd0: ∀k,d'≠ .int k)
  {base:Option Addr} {l c n:Nat} {x:Value} {old new:Array Value} (hlen:(Builtin.lenOf x).run P w= .ok n w) (hroom:c<l+n) (hb:l+n≤100000000)
  (hfo:(Builtin.firstCells ty.cells l (.slice base l c)).run P { w with drawn:=w.drawn+1 } = .ok old { w with drawn:=w.drawn+1 }) (hfc:(Builtin.firstCells ty.cells n x).run P { w with drawn:=w.drawn+1 } = .ok new { w with drawn:=w.drawn+1 }) {z:Value} (hz:i.zero=some z) (ty0:TypeId):
  ∃ca,l+n≤ca∧(Builtin.append_ ⟨t::t'::ts⟩ ty0 ⟨[.slice base l c,x]⟩).run P w= .ok (.slice (some ⟨w.heap.size,0,none⟩) (l+n) ca) (xg { w with drawn:=w.drawn+1 } (.cells (old++new++zc z.cells ((ca- (l+n))*z.cells.size)) e (0,0))):=by
 have hc: ∃ca,l+n≤ca∧(choose (.appendCap (l+n) c e)).run P w= .ok ca { w with drawn:=w.drawn+1 } :=⟨_,Nat.le_add_right _ _,rfl⟩
 obtain⟨ca,h1,h2⟩:=hc
 refine⟨ca,h1,?_⟩
 have hn:=ahi hroom
 have hby:=F.bytes
 have hnb: ¬(Builtin.nextslicecap (l+n) c*i.bytes>2^48):=by
  have:Builtin.nextslicecap (l+n) c*i.bytes≤(2*(l+n)+192)*1048576:=Nat.mul_le_mul hn hby
  omega
 unfold Builtin.append_
 show((underlying t)>>=_).run P w=_
 rw[rb (zb hsl w)]
 show((sizeOf e)>>=_).run P w=_
 rw[rb (yk F.hi w),F.size]
 show((underlying t')>>=_).run P w=_
 rw[rb (zb hd' w)]
 rw[rb (a:=false) (w':=w) (by cases d'<;>first |rfl|exact absurd rfl (hd0 _))]
 simp only[Bool.not_false,if_true,Bool.false_eq_true,if_false]
 show((Builtin.lenOf x)>>=_).run P w=_
 rw[rb hlen]
 simp only[if_neg (Nat.not_le.2 hroom)]
 show((typeInfo e)>>=_).run P w=_
 rw[rb (zV F.hi w)]
 rw[if_neg (by
  have:IntKind.i64.max=9223372036854775807:=by decide
  rw[this];omega)]
 show((typeInfo e)>>=_).run P w=_
 rw[rb (zV F.hi w)]
 rw[if_neg hnb,rb h2]
 show((typeInfo e)>>=_).run P _=_
 rw[rb (zV F.hi _)]
 have hroom2:(askRoom (ca*i.bytes)).run P { w with drawn:=w.drawn+1 } = .ok () { w with drawn:=w.drawn+1 } :=by
  unfold askRoom;split<;>rfl
 rw[rb hroom2]
 show((Builtin.firstCells ty.cells l (.slice base l c))>>=_).run P _=_
 rw[rb hfo]
 show((Builtin.firstCells ty.cells n x)>>=_).run P _=_
 rw[rb hfc,rb (yc F.hi hz _),xh,rb (vV _ _ _)]
 rfl
end
end Kv
end
end
end Go.Proofs.YtcdiljebkpikbaaGreat
