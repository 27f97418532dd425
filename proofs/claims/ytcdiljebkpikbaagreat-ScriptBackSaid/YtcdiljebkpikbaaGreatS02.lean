/- Parts of the proof: Kvb Kvc Kvd. -/
import Derived.Test.YtcdiljebkpikbaaGreatS01
set_option linter.all false
set_option maxRecDepth 100000
set_option maxHeartbeats 64000000
namespace Go.Proofs.YtcdiljebkpikbaaGreat
section
namespace Kv
noncomputable section
structure Sm where
 S:FuncId→Option (List AV→HP→Option (AV×HP))
 I:FuncId→Bool
abbrev Call:=FuncId→List AV→HP→K→R
structure N8 (α:Type) where
 (a b c d e f g h:α)
abbrev RG:=N8 (N8 (N8 AV))
abbrev VC:=RG→AV
abbrev QC:=RG→HP→AV
abbrev OpC:=Call→RG→HP→K→R
def pr {α:Type} (i:Nat):Bx (N8 α→α):=match i with
 |0=>⟨fun t=> @N8.rec _ (fun _=>_) (fun a b c d e f g h=>a) t⟩
 |1=>⟨fun t=> @N8.rec _ (fun _=>_) (fun a b c d e f g h=>b) t⟩
 |2=>⟨fun t=> @N8.rec _ (fun _=>_) (fun a b c d e f g h=>c) t⟩
 |3=>⟨fun t=> @N8.rec _ (fun _=>_) (fun a b c d e f g h=>d) t⟩
 |4=>⟨fun t=> @N8.rec _ (fun _=>_) (fun a b c d e f g h=>e) t⟩
 |5=>⟨fun t=> @N8.rec _ (fun _=>_) (fun a b c d e f g h=>f) t⟩
 |6=>⟨fun t=> @N8.rec _ (fun _=>_) (fun a b c d e f g h=>g) t⟩
 |_=>⟨fun t=> @N8.rec _ (fun _=>_) (fun a b c d e f g h=>h) t⟩
def su {α:Type} (i:Nat):Bx (N8 α→α→N8 α):=match i with
 |0=>⟨fun t v=> @N8.rec _ (fun _=>_) (fun a b c d e f g h=>N8.mk v b c d e f g h) t⟩
 |1=>⟨fun t v=> @N8.rec _ (fun _=>_) (fun a b c d e f g h=>N8.mk a v c d e f g h) t⟩
 |2=>⟨fun t v=> @N8.rec _ (fun _=>_) (fun a b c d e f g h=>N8.mk a b v d e f g h) t⟩
 |3=>⟨fun t v=> @N8.rec _ (fun _=>_) (fun a b c d e f g h=>N8.mk a b c v e f g h) t⟩
 |4=>⟨fun t v=> @N8.rec _ (fun _=>_) (fun a b c d e f g h=>N8.mk a b c d v f g h) t⟩
 |5=>⟨fun t v=> @N8.rec _ (fun _=>_) (fun a b c d e f g h=>N8.mk a b c d e v g h) t⟩
 |6=>⟨fun t v=> @N8.rec _ (fun _=>_) (fun a b c d e f g h=>N8.mk a b c d e f v h) t⟩
 |_=>⟨fun t v=> @N8.rec _ (fun _=>_) (fun a b c d e f g h=>N8.mk a b c d e f g v) t⟩
def dig (k i:Nat):Nat:=Nat.mod (Nat.div k (Nat.pow 8 i)) 8
def agS (k:Nat):Bx VC:=(@Bool.rec (fun _=>_) (⟨fun _=> .un⟩) ((@Bx.rec _ (fun _=>_) (fun p0=>((@Bx.rec _ (fun _=>_) (fun p1=>((@Bx.rec _ (fun _=>_) (fun p2=>(⟨fun t=>p0 (p1 (p2 t))⟩)) (pr (dig k 2))))) (pr (dig k 1))))) (pr (dig k 0)))) (Nat.ble k 511))
abbrev SC:=RG→AV→RG
def aM5 (k:Nat):Bx SC:=(@Bx.rec _ (fun _=>_) (fun s0=>((@Bx.rec _ (fun _=>_) (fun s1=>((@Bx.rec _ (fun _=>_) (fun s2=>((@Bx.rec _ (fun _=>_) (fun p1=>((@Bx.rec _ (fun _=>_) (fun p2=>(⟨fun t v=>s2 t (s1 (p2 t) (s0 (p1 (p2 t)) v))⟩)) (pr (dig k 2))))) (pr (dig k 1))))) (su (dig k 2))))) (su (dig k 1))))) (su (dig k 0)))
def aNh {α:Type} (x:α):N8 α:=⟨x,x,x,x,x,x,x,x⟩
def rg0:RG:=aNh (aNh (aNh (.tup [])))
def aCt (o:Option Tmp):Bx SC:=match o with |none=>⟨fun r _=>r⟩ |some k=>aM5 k
def zx (x:Operand):Bx VC:=match x with | .tmp t=>agS t| .const v=>⟨fun _=>cvt v⟩ | .func f=>⟨fun _=> .fn (.func f) [] []⟩ | .global _=>⟨fun _=> .un⟩
def xk (l:List Operand):Bx (RG→List AV):=match l with | []=>⟨fun _=>[]⟩ |x::l=>(@Bx.rec _ (fun _=>_) (fun f=>((@Bx.rec _ (fun _=>_) (fun g=>(⟨fun r=>f r::g r⟩)) (xk l)))) (zx x))
def aSA (v:AV):Bool:=match v with | .un=>true|_=>false
def aR5 (x:Operand):Bool:=match x with | .tmp t=>Nat.ble t 511| .const v=>not (aSA (cvt v)) | .func _=>true| .global _=>false
def xQ:List Operand→Bool
 | []=>true
 |x::l=>(@Bool.rec (fun _=>_) (false) (xQ l) (aR5 x))
abbrev OC:=RG→Option AV
def xy (x:Option Operand):Bx OC:=match x with |none=>⟨fun _=>none⟩ |some x=>(@Bx.rec _ (fun _=>_) (fun f=>(⟨fun r=>some (f r)⟩)) (zx x))
def gb (b:Blk) (h:HP) (i:Nat) (v:AV) (k:K):R:=Blk.casesOn b none (fun u n t=>k v (h.set i (.row u n t))) (fun l x=>k v (h.set i (.by l x))) (fun l x p=>k v (h.set i (.si l x p)))
def gp (b:Blk) (h:HP) (v:AV) (k:K):R:=Blk.casesOn b none (fun u n t=>k v (h.push (.row u n t))) (fun l x=>k v (h.push (.by l x))) (fun l x p=>k v (h.push (.si l x p)))
def isB (o:Option TypeId) (P:Program):Bool:=match o with |some e=>Kg P e|none=>false
def qf (P:Program) (place:Nat→Option (Nat×Nat)):List (Nat×Operand)→Bx (RG→List AV→List AV)
 | []=>⟨fun _ c=>c⟩
 | (i,x)::l=>match place i with
  |none=>⟨fun _ _=>[]⟩
  |some (o,n)=>(@Bx.rec _ (fun _=>_) (fun f=>((@Bx.rec _ (fun _=>_) (fun g=>(⟨fun r c=>(fun v=>(@Bool.rec (fun _=>_) ([]) ((@Bool.rec (fun _=>_) ([]) ((@Bool.rec (fun _=>_) ([]) (g r (spl c o (xF v))) (YT (xF v)))) (Nat.ble (Nat.add o n) (len c)))) (Nat.beq (size v) n))) (f r)⟩)) (qf P place l)))) (zx x))
def aMk (n:Nat) (c:List AV):AV:=(@Bool.rec (fun _=>_) (.un) (.agg c) (Nat.beq (len c) n))
def aNi {α:Type} (f:α→Bool):List α→Bool
 | []=>true
 |a::l=>(@Bool.rec (fun _=>_) (false) (aNi f l) (f a))
def aCm (P:Program) (x:Field):Bool:=match P.info? x.type with |some _=>true|none=>false
def X7 (P:Program) (t:TypeId):Bool:=match P.underlying t with |some (.struct fs)=>aNi (aCm P) fs.toList|_=>false
def aaR (P:Program) (t:TypeId) (i:Nat):Option (Nat×Nat):=match vd P t i with |some (o,ty)=>(@Bool.rec (fun _=>_) (some (o,ty.cells)) (none) (Nat.beq ty.cells 0)) |none=>none
def an9 (c i:Nat):Option (Nat×Nat):=some (Nat.mul i c,c)
def vG (P:Program) (t:TypeId) (ps:List (Nat×Operand)):Bx VC:=
 match zw P t with
 | .ba n=>match ps with | []=>⟨fun _=> .ba n 0⟩ |_=>⟨fun _=> .un⟩
 | .ag n z=>match aoC P t with
  |some (_,e)=>(@Bool.rec (fun _=>_) ((@Bx.rec _ (fun _=>_) (fun f=>(⟨fun r=>aMk n (f r z)⟩)) (qf P (an9 (zw P e).cells) ps))) (⟨fun _=> .un⟩) (Nat.beq (zw P e).cells 0))
  |none=>(@Bool.rec (fun _=>_) (⟨fun _=> .un⟩) ((@Bx.rec _ (fun _=>_) (fun f=>(⟨fun r=>aMk n (f r z)⟩)) (qf P (aaR P t) ps))) (X7 P t))
 |_=>⟨fun _=> .un⟩
def qv (c:Nat):List (Nat×Operand)→Bx (RG→Blk→Blk)
 | []=>⟨fun _ b=>b⟩
 | (i,x)::l=>(@Bx.rec _ (fun _=>_) (fun f=>((@Bx.rec _ (fun _=>_) (fun g=>(⟨fun r b=>g r ((fun v=>(@Bool.rec (fun _=>_) (.dead) (st b (Nat.mul i c) v) (Nat.beq (size v) c))) (f r))⟩)) (qv c l)))) (zx x))
def ldC (ty:Ty):Bx (Blk→Nat→AV):=
 match ty with
 | .sc _=>⟨fun b o=>Blk.casesOn b .un (fun u n t=>(@Bool.rec (fun _=>_) (Za (t.get (Nat.div o u)) (Nat.mod o u)) (.un) (Nat.ble n (Nat.div o u)))) (fun l x=>(@Bool.rec (fun _=>_) (.int 4 (byt l x o)) (.un) (Nat.ble l o))) (fun _ _ _=> .un)⟩
 | .ag c z=>⟨fun b o=>Blk.casesOn b .un (fun u n t=>(@Bool.rec (fun _=>_) (J1 (t.get (Nat.div o u)) (Nat.mod o u) c) (.un) (Nat.ble n (Nat.div o u)))) (fun _ _=> .un) (fun _ _ _=> .un)⟩
 |ty=>⟨fun b o=>ld b o ty⟩
abbrev SX:=Option AV→Option AV→Option AV→HP→AV→AV
def Zg (P:Program) (t:TypeId):Bx SX:=
 match P.underlying t with
 |some .string=>⟨fun lo hi mx _ v=>(match mx with |none=>qU v (fun l y=>aa2 l y lo hi) |some _=> .un)⟩
 |some (.array n e)=>(@Bool.rec (fun _=>_) (⟨fun lo hi mx _ v=>xq v (fun i o=>q7 lo 0 (fun a=>q7 hi n (fun b=>q7 mx n (fun m=>qu (zw P e).cells i o n a b m))))⟩) (⟨fun _ _ _ _ _=> .un⟩) (Nat.beq (zw P e).cells 0))
 |some (.slice e)=>(@Bool.rec (fun _=>_) (⟨fun lo hi mx h v=>qX (zw P e).cells h v lo hi mx⟩) (⟨fun _ _ _ _ _=> .un⟩) (Nat.beq (zw P e).cells 0))
 |_=>⟨fun _ _ _ _ _=> .un⟩
def aNx (v:AV):AV:=
 match v with
 | .ptr i o=> .ptr i o
 | .fn f a b=>(match f with | .func _=> .fn f a b|_=> .un)
 |_=> .un
def aCp (f:Nat→Nat→Bool):Bx BC:=⟨fun a b=>xo a (fun c x=>xo b (fun j y=>(@Bool.rec (fun _=>_) (.un) ((@Bool.rec (fun _=>_) (.int c x) (.int c y) (f (Nat.mod (Nat.add x (hfN c)) (mdN c)) (Nat.mod (Nat.add y (hfN c)) (mdN c))))) (Nat.beq c j))))⟩
def JT (n:Nat):AV:=(@Bool.rec (fun _=>_) (.un) (.int 3 n) (Nat.ble n 1000000000))
def vk (v:AV) (φ:Nat→AV):AV:=match v with | .nils=>φ 0| .se=>φ 0| .sl _ _ l _=>φ l| .sf _ _ l _=>φ l|_=> .un
def aCo (P:Program) (t:TypeId):Bx (AV→AV):=
 match P.underlying t with
 |some .string=>⟨fun v=>qU v (fun l _=>JT l)⟩
 |some (.slice _)=>⟨fun v=>vk v JT⟩
 |_=>⟨fun _=> .un⟩
def aCd (P:Program) (t:TypeId):Bx (AV→AV):=
 match P.underlying t with
 |some (.slice _)=>⟨fun v=>(match v with | .sl _ _ _ n=>JT n| .nils=>JT 0|_=> .un)⟩
 |_=>⟨fun _=> .un⟩
def jQ (v:AV) (h:HP):AV:=vk v (fun l=>(@Bool.rec (fun _=>_) ((match zQ h v l 1 true with | .b m y=> .str m y|_=> .un)) (.str 0 0) (Nat.beq l 0)))
def Z5 (P:Program) (s t:TypeId):Bx (AV→HP→AV):=
 match P.underlying s,P.underlying t with
 |some _,some (.int j)=>⟨fun v _=>xo v (fun c x=> .int (an1 j) (cvI c (an1 j) x))⟩
 |some .string,some .string=>⟨fun v _=>qU v (fun l x=> .str l x)⟩
 |some (.slice e),some .string=>(@Bool.rec (fun _=>_) (⟨fun _ _=> .un⟩) (⟨fun v h=>jQ v h⟩) (Kg P e))
 |_,_=>⟨fun _ _=> .un⟩
def qR {α:Type} (x:Option α):Bool:=match x with |none=>true|_=>false
def noQ:Bx QC:=⟨fun _ _=> .un⟩
def zt (P:Program) (o:Op):Bx QC:=
 match o with
 | .move x=>(@Bx.rec _ (fun _=>_) (fun f=>(⟨fun r _=>f r⟩)) (zx x))
 | .assign x=>(@Bx.rec _ (fun _=>_) (fun f=>(⟨fun r _=>f r⟩)) (zx x))
 | .pick c a b=>(@Bx.rec _ (fun _=>_) (fun fc=>((@Bx.rec _ (fun _=>_) (fun fa=>((@Bx.rec _ (fun _=>_) (fun fb=>(⟨fun r _=>Jx (fc r) (fun t=>(@Bool.rec (fun _=>_) (fb r) (fa r) (t)))⟩)) (zx b)))) (zx a)))) (zx c))
 | .build t ps=>(@Bx.rec _ (fun _=>_) (fun f=>(⟨fun r _=>f r⟩)) (vG P t ps.toList))
 | .load t a=>(@Bx.rec _ (fun _=>_) (fun f=>((@Bx.rec _ (fun _=>_) (fun g=>(⟨fun r h=>xq (f r) (fun i o=>g (h.get i) o)⟩)) (ldC (zw P t))))) (zx a))
 | .nilCheck x=>(@Bx.rec _ (fun _=>_) (fun f=>(⟨fun r _=>aNx (f r)⟩)) (zx x))
 | .binOp op t x y _=>(@Bx.rec _ (fun _=>_) (fun f=>((@Bx.rec _ (fun _=>_) (fun g=>((@Bx.rec _ (fun _=>_) (fun b=>(⟨fun r _=>b (f r) (g r)⟩)) (aiC P op t)))) (zx y)))) (zx x))
 | .unOp op _ x=>(@Bx.rec _ (fun _=>_) (fun f=>((@Bx.rec _ (fun _=>_) (fun g=>(⟨fun r _=>g (f r)⟩)) (unC op)))) (zx x))
 | .convert s t x=>(@Bx.rec _ (fun _=>_) (fun f=>((@Bx.rec _ (fun _=>_) (fun g=>(⟨fun r h=>g (f r) h⟩)) (Z5 P s t)))) (zx x))
 | .makeFunc f a b=>(@Bool.rec (fun _=>_) (noQ) ((@Bx.rec _ (fun _=>_) (fun fa=>((@Bx.rec _ (fun _=>_) (fun fb=>(⟨fun r _=> .fn f (fa r) (fb r)⟩)) (xk b.toList)))) (xk a.toList))) ((@Bool.rec (fun _=>_) (false) (xQ b.toList) (xQ a.toList))))
 | .slice t x lo hi mx=>(@Bool.rec (fun _=>_) ((@Bx.rec _ (fun _=>_) (fun f=>((@Bx.rec _ (fun _=>_) (fun fl=>((@Bx.rec _ (fun _=>_) (fun fh=>((@Bx.rec _ (fun _=>_) (fun fm=>((@Bx.rec _ (fun _=>_) (fun g=>(⟨fun r h=>g (fl r) (fh r) (fm r) h (f r)⟩)) (Zg P t)))) (xy mx)))) (xy hi)))) (xy lo)))) (zx x))) (noQ) ((@Bool.rec (fun _=>_) (false) (not (qR mx)) (qR hi))))
 | .fieldAddr s x f=>match vd P s f with
  |some (p,ty)=>(@Bool.rec (fun _=>_) ((@Bx.rec _ (fun _=>_) (fun f=>(⟨fun r _=>xq (f r) (fun i o=> .ptr i (Nat.add o p))⟩)) (zx x))) (noQ) (Nat.beq ty.cells 0))
  |none=>noQ
 | .field s x f=>match vd P s f with
  |some (p,ty)=>(@Bx.rec _ (fun _=>_) (fun f=>(⟨fun r _=>vR (f r) (fun l=>ldU (.agg l) p ty)⟩)) (zx x))
  |none=>noQ
 | .indexAddr t x y=>(@Bx.rec _ (fun _=>_) (fun f=>((@Bx.rec _ (fun _=>_) (fun g=>((match P.underlying t with
  |some (.array n e)=>(@Bool.rec (fun _=>_) (⟨fun r _=>xq (f r) (fun i o=>yj (g r) (fun j=>(@Bool.rec (fun _=>_) (.un) (.ptr i (Nat.add o (Nat.mul j (zw P e).cells))) (Nat.ble (Nat.succ j) n))))⟩) (noQ) (Nat.beq (zw P e).cells 0))
  |some (.slice e)=>(@Bool.rec (fun _=>_) (⟨fun r _=>Ko (f r) (fun i o l=>yj (g r) (fun j=>(@Bool.rec (fun _=>_) (.un) (.ptr i (Nat.add o (Nat.mul j (zw P e).cells))) (Nat.ble (Nat.succ j) l))))⟩) (noQ) (Nat.beq (zw P e).cells 0))
  |_=>noQ))) (zx y)))) (zx x))
 | .index t x y=>(@Bx.rec _ (fun _=>_) (fun f=>((@Bx.rec _ (fun _=>_) (fun g=>((match P.underlying t with
  |some (.array n e)=>(@Bool.rec (fun _=>_) (⟨fun r _=>vR (f r) (fun l=>yj (g r) (fun j=>(@Bool.rec (fun _=>_) (.un) (ldU (.agg l) (Nat.mul j (zw P e).cells) (zw P e)) (Nat.ble (Nat.succ j) n))))⟩) (noQ) (Nat.beq (zw P e).cells 0))
  |some .string=>⟨fun r _=>qU (f r) (fun l z=>yj (g r) (fun j=>(@Bool.rec (fun _=>_) (.un) (.int 4 (byt l z j)) (Nat.ble (Nat.succ j) l))))⟩
  |_=>noQ))) (zx y)))) (zx x))
 | .extract t i=>(@Bx.rec _ (fun _=>_) (fun f=>(⟨fun r _=>aaK (f r) (fun l=>nth l i)⟩)) (zx t))
 | .call c=>match c.callee,c.args.toList,c.argTypes.toList with
  | .builtin .len,[x],t::_=>(@Bx.rec _ (fun _=>_) (fun f=>((@Bx.rec _ (fun _=>_) (fun g=>(⟨fun r _=>g (f r)⟩)) (aCo P t)))) (zx x))
  | .builtin .cap,[x],t::_=>(@Bx.rec _ (fun _=>_) (fun f=>((@Bx.rec _ (fun _=>_) (fun g=>(⟨fun r _=>g (f r)⟩)) (aCd P t)))) (zx x))
  | .builtin .max,[x,y],_=>(@Bx.rec _ (fun _=>_) (fun f=>((@Bx.rec _ (fun _=>_) (fun g=>((@Bx.rec _ (fun _=>_) (fun b=>(⟨fun r _=>b (f r) (g r)⟩)) (aCp (fun x y=>Nat.ble (Nat.succ x) y))))) (zx y)))) (zx x))
  | .builtin .min,[x,y],_=>(@Bx.rec _ (fun _=>_) (fun f=>((@Bx.rec _ (fun _=>_) (fun g=>((@Bx.rec _ (fun _=>_) (fun b=>(⟨fun r _=>b (f r) (g r)⟩)) (aCp (fun x y=>Nat.ble (Nat.succ y) x))))) (zx y)))) (zx x))
  |_,_,_=>noQ
 |_=>noQ
def qD (P:Program) (o:Op):Bx (RG→HP→K→R):=
 match o with
 | .alloc t=>⟨fun _ h k=>gp (ain (zw P t) (zw P t).zero) h (.ptr h.n 0) k⟩
 | .box t x=>(@Bx.rec _ (fun _=>_) (fun f=>(⟨fun r h k=>gp (ain (zw P t) (f r)) h (.ptr h.n 0) k⟩)) (zx x))
 | .buildSlice t l ps=>match xH P t with
  |some e=>(@Bool.rec (fun _=>_) (⟨fun _ _ _=>none⟩) ((@Bx.rec _ (fun _=>_) (fun f=>(⟨fun r h k=>gp (f r (QK (zw P e) l)) h (.sl h.n 0 l l) k⟩)) (qv (zw P e).cells ps.toList))) (Nat.ble (Nat.mul l (zw P e).cells) 16777216))
  |none=>⟨fun _ _ _=>none⟩
 | .makeSlice t a b=>match xH P t with
  |some e=>(@Bx.rec _ (fun _=>_) (fun fa=>((@Bx.rec _ (fun _=>_) (fun fb=>(⟨fun r h k=>Jy (fa r) (fun l=>Jy (fb r) (fun c=>(@Bool.rec (fun _=>_) (none) ((@Bool.rec (fun _=>_) (none) (gp (QK (zw P e) c) h (.sl h.n 0 l c) k) (Nat.ble c 100000))) (Nat.ble l c))))⟩)) (zx b)))) (zx a))
  |none=>⟨fun _ _ _=>none⟩
 | .range t x=>(@Bool.rec (fun _=>_) (⟨fun _ _ _=>none⟩) ((@Bx.rec _ (fun _=>_) (fun f=>(⟨fun r h k=>JA (f r) (fun l y=>gp (.si l y 0) h (.ptr h.n 0) k)⟩)) (zx x))) (Qc P t))
 | .convert s t x=>(@Bool.rec (fun _=>_) (⟨fun _ _ _=>none⟩) ((@Bx.rec _ (fun _=>_) (fun f=>(⟨fun r h k=>JA (f r) (fun l y=>gp (.by l y) h (.sf h.n 0 l 1) k)⟩)) (zx x))) ((@Bool.rec (fun _=>_) (false) (isB (xH P t) P) (Qc P s))))
 |_=>⟨fun _ _ _=>none⟩
def isA (P:Program) (o:Op):Bool:=
 match o with
 | .alloc _=>true| .box _ _=>true| .buildSlice _ _ _=>true| .makeSlice _ _ _=>true| .range _ _=>true
 | .convert _ t _=>not (qR (xH P t))
 |_=>false
def uOf (P:Program) (t:TypeId):Ty:=match xH P t with |some e=>zw P e|none=> .no
def Kl (ty:Ty) (s:Src):Src:=match s with | .c []=>(@Bool.rec (fun _=>_) (.t (.l .un) 0) (.b 0 0) (yh ty)) |s=>s
def fresh (ty:Ty) (old:Src) (l n:Nat) (x:Src) (h:HP) (k:K):R:=
 (@Bool.rec (fun _=>_) (none) (gp (yZ (yZ (QK ty (Nat.add l n)) 0 l ty.cells (Kl ty old)) (Nat.mul l ty.cells) n ty.cells x) h (.sf h.n 0 (Nat.add l n) ty.cells) k) (Nat.ble (Nat.add l n) 100000000))
def ZA (ty:Ty) (s:AV) (n:Nat) (x:Src) (h:HP) (k:K):R:=
 match s with
 | .nils=>fresh ty (.c []) 0 n x h k
 | .sl i o l c=>(@Bool.rec (fun _=>_) (fresh ty (zQ h s l ty.cells (yh ty)) l n x h k) (gb (yZ (h.get i) (Nat.add o (Nat.mul l ty.cells)) n ty.cells x) h i (.sl i o (Nat.add l n) c) k) (Nat.ble (Nat.add l n) c))
 | .sf i o l u=>(@Bool.rec (fun _=>_) (none) ((@Bool.rec (fun _=>_) ((@Bool.rec (fun _=>_) (none) (fresh ty (zQ h s l u (yh ty)) l n x (h.set i .dead) k) (Nat.beq o 0))) (gb (yZ (h.get i) (Nat.add o (Nat.mul l u)) n u x) h i (.sf i o (Nat.add l n) u) k) (Nat.ble (Nat.add l n) (JU (h.get i) o u)))) (Nat.beq u ty.cells))
 |_=>none
def aMC (s:AV) (h:HP) (k:K):R:=match s with | .nils=>k .nils h| .sl i o l c=>k (.sl i o l c) h| .sf i o l u=>k (.sf i o l u) h|_=>none
def aNe (ty:Ty) (n:Nat):Src:=(@Bool.rec (fun _=>_) (.t (.mk ty.zero (dep n)) 0) (.b n 0) (yh ty))
def ai9 (v:AV):Bool:=match v with | .str _ _=>false|_=>true
def ahp (v:AV) (c:Nat):Bool:=match v with | .str _ _=>Nat.beq c 1|_=>true
def acn (ty:Ty) (s:AV) (n:Nat) (x:Src) (h:HP) (k:K):R:=(@Bool.rec (fun _=>_) (ZA ty s n x h k) (aMC s h k) (Nat.beq n 0))
def J3 (P:Program) (t t':TypeId):Bx (AV→AV→HP→K→R):=
 (@Bool.rec (fun _=>_) ((match P.underlying t' with
 |some (.int _)=>⟨fun s x h k=>Jy x (fun n=>(@Bool.rec (fun _=>_) (none) (acn (uOf P t) s n (aNe (uOf P t) n) h k) (Nat.ble n 100000)))⟩
 |some _=>⟨fun s x h k=>(@Bool.rec (fun _=>_) (none) (Zc x (fun n=>acn (uOf P t) s n (zQ h x n (uOf P t).cells (yh (uOf P t))) h k)) (ahp x (uOf P t).cells))⟩
 |none=>⟨fun _ _ _ _=>none⟩)) (⟨fun _ _ _ _=>none⟩) (Nat.beq (uOf P t).cells 0))
def aAP (ty:Ty):Bx (AV→AV→HP→K→R):=
 (@Bool.rec (fun _=>_) (⟨fun x y h k=>(@Bool.rec (fun _=>_) (none) (Zc x (fun m=>Zc y (fun n=>(fun n=>(@Bool.rec (fun _=>_) (aBB x (fun i o _=>(@Bool.rec (fun _=>_) (none) (gb (yZ (h.get i) o n ty.cells (zQ h y n ty.cells (yh ty))) h i (.int 3 n) k) (Nat.ble n 1000000000)))) (k (.int 3 0) h) (Nat.beq n 0))) (@Bool.rec (fun _=>_) (n) (m) (Nat.ble m n))))) ((@Bool.rec (fun _=>_) (false) (ahp y ty.cells) (ai9 x))))⟩) (⟨fun _ _ _ _=>none⟩) (Nat.beq ty.cells 0))
def agf (ty:Ty):Bx (AV→HP→K→R):=
 (@Bool.rec (fun _=>_) (⟨fun x h k=>(@Bool.rec (fun _=>_) (none) (Zc x (fun n=>(@Bool.rec (fun _=>_) (aBB x (fun i o _=>gb (yZ (h.get i) o n ty.cells (aNe ty n)) h i (.tup []) k)) (k (.tup []) h) (Nat.beq n 0)))) (ai9 x))⟩) (⟨fun _ _ _=>none⟩) (Nat.beq ty.cells 0))
def aBx:Bx OpC:=⟨fun _ _ _ _=>none⟩
def ai7 (b:Blk) (h:HP) (i:Nat) (k:K):R:=
 match b with
 | .si l x p=>(@Bool.rec (fun _=>_) ((fun c=>(@Bool.rec (fun _=>_) (k (.tup [.bl true,.int 3 p,.int 2 c]) (h.set i (.si l x (Nat.succ p)))) (none) ((@Bool.rec (fun _=>_) (Nat.ble 1000000000 p) (true) (Nat.ble 128 c))))) (byt l x p)) (k (.tup [.bl false]) h) (Nat.ble l p))
 |_=>none
def qq (P:Program) (S:Sm) (o:Op):Bx OpC:=
 match o with
 | .store t a x=>(@Bool.rec (fun _=>_) ((@Bx.rec _ (fun _=>_) (fun fa=>((@Bx.rec _ (fun _=>_) (fun fx=>(⟨fun _ r h k=>Jz (fa r) (fun i o=>(fun v=>(@Bool.rec (fun _=>_) (none) (gb (st (h.get i) o v) h i (.tup []) k) (Nat.beq (size v) (zw P t).cells))) (fx r))⟩)) (zx x)))) (zx a))) (aBx) (Nat.beq (zw P t).cells 0))
 | .next it b=>(@Bool.rec (fun _=>_) (aBx) ((@Bx.rec _ (fun _=>_) (fun f=>(⟨fun _ r h k=>Jz (f r) (fun i o=>(@Bool.rec (fun _=>_) (none) (ai7 (h.get i) h i k) (Nat.beq o 0)))⟩)) (zx it))) (b))
 | .defer c=>match c.callee,c.args.toList with
  | .value f,[]=>(@Bx.rec _ (fun _=>_) (fun f=>(⟨fun _ r h k=>ajf (f r) (fun f a b=>match f,a,b with | .func f,[],[.ptr _ _]=>(@Bool.rec (fun _=>_) (none) (k (.tup []) h) (S.I f)) |_,_,_=>none)⟩)) (zx f))
  |_,_=>aBx
 | .call c=>match c.callee with
  | .value f=>(@Bool.rec (fun _=>_) (aBx) ((@Bx.rec _ (fun _=>_) (fun fa=>((match f with
   | .func f=>match S.S f with
    |some g=>⟨fun call r h k=>(match g (fa r) h with |some (v,h)=>k v h|none=>call f (fa r) h k)⟩
    |none=>⟨fun call r h k=>call f (fa r) h k⟩
   |x=>(@Bx.rec _ (fun _=>_) (fun fx=>(⟨fun call r h k=>ajf (fx r) (fun f a b=>match f with | .func f=>call f (cat (cat a (fa r)) b) h k|_=>none)⟩)) (zx x))))) (xk c.args.toList))) (xQ c.args.toList))
  | .invoke _ _=>aBx
  | .builtin b=>match b,c.args.toList,c.argTypes.toList with
   | .append,[s,x],t::t'::_=>(@Bx.rec _ (fun _=>_) (fun fs=>((@Bx.rec _ (fun _=>_) (fun fx=>((@Bx.rec _ (fun _=>_) (fun f=>(⟨fun _ r h k=>f (fs r) (fx r) h k⟩)) (J3 P t t')))) (zx x)))) (zx s))
   | .copy,[x,y],t::_=>(@Bx.rec _ (fun _=>_) (fun fx=>((@Bx.rec _ (fun _=>_) (fun fy=>((@Bx.rec _ (fun _=>_) (fun f=>(⟨fun _ r h k=>f (fx r) (fy r) h k⟩)) (aAP (uOf P t))))) (zx y)))) (zx x))
   | .clear,[x],t::_=>(@Bx.rec _ (fun _=>_) (fun fx=>((@Bx.rec _ (fun _=>_) (fun f=>(⟨fun _ r h k=>f (fx r) h k⟩)) (agf (uOf P t))))) (zx x))
   |_,_,_=>aBx
 |_=>aBx
def isE (o:Op):Bool:=
 match o with
 | .store _ _ _=>true
 | .defer _=>true
 | .next _ _=>true
 | .call c=>match c.callee with
  | .value _=>true
  | .invoke _ _=>true
  | .builtin b=>match b with | .append=>true| .copy=>true| .clear=>true|_=>false
 |_=>false
def way (P:Program) (o:Op):Nat:=(@Bool.rec (fun _=>_) ((@Bool.rec (fun _=>_) (0) (1) (isA P o))) (2) (isE o))
def YK (P:Program) (S:Sm) (o:Oper):Bx OpC:=
 match way P o.op with
 |0=>(@Bx.rec _ (fun _=>_) (fun f=>(⟨fun _ r h k=>frc (f r h) (fun v=>k v h)⟩)) (zt P o.op))
 |1=>(@Bx.rec _ (fun _=>_) (fun f=>(⟨fun _ r h k=>f r h k⟩)) (qD P o.op))
 |_=>qq P S o.op
def aMK:List Oper→Nat→Option Oper
 | [],_=>none
 |o::_,0=>some o
 |_::l,k+1=>aMK l k
def YQ (ops:List Oper) (g:Option (Nat×Bool)):Bx (RG→Bool):=
 match g with
 |none=>⟨fun _=>true⟩
 | some (j,b)=>match aMK ops j with
  |some o=>match o.dst with
   |some t=>(@Bx.rec _ (fun _=>_) (fun f=>(⟨fun r=>aMM (f r) (fun x=>(@Bool.rec (fun _=>_) (not b) (b) (x)))⟩)) (agS t))
   |none=>⟨fun _=>false⟩
  |none=>⟨fun _=>false⟩
abbrev RC:=Call→RG→HP→(RG→HP→R)→R
def Jh (P:Program) (S:Sm) (ops l:List Oper):Bx RC:=
 List.rec (motive:=fun _=>Bx RC) ⟨fun _ r h k=>k r h⟩ (fun o _ ih=>(@Bx.rec _ (fun _=>_) (fun f=>((@Bx.rec _ (fun _=>_) (fun g=>((@Bx.rec _ (fun _=>_) (fun s=>((match o.guard with
  |none=>⟨fun call r h k=>f call r h (fun v h=>g call (s r v) h k)⟩
  |some _=>(@Bx.rec _ (fun _=>_) (fun w=>(⟨fun call r h k=>(@Bool.rec (fun _=>_) (g call (s r (.tup [])) h k) (f call r h (fun v h=>g call (s r v) h k)) (w r))⟩)) (YQ ops o.guard))))) (aCt o.dst)))) (ih)))) (YK P S o))) l
def qo (e:Edge):Bool:=match e.ground with | .textOnly _=>false| .gcOnly _=>false|_=>true
def xw:List Oper→List Nat→List Nat
 | [],a=>a.reverse
 |o::l,a=>xw l ((o.after.toList.foldl (fun s e=>(@Bool.rec (fun _=>_) (s) (Nat.lor s (Nat.lor (Nat.pow 2 e.on) ((a.reverse).getD e.on 0))) (qo e))) 0)::a)
def tb (x i:Nat):Bool:=Nat.beq (Nat.land (Nat.shiftRight x i) 1) 1
def aop (l:List Operand):List Nat:=l.filterMap fun| .tmp t=>some t|_=>none
def jp (ops:List Oper) (o:Oper):List Nat:=o.dst.toList++aop o.op.operands.toList++(match o.guard with |some (j,_)=>(match aMK ops j with |some o=>o.dst.toList|none=>[]) |none=>[])
def Qi (ops:List Oper) (ms:List Nat):Bool:=
 (ops.zipIdx.zip ms).all fun ((o,j),m)=>
  (o.after.toList.all fun e=>not (qo e) || Nat.ble (Nat.succ e.on) j)&&
  ops.zipIdx.all fun (p,i)=>match p.dst with
   |some d=>Nat.beq i j || !(jp ops o).any (Nat.beq d ·) || (@Bool.rec (fun _=>_) (tb (ms.getD i 0) j) (tb m i) (Nat.ble i j))
   |none=>true
def kB (es:List Nat) (ms:List Nat):Bool:=match es with
 |a::b::l=>tb (ms.getD b 0) a&&kB (b::l) ms
 |_=>true
def ajB (ms:List Nat) (es:List Nat):List (Nat×Nat):=
 ms.zipIdx.map fun (m,i)=>((es.filter (tb m ·)).length,(es.filter (fun e=> !(tb (ms.getD e 0) i))).length)
def aNz (ops:List Oper):Option (List (Nat×Nat)):=
 let ms:=xw ops []
 let es:=(ops.zipIdx.filter (fun (o,_)=>isE o.op)).map (·.2)
 bif Qi ops ms&&kB es ms then some (ajB ms es)else none
def Qf (o:Op):Bool:=match o with | .load _ _=>true| .convert _ _ _=>true| .slice _ _ _ _ _=>true|_=>false
def eqL (f:AV→AV→Bool):List AV→List AV→Bool
 | [],[]=>true
 |a::l,b::m=>f a b&&eqL f l m
 |_,_=>false
def eqA:Nat→AV→AV→Bool
 |0,_,_=>false
 |n+1,a,b=>
  match a,b with
  | .bl x,.bl y=>(@Bool.rec (fun _=>_) (not y) (y) (x))
  | .int k x,.int j y=>Nat.beq k j&&Nat.beq x y
  | .fl x,.fl y=>Nat.beq x y
  | .str l x,.str m y=>Nat.beq l m&&Nat.beq x y
  | .ptr i o,.ptr j p=>Nat.beq i j&&Nat.beq o p
  | .nilp,.nilp=>true
  | .sl i o l c,.sl j p m d=>Nat.beq i j&&Nat.beq o p&&Nat.beq l m&&Nat.beq c d
  | .sf i o l c,.sf j p m d=>Nat.beq i j&&Nat.beq o p&&Nat.beq l m&&Nat.beq c d
  | .nils,.nils=>true
  | .se,.se=>true
  | .nilf,.nilf=>true
  | .nili,.nili=>true
  | .ba l x,.ba m y=>Nat.beq l m&&Nat.beq x y
  | .agg l,.agg m=>eqL (eqA n) l m
  | .tup l,.tup m=>eqL (eqA n) l m
  | .fn (.func f) a b,.fn (.func g) c d=>Nat.beq f g&&eqL (eqA n) a c&&eqL (eqA n) b d
  |_,_=>false
def eqT (s:RT AV):RT AV→Bool:=RT.rec (motive:=fun _=>RT AV→Bool) (fun a t=>match t with | .l b=>eqA 4 a b| .n _ _ _=>false) (fun h _ _ ex ey t=>match t with | .n k x y=>(@Bool.rec (fun _=>_) (false) ((@Bool.rec (fun _=>_) (false) (ey y) (ex x))) (Nat.beq h k)) | .l _=>false) s
def eqB (a b:Blk):Bool:=
 match a,b with
 | .row u n s,.row v m t=>(@Bool.rec (fun _=>_) (false) ((@Bool.rec (fun _=>_) (false) (eqT s t) (Nat.beq n m))) (Nat.beq u v))
 | .by l x,.by m y=>(@Bool.rec (fun _=>_) (false) (Nat.beq x y) (Nat.beq l m))
 | .si l x p,.si m y q=>(@Bool.rec (fun _=>_) (false) ((@Bool.rec (fun _=>_) (false) (Nat.beq p q) (Nat.beq x y))) (Nat.beq l m))
 |_,_=>false
structure Lk where
 t:HP→Bool
 a:Nat
 b:Nat
def aiq (vs:List HP) (n:Nat) (x:Lk):Bool:=match vs with
 | []=>true
 |h::vs=>(@Bool.rec (fun _=>_) (aiq vs (Nat.succ n) x) ((@Bool.rec (fun _=>_) (false) (aiq vs (Nat.succ n) x) (x.t h))) ((@Bool.rec (fun _=>_) (false) (Nat.ble n x.b) (Nat.ble x.a n))))
def YM (vs:List HP):List Lk→Bool
 | []=>true
 |x::l=>(@Bool.rec (fun _=>_) (false) (YM vs l) (aiq vs 0 x))
abbrev DC:=Call→RG→HP→List HP→List Lk→(RG→HP→R)→R
def lkQ (q:QC) (r:RG) (v:AV) (h:HP):Bool:=eqA 4 (q r h) v
def lkA (i:Nat) (g:HP) (h:HP):Bool:=(@Bool.rec (fun _=>_) (true) (eqB (h.get i) (g.get i)) (Nat.ble (Nat.succ i) h.n))
def Y9 (P:Program) (S:Sm) (o:Oper) (a b:Nat) (g:DC):Bx DC:=
 (@Bx.rec _ (fun _=>_) (fun f=>((@Bx.rec _ (fun _=>_) (fun s=>((match way P o.op with
 |0=>(@Bool.rec (fun _=>_) (⟨fun call r h vs lk k=>f call r h (fun v h=>g call (s r v) h vs lk k)⟩) ((@Bx.rec _ (fun _=>_) (fun q=>(⟨fun call r h vs lk k=>f call r h (fun v h=>g call (s r v) h vs (⟨lkQ q r v,a,b⟩::lk) k)⟩)) (zt P o.op))) ((@Bool.rec (fun _=>_) (false) (not (Nat.beq a b)) (Qf o.op))))
 |1=>(@Bool.rec (fun _=>_) (⟨fun call r h vs lk k=>f call r h (fun v h'=>g call (s r v) h' vs (⟨lkA h.n h',a,b⟩::lk) k)⟩) (⟨fun call r h vs lk k=>f call r h (fun v h=>g call (s r v) h vs lk k)⟩) (Nat.beq a b))
 |_=>⟨fun call r h vs lk k=>f call r h (fun v h'=>g call (s r v) h' (h::vs) lk k)⟩))) (aCt o.dst)))) (YK P S o))
def kC (P:Program) (S:Sm) (ops:List Oper):List (Oper×Nat×Nat)→Bx DC
 | []=>⟨fun _ r h vs lk k=>(@Bool.rec (fun _=>_) (none) (k r h) (YM (h::vs).reverse lk))⟩
 | (o,a,b)::l=>(@Bx.rec _ (fun _=>_) (fun g=>((match o.guard with
  |none=>Y9 P S o a b g
  |some _=>(@Bx.rec _ (fun _=>_) (fun f=>((@Bx.rec _ (fun _=>_) (fun w=>((@Bx.rec _ (fun _=>_) (fun s=>(⟨fun call r h vs lk k=>(@Bool.rec (fun _=>_) (g call (s r (.tup [])) h ((@Bool.rec (fun _=>_) (vs) (h::vs) (isE o.op))) lk k) (f call r h vs lk k) (w r))⟩)) (aCt o.dst)))) (YQ ops o.guard)))) (Y9 P S o a b g))))) (kC P S ops l))
def agk (P:Program) (S:Sm) (ops:List Oper) (draw:Bool):Bx RC:=
 (@Bool.rec (fun _=>_) (Jh P S ops ops) ((match aNz ops with
  |none=>⟨fun _ _ _ _=>none⟩
  |some ss=>(@Bx.rec _ (fun _=>_) (fun f=>(⟨fun call r h k=>f call r h [] [] k⟩)) (kC P S ops (ops.zip ss))))) (draw))
@[irreducible] def big:Nat:=1000000
abbrev KC:=Ex→RG→HP→R
abbrev CC:=Call→RG→HP→KC→R
def abL (b:CC) (call:Call) (k:KC) (n:Nat):RG→HP→R:=Nat.rec (motive:=fun _=>RG→HP→R) (fun _ _=>none) (fun _ ih r h=>b call r h (fun ex r h=>Ex.rec (ih r h) (fun id=>k (.exit id) r h) (k .ret r h) ex)) n
def xe (P:Program) (S:Sm) (c:Code):Bx CC:=
 Code.rec (motive:=fun _=>Bx CC)
  ⟨fun _ r h k=>k .normal r h⟩
  (fun _ ops draw=>⟨fun call r h k=>(@Bx.rec _ (fun _=>_) (fun f=>f) (agk P S ops.toList draw)) call r h (fun r h=>k .normal r h)⟩)
  (fun _ _ a b=>⟨fun call r h k=>(@Bx.rec _ (fun _=>_) (fun f=>f) (a)) call r h (fun ex r h=>Ex.rec ((@Bx.rec _ (fun _=>_) (fun f=>f) (b)) call r h k) (fun id=>k (.exit id) r h) (k .ret r h) ex)⟩)
  (fun c _ _ a b=>(@Bx.rec _ (fun _=>_) (fun f=>(⟨fun call r h k=>ajd (f r) (fun t=>(@Bool.rec (fun _=>_) ((@Bx.rec _ (fun _=>_) (fun f=>f) (b)) call r h k) ((@Bx.rec _ (fun _=>_) (fun f=>f) (a)) call r h k) (t)))⟩)) (zx c)))
  (fun id _ b=>⟨fun call r h k=>(@Bx.rec _ (fun _=>_) (fun f=>f) (b)) call r h (fun ex r h=>Ex.rec (k .normal r h) (fun j=>(@Bool.rec (fun _=>_) (k (.exit j) r h) (k .normal r h) (Nat.beq j id))) (k .ret r h) ex)⟩)
  (fun _ b=>⟨fun call r h k=>abL (@Bx.rec _ (fun _=>_) (fun f=>f) (b)) call k big r h⟩)
  (fun _ _ _ _ _ _=>⟨fun _ _ _ _=>none⟩)
  (fun id=>⟨fun _ r h k=>k (.exit id) r h⟩)
  (fun _ b=>b)
  (fun _=>⟨fun _ r h k=>k .normal r h⟩)
  (fun _=>⟨fun _ _ _ _=>none⟩)
  ⟨fun _ r h k=>k .ret r h⟩
  (fun _=>⟨fun _ _ _ _=>none⟩) c
def aog:List AV→Nat→RG→RG
 | [],_,r=>r
 |a::l,i,r=>aog l (Nat.succ i) ((@Bx.rec _ (fun _=>_) (fun f=>f) (aM5 i)) r a)
def aoc (P:Program) (x:ResultVar):Bx QC:=
 match x with
 | .tmp t=>(@Bx.rec _ (fun _=>_) (fun f=>(⟨fun r _=>f r⟩)) (agS t))
 | .cell a t=>(@Bx.rec _ (fun _=>_) (fun f=>((@Bx.rec _ (fun _=>_) (fun g=>(⟨fun r h=>xq (f r) (fun i o=>g (h.get i) o)⟩)) (ldC (zw P t))))) (agS a))
def ahK (P:Program):List ResultVar→Bx (RG→HP→(List AV→R)→R)
 | []=>⟨fun _ _ k=>k []⟩
 |x::l=>(@Bx.rec _ (fun _=>_) (fun f=>((@Bx.rec _ (fun _=>_) (fun g=>(⟨fun r h k=>frc (f r h) (fun v=>g r h (fun vs=>k (v::vs)))⟩)) (ahK P l)))) (aoc P x))
def aod (P:Program) (l:List ResultVar):Bx (RG→HP→K→R):=
 match l with
 | [x]=>(@Bx.rec _ (fun _=>_) (fun f=>(⟨fun r h k=>frc (f r h) (fun v=>k v h)⟩)) (aoc P x))
 |l=>(@Bx.rec _ (fun _=>_) (fun f=>(⟨fun r h k=>f r h (fun vs=>k (.tup vs) h)⟩)) (ahK P l))
def aSG (l:List Func):Nat→Option Func:=List.rec (motive:=fun _=>Nat→Option Func) (fun _=>none) (fun a _ ih k=>Nat.rec (some a) (fun k _=>ih k) k) l
def V9 (n:Nat):List Oper→Bool
 | []=>true
 |o::l=>match o.dst with |none=>V9 n l|some d=>(@Bool.rec (fun _=>_) (false) (V9 n l) (Nat.ble (Nat.succ d) n))
def Z6 (n:Nat):Code→Bool
 | .region _ ops _=>V9 n ops.toList
 | .seq a b=>(@Bool.rec (fun _=>_) (false) (Z6 n b) (Z6 n a))
 | .cond _ a b=>(@Bool.rec (fun _=>_) (false) (Z6 n b) (Z6 n a))
 | .block _ b=>Z6 n b
 | .loop b=>Z6 n b
 | .scope b=>Z6 n b
 |_=>true
def aSx (l:List AV) (n:Nat):Bool:=Nat.ble (len l) n
def agj (P:Program) (S:Sm) (f:FuncId):Bx (Call→List AV→HP→K→R):=
 match aSG P.funcs.toList f with
 |none=>⟨fun _ _ _ _=>none⟩
 |some fn=>
  match fn.body with
  |none=>⟨fun _ _ _ _=>none⟩
  |some c=>(@Bool.rec (fun _=>_) (⟨fun _ _ _ _=>none⟩) ((@Bx.rec _ (fun _=>_) (fun g=>(⟨fun call args h k=>(@Bool.rec (fun _=>_) (none) ((@Bx.rec _ (fun _=>_) (fun f=>f) (xe P S c)) call (aog args 0 rg0) h (fun ex r h=>Ex.rec (g r h k) (fun _=>none) (g r h k) ex)) (aSx args fn.ntmps))⟩)) (aod P fn.results.toList))) ((@Bool.rec (fun _=>_) (false) (Z6 fn.ntmps c) (Nat.ble fn.ntmps 512))))
def aiE (P:Program) (S:Sm) (n:Nat):Call:=Nat.rec (motive:=fun _=>Call) (fun _ _ _ _=>none) (fun _ ih f args h k=>(@Bx.rec _ (fun _=>_) (fun f=>f) (agj P S f)) ih args h k) n
def run (P:Program) (S:Sm) (n:Nat) (f:FuncId) (args:List AV) (h:HP):R:=aiE P S n f args h (fun v h=>some (v,h))
def h0:HP:=⟨4,.mk .dead 4,0⟩
def aRy (args:List AV) (h:HP):Option (AV×HP):=match args with | [.fl x]=>(@Bool.rec (fun _=>_) (none) (some (.int 7 x,h)) (Nat.ble x 18446744073709551615)) |_=>none
def aNt (args:List AV) (h:HP):Option (AV×HP):=match args with | [.int 7 x]=>some (.fl x,h) |_=>none
def aNu (args:List AV) (h:HP):Option (AV×HP):=match args with | [.str l x,.str m y]=>some ((@Bool.rec (fun _=>_) ((@Bool.rec (fun _=>_) (.int 3 0) (.int 3 1) (kG m y l x))) (.int 3 18446744073709551615) (kG l x m y)),h) |_=>none
def Qb (z:AV) (args:List AV) (h:HP):Option (AV×HP):=
 match args with
 | [.sf i o l w,.int 3 p,.sl j q m c]=>(@Bool.rec (fun _=>_) (none) ((match h.get i,h.get j with
      | .row u n t,.row v k s=>(@Bool.rec (fun _=>_) (none) (some (.sf h.n 0 (Nat.add l 1) 3,(h.set i .dead).push (.row 3 (Nat.add l 1) (cpU t (Nat.sub l p) p (Nat.add p 1) ((cpU t p 0 0 (.mk z (dep (Nat.add l 1)))).set p (s.get 0)))))) ((@Bool.rec (fun _=>_) (false) ((@Bool.rec (fun _=>_) (false) ((@Bool.rec (fun _=>_) (false) (Nat.ble 1 k) (Nat.ble l n))) (Nat.beq v 3))) (Nat.beq u 3))))
      |_,_=>none)) ((@Bool.rec (fun _=>_) (false) ((@Bool.rec (fun _=>_) (false) ((@Bool.rec (fun _=>_) (false) ((@Bool.rec (fun _=>_) (false) ((@Bool.rec (fun _=>_) (false) ((@Bool.rec (fun _=>_) (false) ((@Bool.rec (fun _=>_) (false) (not (Nat.beq i j)) (Nat.beq c 1))) (Nat.beq m 1))) (Nat.beq q 0))) (Nat.ble l 100000))) (Nat.beq w 3))) (Nat.ble (Nat.succ p) l))) (Nat.beq o 0))))
 |_=>none
def aCf (r:Nat):Nat:=Nat.xor (Nat.shiftRight r 4) (Nat.land (Nat.shiftRight 0xf36e6f75e330a81ad3d3e1abc38d26c4b21572c9a24bb5a692a8fc1782f63b787198540d61c693625125dad3417b1dbc30e349b120bd8ede105ec76f00000000 (Nat.mul 32 (Nat.land r 15))) 4294967295)
def aCg (l x r:Nat):Nat:=Nat.rec (motive:=fun _=>Nat→Nat) (fun r=>r) (fun n ih r=>ih (aCf (aCf (Nat.xor r (Nat.land (Nat.shiftRight x (Nat.mul 8 n)) 255))))) l r
def aNp (args:List AV) (h:HP):Option (AV×HP):=
 match args with
 | [.int 6 s,.str l x]=>(@Bool.rec (fun _=>_) (none) (some (.int 6 (Nat.sub 4294967295 (aCg l x (Nat.sub 4294967295 s))),h)) (Nat.ble l 1000000))
 |_=>none
end
end Kv
end
section
noncomputable section
namespace Kv
theorem zN {α:Type} (a b:α) (c:Bool): @Bool.rec (fun _=>α) b a c=if c=true then a else b:=by cases c<;>rfl
theorem zf {α:Type} (a b:α) (x y:Nat): @Bool.rec (fun _=>α) b a (Nat.ble x y)=if x≤y then a else b:=by
 rw[zN];by_cases h:x≤y
 ·rw[if_pos h,if_pos (by rw[Nat.ble_eq];exact h)]
 ·rw[if_neg h,if_neg (by rw[Nat.ble_eq];exact h)]
theorem zg {α:Type} (a b:α) (x y:Nat): @Bool.rec (fun _=>α) b a (Nat.beq x y)=if x=y then a else b:=by
 rw[zN];by_cases h:x=y
 ·rw[if_pos h,if_pos (by rw[Nat.beq_eq];exact h)]
 ·rw[if_neg h,if_neg (by rw[Nat.beq_eq];exact h)]
theorem zl {α β:Type} (f:α→β) (b:Bx α): @Bx.rec α (fun _=>β) f b=f b.f:=by cases b;rfl
theorem zy (a b:Nat):Nat.ble a b=true↔a≤b:=by rw[Nat.ble_eq]
theorem zu (a b:Nat):Nat.beq a b=true↔a=b:=by rw[Nat.beq_eq]
def RT.wf {α:Type} :RT α→Nat→Prop
 | .l _,s=>s=1
 | .n h x y,s=>s=h+h∧x.wf h∧y.wf h
theorem RT.get_l {α:Type} (a:α) (k:Nat):(RT.l a).get k=a:=rfl
theorem RT.get_n {α:Type} (h:Nat) (x y:RT α) (k:Nat):(RT.n h x y).get k=if h≤k then y.get (k-h)else x.get k:=by
 show @Bool.rec (fun _=>α) (x.get k) (y.get (k-h)) (Nat.ble h k)=_
 rw[zf]
theorem RT.set_l {α:Type} (a:α) (k:Nat) (v:α):(RT.l a).set k v= .l v:=rfl
theorem RT.set_n {α:Type} (h:Nat) (x y:RT α) (k:Nat) (v:α):(RT.n h x y).set k v=if h≤k then .n h x (y.set (k-h) v)else .n h (x.set k v) y:=by
 show @Bool.rec (fun _=>RT α) (.n h (x.set k v) y) (.n h x (y.set (k-h) v)) (Nat.ble h k)=_
 rw[zf]
theorem RT.wf_set {α:Type} (v:α): ∀(t:RT α) (s k:Nat),t.wf s→(t.set k v).wf s
 | .l _,s,k,h=>h
 | .n m x y,s,k,h=>by
  rw[RT.set_n]
  split
  ·exact⟨h.1,h.2.1,RT.wf_set v y _ _ h.2.2⟩
  ·exact⟨h.1,RT.wf_set v x _ _ h.2.1,h.2.2⟩
theorem RT.get_set {α:Type} (v:α): ∀(t:RT α) (s k j:Nat),t.wf s→k<s→j<s→(t.set k v).get j=if j=k then v else t.get j
 | .l _,s,k,j,h,hk,hj=>by
  have:s=1:=h
  rw[if_pos (by omega)];rfl
 | .n m x y,s,k,j,h,hk,hj=>by
  obtain⟨h1,h2,h3⟩:=h
  rw[RT.set_n]
  by_cases hmk:m≤k
  ·rw[if_pos hmk,RT.get_n,RT.get_n]
   by_cases hmj:m≤j
   ·rw[if_pos hmj,if_pos hmj,RT.get_set v y m (k-m) (j-m) h3 (by omega) (by omega)]
    by_cases e:j=k
    ·rw[if_pos e,if_pos (by omega)]
    ·rw[if_neg e,if_neg (by omega)]
   ·rw[if_neg hmj,if_neg hmj,if_neg (by omega)]
  ·rw[if_neg hmk,RT.get_n,RT.get_n]
   by_cases hmj:m≤j
   ·rw[if_pos hmj,if_pos hmj,if_neg (by omega)]
   ·rw[if_neg hmj,if_neg hmj,RT.get_set v x m k j h2 (by omega) (by omega)]
theorem RT.mk_wf {α:Type} (a:α): ∀d,(RT.mk a d).wf (2^d)
 |0=>rfl
 |d+1=>⟨by rw[Nat.pow_succ];show _=2^d+2^d;omega,RT.mk_wf a d,RT.mk_wf a d⟩
theorem RT.mk_succ {α:Type} (a:α) (d:Nat):RT.mk a (d+1)= .n (2^d) (RT.mk a d) (RT.mk a d):=rfl
theorem RT.mk_get {α:Type} (a:α): ∀d k,(RT.mk a d).get k=a
 |0,k=>rfl
 |d+1,k=>by rw[RT.mk_succ,RT.get_n,RT.mk_get a d,RT.mk_get a d];split<;>rfl
theorem aak: ∀n,n≤2^dep n
 |0=>by simp
 |1=>by decide
 |n+2=>by
  show n+2≤2^(Nat.log2 (n+1)+1)
  have:=Nat.lt_log2_self (n:=n+1)
  omega
def HP.wf (h:HP):Prop:=h.t.wf (2^h.d)∧h.n≤2^h.d
theorem HP.get_eq (h:HP) (i:Nat):h.get i=if i<h.n then h.t.get i else .dead:=by
 cases h
 show @Bool.rec (fun _=>Blk) _ _ _=_
 rw[zf];rfl
theorem HP.set_n (h:HP) (i:Nat) (b:Blk):(h.set i b).n=h.n:=by cases h;rfl
theorem HP.set_wf {h:HP} (i:Nat) (b:Blk) (hw:h.wf):(h.set i b).wf:=by
 cases h
 exact⟨RT.wf_set b _ _ i hw.1,hw.2⟩
theorem HP.get_set {h:HP} {i:Nat} (b:Blk) (hw:h.wf) (hi:i<h.n) (j:Nat):(h.set i b).get j=if j=i then b else h.get j:=by
 rw[HP.get_eq,HP.get_eq,HP.set_n]
 cases h with
 |mk d t n=>
  have h1:t.wf (2^d):=hw.1
  have h2:n≤2^d:=hw.2
  have hi:i<n:=hi
  show(if j<n then(t.set i b).get j else .dead)=if j=i then b else if j<n then t.get j else .dead
  by_cases hj:j<n
  ·rw[if_pos hj,if_pos hj,RT.get_set b t _ i j h1 (by omega) (by omega)]
  ·rw[if_neg hj,if_neg hj,if_neg (by omega)]
theorem HP.push_eq (h:HP) (b:Blk):h.push b=if h.n=2^h.d then⟨h.d+1,(RT.n (2^h.d) h.t (RT.mk .dead h.d)).set h.n b,h.n+1⟩else⟨h.d,h.t.set h.n b,h.n+1⟩:=by
 cases h
 show @Bool.rec (fun _=>HP) _ _ _=_
 rw[zg];rfl
theorem HP.push_n (h:HP) (b:Blk):(h.push b).n=h.n+1:=by rw[HP.push_eq];split<;>rfl
theorem HP.push_full {h:HP} (b:Blk) (e:h.n=2^h.d):h.push b=⟨h.d+1,(RT.n (2^h.d) h.t (RT.mk .dead h.d)).set h.n b,h.n+1⟩:=by rw[HP.push_eq,if_pos e]
theorem HP.push_room {h:HP} (b:Blk) (e:h.n≠2^h.d):h.push b=⟨h.d,h.t.set h.n b,h.n+1⟩:=by rw[HP.push_eq,if_neg e]
theorem HP.wf_up {h:HP} (hw:h.wf):(RT.n (2^h.d) h.t (RT.mk .dead h.d)).wf (2^(h.d+1)):=⟨by rw[Nat.pow_succ];omega,hw.1,RT.mk_wf _ _⟩
theorem HP.push_wf {h:HP} (b:Blk) (hw:h.wf):(h.push b).wf:=by
 have h2:=hw.2
 have:=Nat.pow_pos (n:=h.d) (show 0<2 by omega)
 by_cases e:h.n=2^h.d
 ·rw[HP.push_full b e]
  exact⟨RT.wf_set b _ _ _ (HP.wf_up hw),by show h.n+1≤2^(h.d+1);rw[Nat.pow_succ];omega⟩
 ·rw[HP.push_room b e]
  exact⟨RT.wf_set b _ _ _ hw.1,by show h.n+1≤2^h.d;omega⟩
theorem HP.get_push {h:HP} (b:Blk) (hw:h.wf) (j:Nat):(h.push b).get j=if j=h.n then b else h.get j:=by
 have h2:=hw.2
 rw[HP.get_eq,HP.push_n,HP.get_eq]
 by_cases e:h.n=2^h.d
 ·rw[HP.push_full b e]
  have hp:2^(h.d+1)=2^h.d+2^h.d:=by rw[Nat.pow_succ];omega
  have:=Nat.pow_pos (n:=h.d) (show 0<2 by omega)
  by_cases hj:j<h.n+1
  ·rw[if_pos hj]
   show((RT.n (2^h.d) h.t (RT.mk .dead h.d)).set h.n b).get j=_
   rw[RT.get_set b _ _ h.n j (HP.wf_up hw) (by omega) (by omega),RT.get_n]
   by_cases e2:j=h.n
   ·rw[if_pos e2,if_pos e2]
   ·rw[if_neg e2,if_neg e2,if_pos (show j<h.n by omega),if_neg (by omega)]
  ·rw[if_neg hj,if_neg (by omega),if_neg (by omega)]
 ·rw[HP.push_room b e]
  by_cases hj:j<h.n+1
  ·rw[if_pos hj]
   show(h.t.set h.n b).get j=_
   rw[RT.get_set b _ _ h.n j hw.1 (by omega) (by omega)]
   by_cases e2:j=h.n
   ·rw[if_pos e2,if_pos e2]
   ·rw[if_neg e2,if_neg e2,if_pos (show j<h.n by omega)]
  ·rw[if_neg hj,if_neg (by omega),if_neg (by omega)]
theorem HP.get_dead {h:HP} {i:Nat} (hi:h.n≤i):h.get i= .dead:=by rw[HP.get_eq,if_neg (by omega)]
theorem aBJ {α:Type} {i j:Nat} (hi:i<8) (hj:j<8) (t:N8 α) (v:α):(pr j).f ((su i).f t v)=if j=i then v else(pr j).f t:=by
 cases t
 have h1:i=0∨i=1∨i=2∨i=3∨i=4∨i=5∨i=6∨i=7:=by omega
 have h2:j=0∨j=1∨j=2∨j=3∨j=4∨j=5∨j=6∨j=7:=by omega
 rcases h1 with rfl|rfl|rfl|rfl|rfl|rfl|rfl|rfl<;>rcases h2 with rfl|rfl|rfl|rfl|rfl|rfl|rfl|rfl<;>rfl
def xj (r:RG) (k:Nat):AV:=(agS k).f r
def ajz (r:RG) (k:Nat) (v:AV):RG:=(aM5 k).f r v
theorem Ka (r:RG) {k:Nat} (h:k<512):xj r k=(pr (dig k 0)).f ((pr (dig k 1)).f ((pr (dig k 2)).f r)):=by
 unfold xj agS
 rw[zf,if_pos (show k≤511 by omega)]
 first |done|simp only[zl]
theorem vJ (r:RG) {k:Nat} (h:512≤k):xj r k= .un:=by
 unfold xj agS
 rw[zf,if_neg (show¬k≤511 by omega)]
theorem aBY (r:RG) (k:Nat) (v:AV):ajz r k v=(su (dig k 2)).f r ((su (dig k 1)).f ((pr (dig k 2)).f r) ((su (dig k 0)).f ((pr (dig k 1)).f ((pr (dig k 2)).f r)) v)):=by
 unfold ajz aM5
 simp only[zl]
theorem vH (k i:Nat):dig k i<8:=Nat.mod_lt _ (by omega)
theorem aAW {j k:Nat} (hj:j<512) (hk:k<512) (h0:dig j 0=dig k 0) (h1:dig j 1=dig k 1) (h2:dig j 2=dig k 2):j=k:=by
 change j / 1%8=k / 1%8 at h0
 change j / 8%8=k / 8%8 at h1
 change j / 64%8=k / 64%8 at h2
 omega
theorem vK {j k:Nat} (hj:j<512) (hk:k<512) (r:RG) (v:AV):xj (ajz r k v) j=if j=k then v else xj r j:=by
 rw[Ka _ hj,aBY,Ka _ hj,aBJ (vH _ _) (vH _ _)]
 by_cases e2:dig j 2=dig k 2
 ·rw[if_pos e2,aBJ (vH _ _) (vH _ _),←e2]
  by_cases e1:dig j 1=dig k 1
  ·rw[if_pos e1,aBJ (vH _ _) (vH _ _),←e1]
   by_cases e0:dig j 0=dig k 0
   ·rw[if_pos e0,if_pos (aAW hj hk e0 e1 e2)]
   ·rw[if_neg e0,if_neg (fun e=>e0 (by rw[e]))]
  ·rw[if_neg e1,if_neg (fun e=>e1 (by rw[e]))]
 ·rw[if_neg e2,if_neg (fun e=>e2 (by rw[e]))]
theorem aat {k:Nat} (hk:k<512):xj rg0 k= .tup []:=by
 rw[Ka _ hk]
 have h: ∀ {α:Type} (x:α) (i:Nat),i<8→(pr i).f (aNh x)=x:=by
  intro α x i hi
  have:i=0∨i=1∨i=2∨i=3∨i=4∨i=5∨i=6∨i=7:=by omega
  rcases this with rfl|rfl|rfl|rfl|rfl|rfl|rfl|rfl<;>rfl
 unfold rg0
 rw[h _ _ (vH _ _),h _ _ (vH _ _),h _ _ (vH _ _)]
theorem aaH: ∀(l:List AV) (k:Nat),nth l k=(l[k]?).getD .un
 | [],k=>rfl
 |a::l,0=>rfl
 |a::l,k+1=>aaH l k
theorem ah2: ∀(l:List AV) (k:Nat) (v:AV),aSI l k v=l.set k v
 | [],k,v=>rfl
 |a::l,0,v=>rfl
 |a::l,k+1,v=>congrArg (a:: ·) (ah2 l k v)
theorem xU: ∀l:List AV,len l=l.length
 | []=>rfl
 |a::l=>congrArg Nat.succ (xU l)
theorem aae: ∀l m:List AV,cat l m=l++m
 | [],m=>rfl
 |a::l,m=>congrArg (a:: ·) (aae l m)
theorem aa8: ∀(n:Nat) (l:List AV),tak n l=l.take n
 |0,l=>by cases l<;>rfl
 |n+1,[]=>rfl
 |n+1,a::l=>congrArg (a:: ·) (aa8 n l)
theorem aao: ∀(n:Nat) (l:List AV),drp n l=l.drop n
 |0,l=>rfl
 |n+1,[]=>rfl
 |n+1,a::l=>aao n l
theorem aM6 (l:List AV) (k:Nat) (m:List AV):spl l k m=l.take k++(m++l.drop (k+m.length)):=by
 unfold spl
 rw[aae,aae,aa8,aao,xU];rfl
def bys:Nat→Nat→List Nat
 |0,_=>[]
 |l+1,x=>(x / 256^l)%256::bys l x
theorem zo: ∀l x,(bys l x).length=l
 |0,x=>rfl
 |l+1,x=>congrArg (· +1) (zo l x)
theorem Y8: ∀l x b,b∈bys l x→b<256
 |0,x,b,h=>by cases h
 |l+1,x,b,h=>by
  rcases List.mem_cons.1 h with rfl|h
  ·exact Nat.mod_lt _ (by omega)
  ·exact Y8 l x b h
theorem VZ: ∀l x i,i<l→(bys l x)[i]? =some ((x / 256^(l-1-i))%256)
 |0,x,i,h=>by omega
 |l+1,x,0,h=>by simp[bys]
 |l+1,x,i+1,h=>by
  rw[bys,List.getElem?_cons_succ,VZ l x i (by omega)]
  congr 4;omega
def val:List Nat→Nat
 | []=>0
 |b::l=>b*256^l.length+val l
theorem JP: ∀l:List Nat,(∀b∈l,b<256)→val l<256^l.length
 | [],_=>by simp[val]
 |b::l,h=>by
  have h1:=JP l fun c hc=>h c (List.mem_cons_of_mem _ hc)
  have h2:=h b List.mem_cons_self
  simp only[val,List.length_cons,Nat.pow_succ]
  have:b*256^l.length≤255*256^l.length:=Nat.mul_le_mul_right _ (by omega)
  omega
theorem V1: ∀l:List Nat,(∀b∈l,b<256)→ ∀n,bys l.length (n*256^l.length+val l)=l
 | [],_,n=>rfl
 | b::l,h,n=>by
  have h1:=fun c hc=>h c (List.mem_cons_of_mem b hc)
  have h2:=h b List.mem_cons_self
  have h3:=JP l h1
  have hp:=Nat.pow_pos (n:=l.length) (show 0<256 by omega)
  have e:n*256^(b::l).length+val (b::l)=(n*256+b)*256^l.length+val l:=by
   simp only[val,List.length_cons,Nat.pow_succ]
   rw[Nat.add_mul]
   rw[show n*(256^l.length*256)=n*256*256^l.length by rw[Nat.mul_assoc,Nat.mul_comm 256]]
   omega
  rw[e,List.length_cons,bys,V1 l h1]
  congr 1
  rw[Nat.add_comm,Nat.add_mul_div_right _ _ hp,Nat.div_eq_of_lt h3]
  omega
theorem kS: ∀l x,val (bys l x)=x%256^l
 |0,x=>by simp[bys,val,Nat.mod_one]
 |l+1,x=>by
  rw[bys,val,zo,kS l x,Nat.pow_succ,Nat.mod_mul,Nat.mul_comm (x / 256^l%256)]
  omega
end Kv
end
end
section
noncomputable section
namespace Kv
theorem aSH (k:Nat):2^(8*k)=256^k:=by rw[Nat.pow_mul]
theorem aSa (x k:Nat):Nat.shiftRight x (Nat.mul 8 k)=x / 256^k:=by
 show x>>>(8*k)=_
 rw[Nat.shiftRight_eq_div_pow,aSH]
theorem aR9 (x k:Nat):Nat.shiftLeft x (Nat.mul 8 k)=x*256^k:=by
 show x<<<(8*k)=_
 rw[Nat.shiftLeft_eq,aSH]
theorem ag8 (x:Nat):Nat.land x 255=x%256:=Nat.and_two_pow_sub_one_eq_mod x 8
theorem aBH (k:Nat):0<256^k:=Nat.pow_pos (by omega)
theorem anK (l x i:Nat):byt l x i=x / 256^(l-1-i)%256:=by
 unfold byt
 rw[aSa,ag8];rfl
theorem anL (l x i:Nat):byt l x i<256:=by rw[anK];exact Nat.mod_lt _ (by omega)
theorem XX {l x i:Nat} (h:i<l):(bys l x)[i]? =some (byt l x i):=by rw[VZ l x i h,anK]
theorem Z2 (m x:Nat): ∀l,bys (l+m) x=bys l (x / 256^m)++bys m x
 |0=>by simp[bys]
 |l+1=>by
  rw[show l+1+m=(l+m)+1 by omega,bys,bys,Z2 m x l,Nat.div_div_eq_div_mul,←Nat.pow_add,Nat.add_comm m l];rfl
theorem aad (m n x:Nat):bys m (n*256^m+x%256^m)=bys m x:=by
 have h:=V1 (bys m x) (Y8 m x) n
 rw[zo,kS]at h
 exact h
theorem aAJ (m x:Nat):bys m (x%256^m)=bys m x:=by
 have:=aad m 0 x
 rwa[Nat.zero_mul,Nat.zero_add]at this
theorem aol (l x i j:Nat):sub l x i j=x / 256^(l-j)%256^(j-i):=by
 unfold sub
 rw[aSa];rfl
theorem Zh (l x i j:Nat):sub l x i j<256^(j-i):=by rw[aol];exact Nat.mod_lt _ (aBH _)
theorem vc {l x i j:Nat} (h1:i≤j) (h2:j≤l):bys (j-i) (sub l x i j)=((bys l x).take j).drop i:=by
 rw[aol,aAJ]
 have e1:bys l x=bys i (x / 256^(l-i))++bys (l-i) x:=by rw[←Z2];congr 1;omega
 have e2:bys (l-i) x=bys (j-i) (x / 256^(l-j))++bys (l-j) x:=by rw[←Z2];congr 1;omega
 rw[e1,e2,List.drop_take,List.drop_append_of_le_length (by rw[zo];omega),List.drop_eq_nil_of_le (by rw[zo];omega),List.nil_append,List.take_append_of_le_length (by rw[zo];omega),List.take_of_length_le (by rw[zo];omega)]
theorem aMB (x m y:Nat):jn x m y=x*256^m+y:=by
 unfold jn
 rw[aR9];rfl
theorem af8 {l x m y:Nat} (h:y<256^m):bys (l+m) (jn x m y)=bys l x++bys m y:=by
 rw[aMB,Z2]
 congr 1
 ·rw[Nat.add_comm,Nat.add_mul_div_right _ _ (aBH m),Nat.div_eq_of_lt h,Nat.zero_add]
 ·have:=aad m x y
  rwa[Nat.mod_eq_of_lt h]at this
theorem aBj {l x m y:Nat} (h1:x<256^l) (h2:y<256^m):jn x m y<256^(l+m):=by
 rw[aMB,Nat.pow_add]
 have:(x+1)*256^m≤256^l*256^m:=Nat.mul_le_mul_right _ h1
 rw[Nat.add_mul]at this
 omega
theorem ah8 {l x i m y:Nat} (h:i+m≤l) (hy:y<256^m):spb l x i m y<256^l:=by
 unfold spb
 have h1:=aBj (aBj (Zh l x 0 i) hy) (Zh l x (i+m) l)
 rwa[show i-0+m+(l- (i+m))=l by omega]at h1
theorem V0 {l x i m y:Nat} (h:i+m≤l) (hy:y<256^m):bys l (spb l x i m y)=(bys l x).take i++(bys m y++(bys l x).drop (i+m)):=by
 unfold spb
 have h1:=af8 (l:=i+m) (x:=jn (sub l x 0 i) m y) (Zh l x (i+m) l)
 rw[show i+m+(l- (i+m))=l by omega]at h1
 change bys l (jn (jn (sub l x 0 i) m y) (l- (i+m)) (sub l x (i+m) l))=_
 have h2:=vc (l:=l) (x:=x) (i:=0) (j:=i) (by omega) (by omega)
 have h3:=vc (l:=l) (x:=x) (i:=i+m) (j:=l) (by omega) (by omega)
 rw[List.drop_zero,show i-0=i by omega]at h2
 have h4:(bys l x).take l=bys l x:=List.take_of_length_le (by rw[zo];omega)
 rw[h4]at h3
 have h5:bys (i+m) (jn (sub l x 0 i) m y)=bys i (sub l x 0 i)++bys m y:=af8 hy
 rw[h1,h5,h2,h3,List.append_assoc]
theorem af7 {l x y:Nat} (hx:x<256^l) (hy:y<256^l) (h:bys l x=bys l y):x=y:=by
 have:=congrArg val h
 rwa[kS,kS,Nat.mod_eq_of_lt hx,Nat.mod_eq_of_lt hy]at this
theorem Jd: ∀(l x:Nat) (a:List AV),Nat.rec (motive:=fun _=>Nat→List AV→List AV) (fun _ a=>a) (fun _ ih x a=>ih (Nat.shiftRight x 8) (.int 4 (Nat.land x 255)::a)) l x a=(bys l x).map (AV.int 4)++a
 |0,x,a=>rfl
 |l+1,x,a=>by
  show Nat.rec (motive:=fun _=>Nat→List AV→List AV) _ _ l (Nat.shiftRight x 8) (.int 4 (Nat.land x 255)::a)=_
  rw[Jd l]
  have h:=Z2 1 x l
  rw[h,ag8,show Nat.shiftRight x 8=x / 256^1 from aSa x 1]
  simp[bys]
theorem yw (l x:Nat):xE l x=(bys l x).map (AV.int 4):=by
 have:=Jd l x []
 rw[List.append_nil]at this
 exact this
def ltB:List Nat→List Nat→Bool
 |_,[]=>false
 | [],_::_=>true
 |a::x,b::y=>decide (a<b) || (a==b&&ltB x y)
theorem aha: ∀a b:List Nat,(∀c∈a,c<256)→(∀c∈b,c<256)→(ltB a b=true↔val a*256^b.length<val b*256^a.length∨(val a*256^b.length=val b*256^a.length∧a.length<b.length))
 |a,[],ha,hb=>by
  simp[ltB,val]
 | [],d::b,ha,hb=>by
  simp only[ltB,val,List.length_nil,List.length_cons,Nat.zero_mul,Nat.pow_zero,Nat.mul_one,true_iff]
  rcases Nat.eq_zero_or_pos (d*256^b.length+val b)with h|h
  ·exact .inr ⟨h.symm,by omega⟩
  ·exact .inl h
 | c::a,d::b,ha,hb=>by
  have ha':=fun x hx=>ha x (List.mem_cons_of_mem c hx)
  have hb':=fun x hx=>hb x (List.mem_cons_of_mem d hx)
  have hX:val a*256^b.length<256^a.length*256^b.length:=Nat.mul_lt_mul_of_pos_right (JP a ha') (aBH _)
  have hY:val b*256^a.length<256^b.length*256^a.length:=Nat.mul_lt_mul_of_pos_right (JP b hb') (aBH _)
  have ih:=aha a b ha' hb'
  have eA:val (c::a)*256^(d::b).length=256*(c*(256^a.length*256^b.length)+val a*256^b.length):=by
   simp only[val,List.length_cons,Nat.pow_succ,Nat.add_mul,Nat.mul_add]
   congr 1
   ·rw[Nat.mul_assoc,←Nat.mul_assoc (256^a.length),Nat.mul_comm _ 256,Nat.mul_left_comm]
   ·rw[←Nat.mul_assoc,Nat.mul_comm]
  have eB:val (d::b)*256^(c::a).length=256*(d*(256^a.length*256^b.length)+val b*256^a.length):=by
   simp only[val,List.length_cons,Nat.pow_succ,Nat.add_mul,Nat.mul_add]
   congr 1
   ·rw[Nat.mul_assoc,←Nat.mul_assoc (256^b.length),Nat.mul_comm _ 256,Nat.mul_left_comm,Nat.mul_comm (256^b.length)]
   ·rw[←Nat.mul_assoc,Nat.mul_comm]
  rw[Nat.mul_comm (256^b.length)]at hY
  generalize val a*256^b.length=X at *
  generalize val b*256^a.length=Y at *
  generalize 256^a.length*256^b.length=M at *
  rw[eA,eB]
  simp only[ltB,List.length_cons,Bool.or_eq_true,Bool.and_eq_true,decide_eq_true_eq,beq_iff_eq,ih]
  rcases Nat.lt_trichotomy c d with h|h|h
  ·have:(c+1)*M≤d*M:=Nat.mul_le_mul_right _ h
   rw[Nat.add_mul]at this
   constructor
   ·intro _;exact .inl (by omega)
   ·intro _;exact .inl h
  ·subst h
   constructor
   ·rintro(h| ⟨_,h|h⟩)
    ·omega
    ·exact .inl (by omega)
    ·exact .inr ⟨by omega,by omega⟩
   ·rintro(h|h)
    ·exact .inr ⟨rfl,.inl (by omega)⟩
    ·exact .inr ⟨rfl,.inr ⟨by omega,by omega⟩⟩
  ·have:(d+1)*M≤c*M:=Nat.mul_le_mul_right _ h
   rw[Nat.add_mul]at this
   constructor
   ·rintro(h| ⟨h,_⟩)<;>omega
   ·rintro(h|h)<;>omega
theorem Qd {l x m y:Nat} (hx:x<256^l) (hy:y<256^m):kG l x m y=ltB (bys l x) (bys m y):=by
 have h:=aha (bys l x) (bys m y) (Y8 l x) (Y8 m y)
 rw[kS,kS,zo,zo,Nat.mod_eq_of_lt hx,Nat.mod_eq_of_lt hy]at h
 rw[Bool.eq_iff_iff,h]
 unfold kG
 rw[zf,zg]
 split
 ·next hlm=>
  rw[zy,aR9]
  change x*256^(m-l)+1≤y+_↔_
  have e1:256^m=256^(m-l)*256^l:=by rw[←Nat.pow_add];congr 1;omega
  rw[e1,←Nat.mul_assoc]
  have k1:x*256^(m-l)*256^l<y*256^l↔x*256^(m-l)<y:=Nat.mul_lt_mul_right (aBH l)
  have k2:x*256^(m-l)*256^l=y*256^l↔x*256^(m-l)=y:=⟨fun h=>Nat.eq_of_mul_eq_mul_right (aBH l) h,fun h=>by rw[h]⟩
  rw[k1,k2]
  split
  ·next e=>omega
  ·next e=>omega
 ·next hlm=>
  rw[zy,aR9]
  change x+1≤y*256^(l-m)↔_
  have e1:256^l=256^(l-m)*256^m:=by rw[←Nat.pow_add];congr 1;omega
  rw[e1,←Nat.mul_assoc]
  have k1:x*256^m<y*256^(l-m)*256^m↔x<y*256^(l-m):=Nat.mul_lt_mul_right (aBH m)
  rw[k1]
  omega
end Kv
end
end
end Go.Proofs.YtcdiljebkpikbaaGreat
