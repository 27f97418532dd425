/- Parts of the proof: Kva. -/
import GoSem.Claims
import Derived.Calls
set_option linter.all false
set_option maxRecDepth 100000
set_option maxHeartbeats 64000000
namespace Go.Proofs.YtcdiljebkpikbaaGreat
section
namespace Kv
noncomputable section
inductive RT (α:Type) where
 |l (a:α)
 |n (h:Nat) (x y:RT α)
def RT.get {α:Type} (t:RT α):Nat→α:=
 RT.rec (motive:=fun _=>Nat→α) (fun a _=>a) (fun h _ _ gx gy k=>(@Bool.rec (fun _=>_) (gx k) (gy (Nat.sub k h)) (Nat.ble h k))) t
def RT.set {α:Type} (t:RT α):Nat→α→RT α:=
 RT.rec (motive:=fun _=>Nat→α→RT α) (fun _ _ v=> .l v) (fun h x y sx sy k v=>(@Bool.rec (fun _=>_) (.n h (sx k v) y) (.n h x (sy (Nat.sub k h) v)) (Nat.ble h k))) t
def RT.mk {α:Type} (a:α) (d:Nat):RT α:=
 Nat.rec (motive:=fun _=>RT α) (.l a) (fun d ih=> .n (Nat.pow 2 d) ih ih) d
def dep (n:Nat):Nat:=Nat.rec 0 (fun m _=>Nat.rec 0 (fun k _=>Nat.succ (Nat.log2 (Nat.succ k))) m) n
inductive AV where
 |fl (x:Nat)
 |nilp
 |nils
 /--a slice of nothing-/
 |se
 |nilf
 |nili
 |ifc (t:TypeId) (v:AV)
 |fn (f:Fn) (first captured:List AV)
 |tup (l:List AV)
 |un
 /--a slice that has all of its block,in aNd of u cells,as JU-/
 |sf (i o l u:Nat)
 /--a slice whose JU is known-/
 |sl (i o l c:Nat)
 |ba (l x:Nat)
 |agg (l:List AV)
 |str (l x:Nat)
 |bl (b:Bool)
 |ptr (i o:Nat)
 |int (k:Nat) (x:Nat)
 deriving Inhabited
inductive Blk where
 |dead
 /--n aNd of u cells-/
 |row (u n:Nat) (t:RT AV)
 |by(l x:Nat)
 /--a string ranged over,and where-/
 |si (l x p:Nat)
 deriving Inhabited
structure HP where
 d:Nat
 t:RT Blk
 n:Nat
def HP.get (h:HP) (i:Nat):Blk:=match h with | ⟨_,t,n⟩=>(@Bool.rec (fun _=>_) (Blk.dead) (t.get i) (Nat.ble (Nat.succ i) n))
def HP.set (h:HP) (i:Nat) (b:Blk):HP:=match h with | ⟨d,t,n⟩=>HP.mk d (t.set i b) n
def HP.push (h:HP) (b:Blk):HP:=match h with | ⟨d,t,n⟩=>(@Bool.rec (fun _=>_) (HP.mk d (t.set n b) (Nat.succ n)) (HP.mk (Nat.succ d) ((RT.n (Nat.pow 2 d) t (RT.mk Blk.dead d)).set n b) (Nat.succ n)) (Nat.beq n (Nat.pow 2 d)))
def nth (l:List AV):Nat→AV:=List.rec (motive:=fun _=>Nat→AV) (fun _=> .un) (fun a _ ih k=>Nat.rec a (fun k _=>ih k) k) l
def aSI (l:List AV):Nat→AV→List AV:=List.rec (motive:=fun _=>Nat→AV→List AV) (fun _ _=>[]) (fun a l ih k v=>Nat.rec (v::l) (fun k _=>a::ih k v) k) l
def len (l:List AV):Nat:=List.rec (motive:=fun _=>Nat) 0 (fun _ _ n=>Nat.succ n) l
def cat (l m:List AV):List AV:=List.rec (motive:=fun _=>List AV) m (fun a _ r=>a::r) l
def tak (n:Nat):List AV→List AV:=Nat.rec (motive:=fun _=>List AV→List AV) (fun _=>[]) (fun _ ih l=>List.rec [] (fun a l _=>a::ih l) l) n
def drp (n:Nat):List AV→List AV:=Nat.rec (motive:=fun _=>List AV→List AV) (fun l=>l) (fun _ ih l=>List.rec [] (fun _ l _=>ih l) l) n
def spl (l:List AV) (k:Nat) (m:List AV):List AV:=cat (tak k l) (cat m (drp (Nat.add k (len m)) l))
def byt (l x i:Nat):Nat:=Nat.land (Nat.shiftRight x (Nat.mul 8 (Nat.sub (Nat.sub l 1) i))) 255
def sub (l x i j:Nat):Nat:=Nat.mod (Nat.shiftRight x (Nat.mul 8 (Nat.sub l j))) (Nat.pow 256 (Nat.sub j i))
def jn (x m y:Nat):Nat:=Nat.add (Nat.shiftLeft x (Nat.mul 8 m)) y
def spb (l x i m y:Nat):Nat:=jn (jn (sub l x 0 i) m y) (Nat.sub l (Nat.add i m)) (sub l x (Nat.add i m) l)
def xE (l x:Nat):List AV:=Nat.rec (motive:=fun _=>Nat→List AV→List AV) (fun _ a=>a) (fun _ ih x a=>ih (Nat.shiftRight x 8) (.int 4 (Nat.land x 255)::a)) l x []
abbrev R:=Option (AV×HP)
abbrev K:=AV→HP→R
def ajd (v:AV) (φ:Bool→R):R:= @AV.rec (fun _=>R) (fun _=>PUnit) (fun _=>none) (none) (none) (none) (none) (none) (fun _ _ _=>none) (fun _ _ _ _ _=>none) (fun _ _=>none) (none) (fun _ _ _ _=>none) (fun _ _ _ _=>none) (fun _ _=>none) (fun _ _=>none) (fun _ _=>none) (fun b=>φ b) (fun _ _=>none) (fun _ _=>none) PUnit.unit (fun _ _ _ _=>PUnit.unit) v
def Jx (v:AV) (φ:Bool→AV):AV:= @AV.rec (fun _=>AV) (fun _=>PUnit) (fun _=> .un) (.un) (.un) (.un) (.un) (.un) (fun _ _ _=> .un) (fun _ _ _ _ _=> .un) (fun _ _=> .un) (.un) (fun _ _ _ _=> .un) (fun _ _ _ _=> .un) (fun _ _=> .un) (fun _ _=> .un) (fun _ _=> .un) (fun b=>φ b) (fun _ _=> .un) (fun _ _=> .un) PUnit.unit (fun _ _ _ _=>PUnit.unit) v
def aMM (v:AV) (φ:Bool→Bool):Bool:= @AV.rec (fun _=>Bool) (fun _=>PUnit) (fun _=>false) (false) (false) (false) (false) (false) (fun _ _ _=>false) (fun _ _ _ _ _=>false) (fun _ _=>false) (false) (fun _ _ _ _=>false) (fun _ _ _ _=>false) (fun _ _=>false) (fun _ _=>false) (fun _ _=>false) (fun b=>φ b) (fun _ _=>false) (fun _ _=>false) PUnit.unit (fun _ _ _ _=>PUnit.unit) v
def xo (v:AV) (φ:Nat→Nat→AV):AV:= @AV.rec (fun _=>AV) (fun _=>PUnit) (fun _=> .un) (.un) (.un) (.un) (.un) (.un) (fun _ _ _=> .un) (fun _ _ _ _ _=> .un) (fun _ _=> .un) (.un) (fun _ _ _ _=> .un) (fun _ _ _ _=> .un) (fun _ _=> .un) (fun _ _=> .un) (fun _ _=> .un) (fun _=> .un) (fun _ _=> .un) (fun k x=>φ k x) PUnit.unit (fun _ _ _ _=>PUnit.unit) v
def qU (v:AV) (φ:Nat→Nat→AV):AV:= @AV.rec (fun _=>AV) (fun _=>PUnit) (fun _=> .un) (.un) (.un) (.un) (.un) (.un) (fun _ _ _=> .un) (fun _ _ _ _ _=> .un) (fun _ _=> .un) (.un) (fun _ _ _ _=> .un) (fun _ _ _ _=> .un) (fun _ _=> .un) (fun _ _=> .un) (fun l x=>φ l x) (fun _=> .un) (fun _ _=> .un) (fun _ _=> .un) PUnit.unit (fun _ _ _ _=>PUnit.unit) v
def JA (v:AV) (φ:Nat→Nat→R):R:= @AV.rec (fun _=>R) (fun _=>PUnit) (fun _=>none) (none) (none) (none) (none) (none) (fun _ _ _=>none) (fun _ _ _ _ _=>none) (fun _ _=>none) (none) (fun _ _ _ _=>none) (fun _ _ _ _=>none) (fun _ _=>none) (fun _ _=>none) (fun l x=>φ l x) (fun _=>none) (fun _ _=>none) (fun _ _=>none) PUnit.unit (fun _ _ _ _=>PUnit.unit) v
def xq (v:AV) (φ:Nat→Nat→AV):AV:= @AV.rec (fun _=>AV) (fun _=>PUnit) (fun _=> .un) (.un) (.un) (.un) (.un) (.un) (fun _ _ _=> .un) (fun _ _ _ _ _=> .un) (fun _ _=> .un) (.un) (fun _ _ _ _=> .un) (fun _ _ _ _=> .un) (fun _ _=> .un) (fun _ _=> .un) (fun _ _=> .un) (fun _=> .un) (fun i o=>φ i o) (fun _ _=> .un) PUnit.unit (fun _ _ _ _=>PUnit.unit) v
def Jz (v:AV) (φ:Nat→Nat→R):R:= @AV.rec (fun _=>R) (fun _=>PUnit) (fun _=>none) (none) (none) (none) (none) (none) (fun _ _ _=>none) (fun _ _ _ _ _=>none) (fun _ _=>none) (none) (fun _ _ _ _=>none) (fun _ _ _ _=>none) (fun _ _=>none) (fun _ _=>none) (fun _ _=>none) (fun _=>none) (fun i o=>φ i o) (fun _ _=>none) PUnit.unit (fun _ _ _ _=>PUnit.unit) v
def vR (v:AV) (φ:List AV→AV):AV:= @AV.rec (fun _=>AV) (fun _=>PUnit) (fun _=> .un) (.un) (.un) (.un) (.un) (.un) (fun _ _ _=> .un) (fun _ _ _ _ _=> .un) (fun _ _=> .un) (.un) (fun _ _ _ _=> .un) (fun _ _ _ _=> .un) (fun _ _=> .un) (fun l _=>φ l) (fun _ _=> .un) (fun _=> .un) (fun _ _=> .un) (fun _ _=> .un) PUnit.unit (fun _ _ _ _=>PUnit.unit) v
def aaK (v:AV) (φ:List AV→AV):AV:= @AV.rec (fun _=>AV) (fun _=>PUnit) (fun _=> .un) (.un) (.un) (.un) (.un) (.un) (fun _ _ _=> .un) (fun _ _ _ _ _=> .un) (fun l _=>φ l) (.un) (fun _ _ _ _=> .un) (fun _ _ _ _=> .un) (fun _ _=> .un) (fun _ _=> .un) (fun _ _=> .un) (fun _=> .un) (fun _ _=> .un) (fun _ _=> .un) PUnit.unit (fun _ _ _ _=>PUnit.unit) v
def ajf (v:AV) (φ:Fn→List AV→List AV→R):R:= @AV.rec (fun _=>R) (fun _=>PUnit) (fun _=>none) (none) (none) (none) (none) (none) (fun _ _ _=>none) (fun f a b _ _=>φ f a b) (fun _ _=>none) (none) (fun _ _ _ _=>none) (fun _ _ _ _=>none) (fun _ _=>none) (fun _ _=>none) (fun _ _=>none) (fun _=>none) (fun _ _=>none) (fun _ _=>none) PUnit.unit (fun _ _ _ _=>PUnit.unit) v
def aje (v:AV) (φ:Nat→AV):AV:= @AV.rec (fun _=>AV) (fun _=>PUnit) (fun x=>φ x) (.un) (.un) (.un) (.un) (.un) (fun _ _ _=> .un) (fun _ _ _ _ _=> .un) (fun _ _=> .un) (.un) (fun _ _ _ _=> .un) (fun _ _ _ _=> .un) (fun _ _=> .un) (fun _ _=> .un) (fun _ _=> .un) (fun _=> .un) (fun _ _=> .un) (fun _ _=> .un) PUnit.unit (fun _ _ _ _=>PUnit.unit) v
def onBaA (v:AV) (φ:Nat→Nat→AV):AV:= @AV.rec (fun _=>AV) (fun _=>PUnit) (fun _=> .un) (.un) (.un) (.un) (.un) (.un) (fun _ _ _=> .un) (fun _ _ _ _ _=> .un) (fun _ _=> .un) (.un) (fun _ _ _ _=> .un) (fun _ _ _ _=> .un) (fun l x=>φ l x) (fun _ _=> .un) (fun _ _=> .un) (fun _=> .un) (fun _ _=> .un) (fun _ _=> .un) PUnit.unit (fun _ _ _ _=>PUnit.unit) v
def aBB (v:AV) (φ:Nat→Nat→Nat→R):R:= @AV.rec (fun _=>R) (fun _=>PUnit) (fun _=>none) (none) (none) (none) (none) (none) (fun _ _ _=>none) (fun _ _ _ _ _=>none) (fun _ _=>none) (none) (fun i o l _=>φ i o l) (fun i o l _=>φ i o l) (fun _ _=>none) (fun _ _=>none) (fun _ _=>none) (fun _=>none) (fun _ _=>none) (fun _ _=>none) PUnit.unit (fun _ _ _ _=>PUnit.unit) v
def Zc (v:AV) (φ:Nat→R):R:= @AV.rec (fun _=>R) (fun _=>PUnit) (fun _=>none) (none) (φ 0) (φ 0) (none) (none) (fun _ _ _=>none) (fun _ _ _ _ _=>none) (fun _ _=>none) (none) (fun _ _ l _=>φ l) (fun _ _ l _=>φ l) (fun _ _=>none) (fun _ _=>none) (fun l _=>φ l) (fun _=>none) (fun _ _=>none) (fun _ _=>none) PUnit.unit (fun _ _ _ _=>PUnit.unit) v
def Ko (v:AV) (φ:Nat→Nat→Nat→AV):AV:= @AV.rec (fun _=>AV) (fun _=>PUnit) (fun _=> .un) (.un) (.un) (.un) (.un) (.un) (fun _ _ _=> .un) (fun _ _ _ _ _=> .un) (fun _ _=> .un) (.un) (fun i o l _=>φ i o l) (fun i o l _=>φ i o l) (fun _ _=> .un) (fun _ _=> .un) (fun _ _=> .un) (fun _=> .un) (fun _ _=> .un) (fun _ _=> .un) PUnit.unit (fun _ _ _ _=>PUnit.unit) v
def an5 (v:AV) (φ:Nat→AV):AV:= @AV.rec (fun _=>AV) (fun _=>PUnit) (fun _=> .un) (.un) (φ 0) (φ 0) (.un) (.un) (fun _ _ _=> .un) (fun _ _ _ _ _=> .un) (fun _ _=> .un) (.un) (fun _ _ l _=>φ l) (fun _ _ l _=>φ l) (fun _ _=> .un) (fun _ _=> .un) (fun l _=>φ l) (fun _=> .un) (fun _ _=> .un) (fun _ _=> .un) PUnit.unit (fun _ _ _ _=>PUnit.unit) v
def frc (v:AV) (φ:AV→R):R:= @AV.rec (fun _=>R) (fun _=>PUnit) (fun x=>φ (.fl x)) (φ .nilp) (φ .nils) (φ .se) (φ .nilf) (φ .nili) (fun t v _=>φ (.ifc t v)) (fun f a b _ _=>φ (.fn f a b)) (fun l _=>φ (.tup l)) (none) (fun i o l u=>φ (.sf i o l u)) (fun i o l c=>φ (.sl i o l c)) (fun l x=>φ (.ba l x)) (fun l _=>φ (.agg l)) (fun l x=>φ (.str l x)) (fun b=>φ (.bl b)) (fun i o=>φ (.ptr i o)) (fun k x=>Nat.rec (φ (.int k 0)) (fun p _=>φ (.int k (Nat.succ p))) x) PUnit.unit (fun _ _ _ _=>PUnit.unit) v
def Za (v:AV) (j:Nat):AV:= @AV.rec (fun _=>AV) (fun _=>PUnit) (fun x=> .fl x) (.nilp) (.nils) (.se) (.nilf) (.nili) (fun t v _=> .ifc t v) (fun f a b _ _=> .fn f a b) (fun l _=> .tup l) (.un) (fun i o l u=> .sf i o l u) (fun i o l c=> .sl i o l c) (fun l x=> .int 4 (byt l x j)) (fun l _=>nth l j) (fun l x=> .str l x) (fun b=> .bl b) (fun i o=> .ptr i o) (fun k x=> .int k x) PUnit.unit (fun _ _ _ _=>PUnit.unit) v
def Je (l:List AV) (j c:Nat) (v:AV):AV:=(@Bool.rec (fun _=>_) ((@Bool.rec (fun _=>_) (.un) (.agg (tak c (drp j l))) (Nat.ble (Nat.add j c) (len l)))) ((@Bool.rec (fun _=>_) ((@Bool.rec (fun _=>_) (.un) (.agg (tak c l)) (Nat.ble c (len l)))) (v) (Nat.beq c (len l)))) (Nat.beq j 0))
def J1 (v:AV) (j m:Nat):AV:= @AV.rec (fun _=>AV) (fun _=>PUnit) (fun _=>(@Bool.rec (fun _=>_) (.un) (.agg [v]) (Nat.beq m 1))) ((@Bool.rec (fun _=>_) (.un) (.agg [v]) (Nat.beq m 1))) ((@Bool.rec (fun _=>_) (.un) (.agg [v]) (Nat.beq m 1))) ((@Bool.rec (fun _=>_) (.un) (.agg [v]) (Nat.beq m 1))) ((@Bool.rec (fun _=>_) (.un) (.agg [v]) (Nat.beq m 1))) ((@Bool.rec (fun _=>_) (.un) (.agg [v]) (Nat.beq m 1))) (fun _ _ _=>(@Bool.rec (fun _=>_) (.un) (.agg [v]) (Nat.beq m 1))) (fun _ _ _ _ _=>(@Bool.rec (fun _=>_) (.un) (.agg [v]) (Nat.beq m 1))) (fun _ _=>(@Bool.rec (fun _=>_) (.un) (.agg [v]) (Nat.beq m 1))) ((@Bool.rec (fun _=>_) (.un) (.agg [v]) (Nat.beq m 1))) (fun _ _ _ _=>(@Bool.rec (fun _=>_) (.un) (.agg [v]) (Nat.beq m 1))) (fun _ _ _ _=>(@Bool.rec (fun _=>_) (.un) (.agg [v]) (Nat.beq m 1))) (fun _ _=> .un) (fun l _=>Je l j m v) (fun _ _=>(@Bool.rec (fun _=>_) (.un) (.agg [v]) (Nat.beq m 1))) (fun _=>(@Bool.rec (fun _=>_) (.un) (.agg [v]) (Nat.beq m 1))) (fun _ _=>(@Bool.rec (fun _=>_) (.un) (.agg [v]) (Nat.beq m 1))) (fun _ _=>(@Bool.rec (fun _=>_) (.un) (.agg [v]) (Nat.beq m 1))) PUnit.unit (fun _ _ _ _=>PUnit.unit) v
def an1 (k:IntKind):Nat:=IntKind.casesOn k 0 1 2 3 4 5 6 7
def mdN (c:Nat):Nat:=Nat.pow 2 (Nat.shiftLeft 8 (Nat.land c 3))
def y9 (c:Nat):Bool:=Nat.ble c 3
def hfN (c:Nat):Nat:=(@Bool.rec (fun _=>_) (0) (Nat.pow 2 (Nat.sub (Nat.shiftLeft 8 (Nat.land c 3)) 1)) (y9 c))
def aAU (c:Nat) (n:Int):AV:=match n with
 | .ofNat m=>(@Bool.rec (fun _=>_) (.un) (.int c m) (Nat.ble (Nat.succ m) (@Bool.rec (fun _=>_) (mdN c) (hfN c) (y9 c))))
 | .negSucc m=>(@Bool.rec (fun _=>_) (.un) ((@Bool.rec (fun _=>_) (.un) (.int c (Nat.sub (Nat.sub (mdN c) 1) m)) (Nat.ble (Nat.succ m) (hfN c)))) (y9 c))
inductive Ty where
 |no
 |sc (z:AV)
 |ba (n:Nat)
 |ag (n:Nat) (z:List AV)
def abR:List UInt8→Nat→Nat
 | [],a=>a
 |b::l,a=>abR l (Nat.add (Nat.mul 256 a) b.toNat)
def cvt:Value→AV
 | .bool b=> .bl b
 | .int k n=>aAU (an1 k) n
 | .float .f64 b=> .fl b
 | .string s=> .str s.size (abR s.data.toList 0)
 | .pointer none=> .nilp
 | .slice none 0 0=> .nils
 | .nilFunc=> .nilf
 | .nilIface=> .nili
 |_=> .un
def Kg (P:Program) (e:TypeId):Bool:=match P.underlying e with |some (.int .u8)=>true|_=>false
def sca (a:AV):Bool:=match a with | .agg _=>false| .ba _ _=>false| .tup _=>false| .un=>false|_=>true
def YT:List AV→Bool
 | []=>true
 |a::l=>(@Bool.rec (fun _=>_) (false) (YT l) (sca a))
def aRW (v:Value):Bool:=match v with | .int .u8 n=>(match n with | .ofNat m=>Nat.beq m 0|_=>false) |_=>false
def aSi (n:Nat) (z:Option Value):Bool:=match z with |some (.agg cs)=>(@Bool.rec (fun _=>_) (false) (cs.toList.all aRW) (Nat.beq cs.toList.length n)) |_=>false
def agT (i:TypeInfo):Ty:=match i.zero with |some (.agg cs)=>(fun l=>(@Bool.rec (fun _=>_) (.no) ((@Bool.rec (fun _=>_) (.no) ((@Bool.rec (fun _=>_) (.no) (.ag (len l) l) (YT l))) (Nat.ble 1 (len l)))) (Nat.beq i.size (len l)))) (cs.toList.map cvt) |_=> .no
def yh (ty:Ty):Bool:=match ty with | .sc v=>(match v with | .int k x=>(@Bool.rec (fun _=>_) (false) (Nat.beq x 0) (Nat.beq k 4)) |_=>false) |_=>false
def scT (u:Bool) (i:TypeInfo):Ty:=match i.zero with |some v=>(@Bool.rec (fun _=>_) (.no) ((@Bool.rec (fun _=>_) (.no) (.sc (cvt v)) ((@Bool.rec (fun _=>_) ((@Bool.rec (fun _=>_) (true) (false) (yh (.sc (cvt v))))) (yh (.sc (cvt v))) (u))))) (sca (cvt v))) |none=> .no
def zw (P:Program) (t:TypeId):Ty:=
 match P.info? t with
 |none=> .no
 |some i=>(@Bool.rec (fun _=>_) (.no) ((match P.underlying t with
  |some (.array n e)=>(@Bool.rec (fun _=>_) (agT i) ((@Bool.rec (fun _=>_) (.no) ((@Bool.rec (fun _=>_) (.no) ((@Bool.rec (fun _=>_) (.no) (.ba n) (aSi n i.zero))) (Nat.ble 1 n))) (Nat.beq i.size n))) (Kg P e))
  |some (.struct _)=>agT i
  |some _=>(@Bool.rec (fun _=>_) (.no) (scT (Kg P t) i) (Nat.beq i.size 1))
  |none=> .no)) (Nat.ble i.bytes 1048576))
def Ty.cells:Ty→Nat
 | .no=>0| .sc _=>1| .ba n=>n| .ag n _=>n
def Ty.zero:Ty→AV
 | .no=> .un| .sc z=>z| .ba n=> .ba n 0| .ag _ z=> .agg z
def Ty.zeros:Ty→List AV
 | .no=>[] | .sc z=>[z] | .ba n=>xE n 0| .ag _ z=>z
def xH (P:Program) (t:TypeId):Option TypeId:=match P.underlying t with |some (.slice e)=>some e|_=>none
def aoC (P:Program) (t:TypeId):Option (Nat×TypeId):=match P.underlying t with |some (.array n e)=>some (n,e) |_=>none
def vd (P:Program) (s:TypeId) (f:Nat):Option (Nat×Ty):=match P.underlying s with |some (.struct fs)=>(fs[f]?).map fun x=>(x.offset,zw P x.type) |_=>none
def Qc (P:Program) (t:TypeId):Bool:=match P.underlying t with |some .string=>true|_=>false
def xF:AV→List AV
 | .agg l=>l| .ba l x=>xE l x|v=>[v]
def size:AV→Nat
 | .agg l=>len l| .ba l _=>l|_=>1
def ldU (v:AV) (j:Nat) (ty:Ty):AV:=
 match ty with
 | .sc _=>Za v j
 | .ag c _=>J1 v j c
 | .ba m=>match v with | .ba l x=>(@Bool.rec (fun _=>_) (.un) ((@Bool.rec (fun _=>_) (.un) (v) (Nat.beq l m))) (Nat.beq j 0)) |_=> .un
 | .no=> .un
def ld (b:Blk) (o:Nat) (ty:Ty):AV:=
 match b with
 | .dead=> .un
 | .row u n t=>(@Bool.rec (fun _=>_) (ldU (t.get (Nat.div o u)) (Nat.mod o u) ty) (.un) (Nat.ble n (Nat.div o u)))
 | .by l x=>
  match ty with
  | .sc _=>(@Bool.rec (fun _=>_) (.int 4 (byt l x o)) (.un) (Nat.ble l o))
  | .ba m=>(@Bool.rec (fun _=>_) (.un) (.ba m (sub l x o (Nat.add o m))) (Nat.ble (Nat.add o m) l))
  |_=> .un
 | .si _ _ _=> .un
def stU (a:AV) (j:Nat) (v:AV):AV:=
 match v with
 | .agg l=>match a with
  | .agg m=>(@Bool.rec (fun _=>_) ((@Bool.rec (fun _=>_) (.un) (.agg (spl m j l)) (Nat.ble (Nat.add j (len l)) (len m)))) ((@Bool.rec (fun _=>_) (.un) (v) (Nat.beq j 0))) (Nat.beq (len l) (len m)))
  |_=> .un
 | .ba l x=>match a with
  | .ba m _=>(@Bool.rec (fun _=>_) (.un) ((@Bool.rec (fun _=>_) (.un) (v) (Nat.beq l m))) (Nat.beq j 0))
  |_=> .un
 | .tup _=> .un| .un=> .un
 |v=>match a with
  | .agg m=>(@Bool.rec (fun _=>_) (.un) (.agg (aSI m j v)) (Nat.ble (Nat.succ j) (len m)))
  | .ba m x=>match v with | .int 4 y=> .ba m (spb m x j 1 y) |_=> .un
  | .tup _=> .un| .un=> .un
  |_=>v
def st (b:Blk) (o:Nat) (v:AV):Blk:=
 match b with
 | .dead=> .dead
 | .row u n t=>(@Bool.rec (fun _=>_) (match stU (t.get (Nat.div o u)) (Nat.mod o u) v with | .un=> .dead|w=> .row u n (t.set (Nat.div o u) w)) (.dead) (Nat.ble n (Nat.div o u)))
 | .by l x=>
  match v with
  | .int 4 y=>(@Bool.rec (fun _=>_) (.by l (spb l x o 1 y)) (.dead) (Nat.ble l o))
  | .ba m y=>(@Bool.rec (fun _=>_) (.dead) (.by l (spb l x o m y)) (Nat.ble (Nat.add o m) l))
  |_=> .dead
 | .si _ _ _=> .dead
def ain (ty:Ty) (v:AV):Blk:=
 match ty with
 | .ba n=>match v with | .ba l x=>(@Bool.rec (fun _=>_) (.dead) (.by l x) (Nat.beq l n)) |_=> .dead
 | .sc _=>(@Bool.rec (fun _=>_) (.dead) (.row 1 1 (.l v)) (sca v))
 | .ag n _=>match v with | .agg l=>(@Bool.rec (fun _=>_) (.dead) (.row n 1 (.l (.agg l))) (Nat.beq (len l) n)) |_=> .dead
 | .no=> .dead
def QK (ty:Ty) (n:Nat):Blk:=(@Bool.rec (fun _=>_) ((@Bool.rec (fun _=>_) (.row ty.cells n (.mk ty.zero (dep n))) (.by n 0) (yh ty))) (.dead) (Nat.beq ty.cells 0))
def JU (b:Blk) (o u:Nat):Nat:=match b with | .row v n _=>(@Bool.rec (fun _=>_) (0) (Nat.sub n (Nat.div o u)) (Nat.beq v u)) | .by l _=>(@Bool.rec (fun _=>_) (0) (Nat.sub l o) (Nat.beq u 1)) |_=>0
def aNd:Blk→Nat
 | .dead=>0| .row _ n _=>n| .by l _=>l| .si _ _ _=>0
def cpU (s:RT AV) (n:Nat):Nat→Nat→RT AV→RT AV:=Nat.rec (motive:=fun _=>Nat→Nat→RT AV→RT AV) (fun _ _ t=>t) (fun _ ih i k t=>ih (Nat.succ i) (Nat.succ k) (t.set k (s.get i))) n
def aNA:List AV→Nat→RT AV→RT AV
 | [],_,t=>t
 |a::l,k,t=>aNA l (Nat.succ k) (t.set k a)
def aSt (t:RT AV) (have_ want:Nat) (z:AV):RT AV:=
 Nat.rec (motive:=fun _=>Nat→RT AV→RT AV) (fun _ t=>t) (fun _ ih d t=>ih (Nat.succ d) (.n (Nat.pow 2 d) t (.mk z d))) (Nat.sub want have_) have_ t
def lsU (s:RT AV) (n:Nat):Nat→List AV:=Nat.rec (motive:=fun _=>Nat→List AV) (fun _=>[]) (fun _ ih i=>s.get i::ih (Nat.succ i)) n
inductive Src where
 |bad
 |t (s:RT AV) (i:Nat)
 |c (l:List AV)
 |b (m y:Nat)
def zQ (h:HP) (v:AV) (n c:Nat) (u8:Bool):Src:=
 match v with
 | .nils=> .c []
 | .se=> .c []
 | .str l x=>(@Bool.rec (fun _=>_) (.bad) (.b n (sub l x 0 n)) (Nat.ble n l))
 | .sl i o _ _=>go i o
 | .sf i o _ _=>go i o
 |_=> .bad
where go (i o:Nat):Src:=
 match h.get i with
 | .dead=> .bad
 | .row u m t=>(@Bool.rec (fun _=>_) ((@Bool.rec (fun _=>_) ((@Bool.rec (fun _=>_) (.bad) ((@Bool.rec (fun _=>_) (match t.get (Nat.div o u)with
         | .agg l=>(@Bool.rec (fun _=>_) (.bad) (.c (tak n (drp (Nat.mod o u) l))) (Nat.ble (Nat.add (Nat.mod o u) n) (len l)))
         |_=> .bad) (.bad) (Nat.ble m (Nat.div o u)))) (Nat.beq c 1))) ((@Bool.rec (fun _=>_) (.bad) ((@Bool.rec (fun _=>_) (.bad) (.t t (Nat.div o u)) (Nat.beq (Nat.mod o u) 0))) (Nat.ble (Nat.add (Nat.div o u) n) m))) (Nat.beq u c))) ((@Bool.rec (fun _=>_) (match t.get (Nat.div o u)with
   | .ba l x=>(@Bool.rec (fun _=>_) (.bad) (.b n (sub l x (Nat.mod o u) (Nat.add (Nat.mod o u) n))) (Nat.ble (Nat.add (Nat.mod o u) n) l))
   |_=> .bad) (.bad) (Nat.ble m (Nat.div o u)))) (u8))
 | .by l x=>(@Bool.rec (fun _=>_) (.bad) ((@Bool.rec (fun _=>_) (.bad) (.b n (sub l x o (Nat.add o n))) (Nat.ble (Nat.add o n) l))) (u8))
 | .si _ _ _=> .bad
def yZ (b:Blk) (o n c:Nat) (s:Src):Blk:=
 match b with
 | .dead=> .dead
 | .row u m t=>
  match s with
  | .bad=> .dead
  | .b k y=>(@Bool.rec (fun _=>_) (match t.get (Nat.div o u)with
    | .ba l x=>(@Bool.rec (fun _=>_) (.dead) (.row u m (t.set (Nat.div o u) (.ba l (spb l x (Nat.mod o u) n y)))) (Nat.ble (Nat.add (Nat.mod o u) n) l))
    |_=> .dead) (.dead) (Nat.ble m (Nat.div o u)))
  | .t s i=>(@Bool.rec (fun _=>_) ((@Bool.rec (fun _=>_) (.dead) ((@Bool.rec (fun _=>_) (.dead) (cells u m t (lsU s n i)) (YT (lsU s n i)))) (Nat.beq c 1))) ((@Bool.rec (fun _=>_) (.dead) ((@Bool.rec (fun _=>_) (.dead) (.row u m (cpU s n i (Nat.div o u) t)) (Nat.beq (Nat.mod o u) 0))) (Nat.ble (Nat.add (Nat.div o u) n) m))) (Nat.beq u c))
  | .c l=>(@Bool.rec (fun _=>_) (.dead) ((@Bool.rec (fun _=>_) (cells u m t l) ((@Bool.rec (fun _=>_) (.dead) (.row u m (aNA l o t)) (Nat.ble (Nat.add o n) m))) (Nat.beq u 1))) (Nat.beq c 1))
 | .by l x=>
  match s with
  | .b m y=>(@Bool.rec (fun _=>_) (.dead) (.by l (spb l x o n y)) (Nat.ble (Nat.add o n) l))
  |_=> .dead
 | .si _ _ _=> .dead
where cells (u m:Nat) (t:RT AV) (l:List AV):Blk:=
 (@Bool.rec (fun _=>_) (match t.get (Nat.div o u)with
  | .agg a=>(@Bool.rec (fun _=>_) (.dead) (.row u m (t.set (Nat.div o u) (.agg (spl a (Nat.mod o u) l)))) (Nat.ble (Nat.add (Nat.mod o u) n) (len a)))
  |_=> .dead) (.dead) (Nat.ble m (Nat.div o u)))
def ag9:AV→Option Nat
 | .str l _=>some l| .sl _ _ l _=>some l| .sf _ _ l _=>some l| .nils=>some 0| .se=>some 0|_=>none
inductive Ex where
 |normal|exit (id:Nat) |ret
 deriving Inhabited
def not (b:Bool):Bool:=(@Bool.rec (fun _=>_) (true) (false) (b))
structure Bx (α:Type) where
 f:α
abbrev BC:=AV→AV→AV
def QJ (c:Nat) (f:Nat→Nat→AV):Bx BC:=⟨fun a b=>xo a (fun k x=>xo b (fun j y=>(@Bool.rec (fun _=>_) (.un) ((@Bool.rec (fun _=>_) (.un) (f x y) (Nat.beq j c))) (Nat.beq k c))))⟩
def an6 (c:Nat) (f:Nat→Nat→AV):Bx BC:=(@Bool.rec (fun _=>_) (QJ c f) (QJ c (fun x y=>f (Nat.mod (Nat.add x (hfN c)) (mdN c)) (Nat.mod (Nat.add y (hfN c)) (mdN c)))) (y9 c))
def aRv (c:Nat) (f:Nat→Nat→Nat):Bx BC:=QJ c (fun x y=>(@Bool.rec (fun _=>_) ((@Bool.rec (fun _=>_) (.int c (f x y)) ((@Bool.rec (fun _=>_) ((@Bool.rec (fun _=>_) (.int c (f x y)) (.un) (Nat.ble (hfN c) y))) (.un) (Nat.ble (hfN c) x))) (y9 c))) (.un) (Nat.beq y 0)))
def shC (c:Nat) (f:Nat→Nat→AV):Bx BC:=⟨fun a b=>xo a (fun k x=>xo b (fun j y=>(@Bool.rec (fun _=>_) (.un) ((@Bool.rec (fun _=>_) (f x (Nat.min y (Nat.shiftLeft 8 (Nat.land c 3)))) (.un) ((@Bool.rec (fun _=>_) (false) (Nat.ble (hfN j) y) (y9 j))))) (Nat.beq k c))))⟩
def aSq (op:BinOp) (c:Nat):Bx BC:=
 match op with
 | .add=>QJ c (fun x y=> .int c (Nat.mod (Nat.add x y) (mdN c)))
 | .sub=>QJ c (fun x y=> .int c (Nat.mod (Nat.add x (Nat.sub (mdN c) y)) (mdN c)))
 | .mul=>QJ c (fun x y=> .int c (Nat.mod (Nat.mul x y) (mdN c)))
 | .eql=>QJ c (fun x y=> .bl (Nat.beq x y))
 | .neq=>QJ c (fun x y=> .bl (not (Nat.beq x y)))
 | .lss=>an6 c (fun x y=> .bl (Nat.ble (Nat.succ x) y))
 | .leq=>an6 c (fun x y=> .bl (Nat.ble x y))
 | .gtr=>an6 c (fun x y=> .bl (Nat.ble (Nat.succ y) x))
 | .geq=>an6 c (fun x y=> .bl (Nat.ble y x))
 | .and=>QJ c (fun x y=> .int c (Nat.land x y))
 | .or=>QJ c (fun x y=> .int c (Nat.lor x y))
 | .xor=>QJ c (fun x y=> .int c (Nat.xor x y))
 | .andNot=>QJ c (fun x y=> .int c (Nat.xor x (Nat.land x y)))
 | .quo=>aRv c Nat.div
 | .rem=>aRv c Nat.mod
 | .shl=>shC c (fun x n=> .int c (Nat.mod (Nat.shiftLeft x n) (mdN c)))
 | .shr=>shC c (fun x n=>(@Bool.rec (fun _=>_) (.int c (Nat.shiftRight x n)) (.un) ((@Bool.rec (fun _=>_) (false) (Nat.ble (hfN c) x) (y9 c)))))
def kG (l x m y:Nat):Bool:=
 (@Bool.rec (fun _=>_) (Nat.ble (Nat.succ x) (Nat.shiftLeft y (Nat.mul 8 (Nat.sub l m)))) (Nat.ble (Nat.succ (Nat.shiftLeft x (Nat.mul 8 (Nat.sub m l)))) (Nat.add y (@Bool.rec (fun _=>_) (1) (0) (Nat.beq l m)))) (Nat.ble l m))
def eqS (l x m y:Nat):Bool:=(@Bool.rec (fun _=>_) (false) (Nat.beq x y) (Nat.beq l m))
def aok (f:Nat→Nat→Nat→Nat→AV):Bx BC:=⟨fun a b=>qU a (fun l x=>qU b (fun m y=>f l x m y))⟩
def aSr (op:BinOp):Bx BC:=
 match op with
 | .add=>aok (fun l x m y=>(@Bool.rec (fun _=>_) (.un) (.str (Nat.add l m) (jn x m y)) (Nat.ble (Nat.add l m) 1000000)))
 | .eql=>aok (fun l x m y=> .bl (eqS l x m y))
 | .neq=>aok (fun l x m y=> .bl (not (eqS l x m y)))
 | .lss=>aok (fun l x m y=> .bl (kG l x m y))
 | .geq=>aok (fun l x m y=> .bl (not (kG l x m y)))
 | .gtr=>aok (fun l x m y=> .bl (kG m y l x))
 | .leq=>aok (fun l x m y=> .bl (not (kG m y l x)))
 |_=>⟨fun _ _=> .un⟩
def aCj (x y:Nat):Option Ordering:=FloatKind.f64.format.order x y
def isO (c:Option Ordering) (a b e:Bool):Bool:=match c with |some .lt=>a|some .eq=>b|some .gt=>e|none=>false
def aip (f:Nat→Nat→AV):Bx BC:=⟨fun a b=>aje a (fun x=>aje b (fun y=>f x y))⟩
def oFl (r:Option Nat):AV:=match r with |some r=> .fl r|none=> .un
def aSp (op:BinOp):Bx BC:=
 match op with
 | .eql=>aip (fun x y=> .bl (isO (aCj x y) false true false))
 | .neq=>aip (fun x y=> .bl (not (isO (aCj x y) false true false)))
 | .lss=>aip (fun x y=> .bl (isO (aCj x y) true false false))
 | .leq=>aip (fun x y=> .bl (isO (aCj x y) true true false))
 | .gtr=>aip (fun x y=> .bl (isO (aCj x y) false false true))
 | .geq=>aip (fun x y=> .bl (isO (aCj x y) false true true))
 | .add=>aip (fun x y=>oFl (FloatKind.f64.format.add x y))
 | .sub=>aip (fun x y=>oFl (FloatKind.f64.format.sub x y))
 | .mul=>aip (fun x y=>oFl (FloatKind.f64.format.mul x y))
 |_=>⟨fun _ _=> .un⟩
def aSw (a b:AV) (φ:Bool→AV):AV:=Jx a (fun x=>Jx b (fun y=>φ (@Bool.rec (fun _=>_) (not y) (y) (x))))
def agB (a b:AV) (φ:Bool→AV):AV:=
 match a with
 | .nilp=>(match b with | .nilp=>φ true| .ptr _ _=>φ false|_=> .un)
 | .ptr i o=>(match b with | .nilp=>φ false| .ptr j p=>(@Bool.rec (fun _=>_) (.un) (φ (Nat.beq o p)) (Nat.beq i j)) |_=> .un)
 |_=> .un
def aNs (a b:AV) (φ:Bool→AV):AV:=
 match a with
 | .nils=>(match b with | .nils=>φ true| .sl _ _ _ _=>φ false| .sf _ _ _ _=>φ false|_=> .un)
 | .sl _ _ _ _=>(match b with | .nils=>φ false|_=> .un)
 | .sf _ _ _ _=>(match b with | .nils=>φ false|_=> .un)
 |_=> .un
def aNr (a b:AV) (φ:Bool→AV):AV:=
 match a with
 | .nilf=>(match b with | .nilf=>φ true| .fn _ _ _=>φ false|_=> .un)
 | .fn _ _ _=>(match b with | .nilf=>φ false|_=> .un)
 |_=> .un
def noB:Bx BC:=⟨fun _ _=> .un⟩
def aCc (f:AV→AV→(Bool→AV)→AV) (op:BinOp):Bx BC:=
 match op with
 | .eql=>⟨fun a b=>f a b (fun x=> .bl x)⟩
 | .neq=>⟨fun a b=>f a b (fun x=> .bl (not x))⟩
 |_=>noB
def aiC (P:Program) (op:BinOp) (t:TypeId):Bx BC:=
 match P.underlying t with
 |some (.int k)=>aSq op (an1 k)
 |some .string=>aSr op
 |some (.float .f64)=>aSp op
 |some .bool=>aCc aSw op
 |some (.pointer e)=>(@Bool.rec (fun _=>_) (aCc agB op) (noB) (Nat.beq (zw P e).cells 0))
 |some (.slice _)=>aCc aNs op
 |some (.func _ _ _)=>aCc aNr op
 |_=>noB
def unC (op:UnOp):Bx (AV→AV):=
 match op with
 | .not=>⟨fun a=>Jx a (fun b=> .bl (not b))⟩
 | .neg=>⟨fun a=>xo a (fun c x=> .int c (Nat.mod (Nat.sub (mdN c) x) (mdN c)))⟩
 | .xor=>⟨fun a=>xo a (fun c x=> .int c (Nat.sub (Nat.sub (mdN c) 1) x))⟩
 |_=>⟨fun _=> .un⟩
def cvI (c j x:Nat):Nat:=(@Bool.rec (fun _=>_) (Nat.mod x (mdN j)) ((@Bool.rec (fun _=>_) (Nat.mod x (mdN j)) (Nat.mod (Nat.add x (Nat.sub (mdN 7) (mdN c))) (mdN j)) (y9 c))) (Nat.ble (hfN c) x))
def yj (v:AV) (φ:Nat→AV):AV:=xo v (fun c x=>(@Bool.rec (fun _=>_) (φ x) (.un) ((@Bool.rec (fun _=>_) (false) (Nat.ble (hfN c) x) (y9 c)))))
def Jy (v:AV) (φ:Nat→R):R:=match v with | .int c x=>(@Bool.rec (fun _=>_) (φ x) (none) ((@Bool.rec (fun _=>_) (false) (Nat.ble (hfN c) x) (y9 c)))) |_=>none
def q7 (v:Option AV) (z:Nat) (φ:Nat→AV):AV:=match v with |some v=>yj v φ|none=>φ z
def aa2 (l x:Nat) (lo hi:Option AV):AV:=
 q7 lo 0 (fun m=>q7 hi l (fun h=>(@Bool.rec (fun _=>_) (.un) ((@Bool.rec (fun _=>_) (.un) (.str (Nat.sub h m) (sub l x m h)) (Nat.ble m h))) (Nat.ble h l))))
def qu (u i o c:Nat) (a b m:Nat):AV:=
 (@Bool.rec (fun _=>_) (.un) ((@Bool.rec (fun _=>_) (.un) ((@Bool.rec (fun _=>_) (.un) (.sl i (@Bool.rec (fun _=>_) (Nat.add o (Nat.mul a u)) (o) (Nat.beq m a)) (Nat.sub b a) (Nat.sub m a)) (Nat.ble a b))) (Nat.ble b m))) (Nat.ble m c))
def JK (u i o k:Nat) (a b:Nat) (mx:Option AV):AV:=
 (@Bool.rec (fun _=>_) (.un) ((@Bool.rec (fun _=>_) (.un) ((match mx with
    |some m=>yj m (fun m=>qu u i o k a b m)
    |none=>(@Bool.rec (fun _=>_) ((@Bool.rec (fun _=>_) (.se) (.sf i (Nat.add o (Nat.mul a u)) (Nat.sub b a) u) (Nat.ble (Nat.succ a) k))) (.sf i o b u) (Nat.beq a 0)))) (Nat.ble b k))) (Nat.ble a b))
def is0 (n:Nat) (v:AV):AV:=(@Bool.rec (fun _=>_) (.un) (v) (Nat.beq n 0))
def se1 (mx:Option AV):AV:=match mx with |none=> .se|some _=> .un
def qX (u:Nat) (h:HP) (v:AV) (lo hi mx:Option AV):AV:=
 match v with
 | .nils=>q7 lo 0 (fun a=>q7 hi 0 (fun b=>q7 mx 0 (fun c=>is0 a (is0 b (is0 c .nils)))))
 | .sl i o l c=>q7 lo 0 (fun a=>q7 hi l (fun b=>q7 mx c (fun m=>qu u i o c a b m)))
 | .sf i o l w=>(@Bool.rec (fun _=>_) (.un) (q7 lo 0 (fun a=>q7 hi l (fun b=>JK u i o (JU (h.get i) o u) a b mx))) (Nat.beq w u))
 | .se=>q7 lo 0 (fun a=>q7 hi 0 (fun b=>is0 a (is0 b (se1 mx))))
 |_=> .un
end
end Kv
end
end Go.Proofs.YtcdiljebkpikbaaGreat
